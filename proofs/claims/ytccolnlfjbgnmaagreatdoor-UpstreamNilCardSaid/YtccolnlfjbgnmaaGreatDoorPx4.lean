/- Numbers: the laws LexisNumbers and LexisBack: own text of this session. -/
import Derived.Test.YtccolnlfjbgnmaaGreatDoorPx3
namespace Go.Proofs.YtccolnlfjbgnmaaGreatDoor.Px
open Go.RowKit Go.Proofs.YtccolnlfjbgnmaaGreatDoor.P Go.Proofs.YtccolnlfjbgnmaaGreatDoorW.PrintWords Go.Proofs.YtccolnlfjbgnmaaGreatDoorW.PrintLast Go.Proofs.Hr
set_option linter.unusedVariables false
set_option linter.unusedSimpArgs false
theorem lDigits (s : ByteArray) (hs : s.size ≤ 281474976710656) (base : Int) (hb : base = 10 ∨ base = 16) : lexis_digits.f s base = some (digits base.toNat s.data.toList) := by
  unfold lexis_digits.f
  rw [if_pos ⟨hs, hb⟩]
theorem lNumber (s : ByteArray) (hs : s.size ≤ 281474976710656) : lexis_Number.f s = some (digits 10 s.data.toList) := by
  unfold lexis_Number.f
  rw [lDigits s hs 10 (Or.inl rfl)]; rfl
theorem lHex (s : ByteArray) (hs : s.size ≤ 281474976710656) : lexis_Hex.f s = some (digits 16 s.data.toList) := by
  unfold lexis_Hex.f
  rw [lDigits s hs 16 (Or.inr rfl)]; rfl
theorem digitOf_lt (base : Nat) (c : UInt8) (d : Nat) (h : digitOf base c = some d) : d < base := by
  unfold digitOf at h
  split at h
  · split at h
    · injection h with h; omega
    · cases h
  · split at h
    · split at h
      · injection h with h; omega
      · cases h
    · split at h
      · split at h
        · injection h with h; omega
        · cases h
      · cases h
end Go.Proofs.YtccolnlfjbgnmaaGreatDoor.Px
