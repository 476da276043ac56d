/- Package chunked, by hand: what a byte of a size line does; own text of this session. -/
import Derived.Test.YtnlicpihondmgaaDoorChk4
import Derived.Test.YtnlicpihondmgaaDoorPx2
import Derived.Test.YtnlicpihondmgaaDoorPx4
import Derived.Test.YtnlicpihondmgaaDoorShelf
namespace Go.Proofs.YtnlicpihondmgaaDoor.Chk
open Go.RowKit Go.Proofs.YtnlicpihondmgaaDoorW.PrintWords Go.Proofs.YtnlicpihondmgaaDoorW.PrintLast
set_option linter.unusedVariables false
theorem lined_none (w : World) (F : Nat → Prop) (p : Nat) (vl vo vt : Value) (d : Dec) (c : Int) (l1 : List Int) (e1 : Int) (h : Rep w F p vl vo vt d) (hl : d.line.length ≤ 1099511627776) (hr : lined d.line c = (l1, none, e1)) :
    Calls Tryd.prog 43 #[.pointer (some ⟨p, 0, none⟩), .int .u8 c] w fun e w' => e = .returned (.tuple #[.string ⟨#[]⟩, .bool false, .int .i64 e1]) ∧ (∃ vl', Rep w' (fun k => F k ∨ w.heap.size ≤ k) p vl' vo vt { d with line := l1 }) ∧ Stay F w w' := by
  have H := lined_calls w F p vl vo vt d c h hl
  rw [hr] at H
  exact H
theorem lined_some (w : World) (F : Nat → Prop) (p : Nat) (vl vo vt : Value) (d : Dec) (c : Int) (l1 : List Int) (s : ByteArray) (e1 : Int) (h : Rep w F p vl vo vt d) (hl : d.line.length ≤ 1099511627776) (hr : lined d.line c = (l1, some s, e1)) :
    Calls Tryd.prog 43 #[.pointer (some ⟨p, 0, none⟩), .int .u8 c] w fun e w' => e = .returned (.tuple #[.string s, .bool true, .int .i64 e1]) ∧ (∃ vl', Rep w' (fun k => F k ∨ w.heap.size ≤ k) p vl' vo vt { d with line := l1 }) ∧ Stay F w w' := by
  have H := lined_calls w F p vl vo vt d c h hl
  rw [hr] at H
  exact H
theorem lined_size (l : List Int) (c : Int) (l1 : List Int) (s : ByteArray) (e1 : Int) (h : lined l c = (l1, some s, e1)) : s.size ≤ l.length ∧ l1 = [] := by
  unfold lined at h
  split at h
  · simp at h
  · split at h
    · simp only [Prod.mk.injEq, Option.some.injEq] at h
      obtain ⟨rfl, rfl, rfl⟩ := h
      refine ⟨?_, rfl⟩
      simp [strOfNums, ByteArray.size]
    · split at h <;> simp at h
/-- What a size line says; none: it is wrong. -/
def sizeLine (s : ByteArray) : Option Int :=
  if (Hr.digits 16 (Lib.cut s.data.toList [59]).1).2 = 0 ∧ Px.value ([97] ++ (Lib.cut s.data.toList [59]).2.1 ++ [97]) = true then some (Hr.digits 16 (Lib.cut s.data.toList [59]).1).1 else none
def sizeN (d : Dec) (l1 : List Int) (n : Int) : Dec × Int :=
  if n > d.left then ({ d with line := l1 }, 2)
  else if n = 0 then ({ d with line := l1, st := 3 }, 0)
  else ({ d with line := l1, left := d.left - n, need := n, st := 1 }, 0)
/-- A byte of a size line. -/
def sizeS (d : Dec) (c : Int) : Dec × Int :=
  match (lined d.line c).2.1 with
  | none => ({ d with line := (lined d.line c).1 }, (lined d.line c).2.2)
  | some s => match sizeLine s with
    | none => ({ d with line := (lined d.line c).1 }, 100)
    | some n => sizeN d (lined d.line c).1 n
theorem cut_len (l : List UInt8) (b : UInt8) : (Lib.cut l [b]).1.length ≤ l.length ∧ (Lib.cut l [b]).2.1.length ≤ l.length := by
  unfold Lib.cut
  split <;> simp <;> omega
/-- strings.Cut. -/
theorem cut_calls (s : ByteArray) (b : UInt8) (w : World) (hs : s.size < 4294967281) (hG : GInv w) :
    Calls Tryd.prog 44 #[.string s, .string ⟨#[b]⟩] w fun e w' => e = .returned (.tuple #[.string (Px.mkB (Lib.cut s.data.toList [b]).1), .string (Px.mkB (Lib.cut s.data.toList [b]).2.1), .bool (Lib.cut s.data.toList [b]).2.2]) ∧ Below w.heap.size w w' := by
  obtain ⟨n, hn⟩ := hG.ml
  refine (Tryd.strings_Cut s ⟨#[b]⟩ n w hs hn).mono ?_
  rintro e w' ⟨rfl, k, rfl⟩
  exact ⟨rfl, pw_below_drewN (Below.refl _ _) k⟩
theorem hex_calls (s : ByteArray) (n f : Int) (w : World) (hs : s.size ≤ 281474976710656) (h : Hr.digits 16 s.data.toList = (n, f)) (hG : GInv w) :
    Calls Tryd.prog 45 #[.string s] w fun e w' => e = .returned (.tuple #[.int .i64 n, .int .i64 f]) ∧ Below w.heap.size w w' :=
  P.lexis_Hex.calls s n f w (by rw [Px.lHex s hs, h]) hG
theorem value_calls (s : ByteArray) (r : Bool) (w : World) (hs : s.size ≤ 281474976710656) (h : Px.value s.data.toList = r) :
    Calls Tryd.prog 46 #[.string s] w fun e w' => e = .returned (.bool r) ∧ Below w.heap.size w w' := by
  obtain ⟨k, hk⟩ := (Px.ev_Value s (by omega)).rounds
  rw [h] at hk
  exact P.lexis_Value.calls k s r w hk
theorem digits_nonneg (b : Nat) (s : Hr.Bs) : 0 ≤ (Hr.digits b s).1 := by
  unfold Hr.digits
  split
  · exact Int.le_refl 0
  · split
    · exact Int.le_refl 0
    · split
      · exact Int.le_refl 0
      · exact Int.natCast_nonneg _
end Go.Proofs.YtnlicpihondmgaaDoor.Chk
