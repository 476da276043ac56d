/-
  No cell of these rows narrows 'for every input' (looked for: loops, veiled, ifaces, maps, wideKeys, modest, calm, conditions, laid).
  DERIVED. THE GIVEN ROWS OF THIS SEAT. 5 by the template 'for every input the law returns true; each argument reads behind the call as it read before'; 0 by the template 'total and deterministic' (their statements: YtlbedgiebcpncaaTotals.lean).
  GIVEN WITH THE SEED: the statements are not yours to turn. If you find one false, say at which input.
  Laid BY PROGRAM, IN A SANDBOX (cutbox-rows.mjs): the forced cells as the released guide's own fill.sh prints them over the translation eeca417f26fb983e… (all of the seat's roots in one cut). By AI agents, Wed Nov 11 2026. No macro, syntax, notation, axiom, sorry.
-/
import Derived.Test.YtlbedgiebcpncaaChecked
import GoSem.Claim
import GoSem.ClaimJoined
import GoSem.ClaimMapViews
import Derived.JoinedTies
import Derived.KernelRfl
namespace Go.Proofs.Ytlbedgiebcpncaa
/- THE CELL 'sum', in the pinned program and in every row, IS THE sha256 OF THE DUMP (.gsa) THAT YtlbedgiebcpncaaProg.lean LOADS. Nothing in Lean hashes anything: it is a label: what it is worth is what the hold of that sum in a sandbox is worth. -/
noncomputable def Try.pinned : Pinned := { name := "ytlbedgiebcpncaa", sum := "eeca417f26fb983e32ad6f6a8b358a870216efcd53022533a6f29b8738464b3b", checked := Try.checked }
namespace Rows
def none {H : Type} : Left H := { results := [], args := [] }

/-- 'headracelaw04.WorldBytes': WHATEVER THE INPUT: true; the input reads as it did. -/
def worldBytesSpec : ChangeSpec := { name := "worldBytes", fn := fun _ => fun
  | [d1, d2] => { results := [.lit (.bool true)], args := [d1, d2] }
  | _ => none }
def worldBytesRow : OpenClaim := { program := "ytlbedgiebcpncaa", sum := "eeca417f26fb983e32ad6f6a8b358a870216efcd53022533a6f29b8738464b3b", func := "headrace/headracelaw04.WorldBytes", spec := "worldBytes", recurses := true, apart := false }
def WorldBytesSaid : Prop := worldBytesRow.holds Try.pinned (OpenSpec.ofChange worldBytesSpec)

/-- ITS FALSE NEIGHBOUR: 'it returns false'. Refute it at one input. -/
def worldBytesWrong : ChangeSpec := { name := "worldBytes", fn := fun _ => fun
  | [d1, d2] => { results := [.lit (.bool false)], args := [d1, d2] }
  | _ => none }
def WorldBytesWrongFalsely : Prop := worldBytesRow.holds Try.pinned (OpenSpec.ofChange worldBytesWrong)

/-- 'headracelaw04.WorldRoom': WHATEVER THE INPUT: true; the input reads as it did. -/
def worldRoomSpec : ChangeSpec := { name := "worldRoom", fn := fun _ => fun
  | [d1, d2] => { results := [.lit (.bool true)], args := [d1, d2] }
  | _ => none }
def worldRoomRow : OpenClaim := { program := "ytlbedgiebcpncaa", sum := "eeca417f26fb983e32ad6f6a8b358a870216efcd53022533a6f29b8738464b3b", func := "headrace/headracelaw04.WorldRoom", spec := "worldRoom", recurses := true, apart := false }
def WorldRoomSaid : Prop := worldRoomRow.holds Try.pinned (OpenSpec.ofChange worldRoomSpec)

/-- ITS FALSE NEIGHBOUR: 'it returns false'. Refute it at one input. -/
def worldRoomWrong : ChangeSpec := { name := "worldRoom", fn := fun _ => fun
  | [d1, d2] => { results := [.lit (.bool false)], args := [d1, d2] }
  | _ => none }
def WorldRoomWrongFalsely : Prop := worldRoomRow.holds Try.pinned (OpenSpec.ofChange worldRoomWrong)

/-- 'headracelaw04.WorldSteps': WHATEVER THE INPUT: true; the input reads as it did. -/
def worldStepsSpec : ChangeSpec := { name := "worldSteps", fn := fun _ => fun
  | [d] => { results := [.lit (.bool true)], args := [d] }
  | _ => none }
def worldStepsRow : OpenClaim := { program := "ytlbedgiebcpncaa", sum := "eeca417f26fb983e32ad6f6a8b358a870216efcd53022533a6f29b8738464b3b", func := "headrace/headracelaw04.WorldSteps", spec := "worldSteps", recurses := true, apart := false }
def WorldStepsSaid : Prop := worldStepsRow.holds Try.pinned (OpenSpec.ofChange worldStepsSpec)

/-- ITS FALSE NEIGHBOUR: 'it returns false'. Refute it at one input. -/
def worldStepsWrong : ChangeSpec := { name := "worldSteps", fn := fun _ => fun
  | [d] => { results := [.lit (.bool false)], args := [d] }
  | _ => none }
def WorldStepsWrongFalsely : Prop := worldStepsRow.holds Try.pinned (OpenSpec.ofChange worldStepsWrong)

/-- 'headracelaw04.WorldNil': WHATEVER THE INPUT: true; the input reads as it did. -/
def worldNilSpec : ChangeSpec := { name := "worldNil", fn := fun _ => fun
  | [d1, d2] => { results := [.lit (.bool true)], args := [d1, d2] }
  | _ => none }
def worldNilRow : OpenClaim := { program := "ytlbedgiebcpncaa", sum := "eeca417f26fb983e32ad6f6a8b358a870216efcd53022533a6f29b8738464b3b", func := "headrace/headracelaw04.WorldNil", spec := "worldNil", recurses := true, apart := false }
def WorldNilSaid : Prop := worldNilRow.holds Try.pinned (OpenSpec.ofChange worldNilSpec)

/-- ITS FALSE NEIGHBOUR: 'it returns false'. Refute it at one input. -/
def worldNilWrong : ChangeSpec := { name := "worldNil", fn := fun _ => fun
  | [d1, d2] => { results := [.lit (.bool false)], args := [d1, d2] }
  | _ => none }
def WorldNilWrongFalsely : Prop := worldNilRow.holds Try.pinned (OpenSpec.ofChange worldNilWrong)

/-- 'headracelaw04.WorldApart': WHATEVER THE INPUT: true; the input reads as it did. -/
def worldApartSpec : ChangeSpec := { name := "worldApart", fn := fun _ => fun
  | [d1, d2] => { results := [.lit (.bool true)], args := [d1, d2] }
  | _ => none }
def worldApartRow : OpenClaim := { program := "ytlbedgiebcpncaa", sum := "eeca417f26fb983e32ad6f6a8b358a870216efcd53022533a6f29b8738464b3b", func := "headrace/headracelaw04.WorldApart", spec := "worldApart", recurses := true, apart := false }
def WorldApartSaid : Prop := worldApartRow.holds Try.pinned (OpenSpec.ofChange worldApartSpec)

/-- ITS FALSE NEIGHBOUR: 'it returns false'. Refute it at one input. -/
def worldApartWrong : ChangeSpec := { name := "worldApart", fn := fun _ => fun
  | [d1, d2] => { results := [.lit (.bool false)], args := [d1, d2] }
  | _ => none }
def WorldApartWrongFalsely : Prop := worldApartRow.holds Try.pinned (OpenSpec.ofChange worldApartWrong)

/- THE SECOND FORM. 'bulk': how many values and letters a reading holds, each counted each time it is reached (what is shared counts as often as it is met; a slice's spare places count too). A statement '..UptoSaid' is the law's where the arguments, and the package variables that the reading takes, are together of bulk at most 1048576: NARROWER than '..Said'. Prove '..Said' where nothing that the law and all that it calls make is longer than what came in: it says more and counts as full. Else prove '..UptoSaid'. A law counts once. -/
mutual
def uptoBulk {H : Type} : DataW H → Nat
  | .lit (.string bytes) => bytes.length + 1
  | .lit _ => 1
  | .nil => 1
  | .ptr d => uptoBulk d + 1
  | .slice elems spare => uptoBulkAll elems + uptoBulkAll spare + 1
  | .agg parts => uptoBulkAll parts + 1
  | .iface _ d => uptoBulk d + 1
  | .map entries => uptoBulkEntries entries + 1
  | .held _ => 1
def uptoBulkAll {H : Type} : List (DataW H) → Nat
  | [] => 0
  | d :: r => uptoBulk d + uptoBulkAll r
def uptoBulkEntries {H : Type} : List (Lit × DataW H) → Nat
  | [] => 0
  | x :: r => uptoBulkEntry x + uptoBulkEntries r
def uptoBulkEntry {H : Type} : Lit × DataW H → Nat
  | (.string bytes, d) => bytes.length + uptoBulk d + 1
  | (_, d) => uptoBulk d + 1
 end
def uptoSmall : (H : Type) → List (DataW H) → Bool := fun _ ds => decide (uptoBulkAll ds ≤ 1048576)
def OpenSpec.upto (s : _root_.Go.ChangeSpec) : _root_.Go.OpenSpec := { _root_.Go.OpenSpec.ofChange s with cond := some uptoSmall }

/-- 'headracelaw04.WorldBytes', WHERE WHAT IT READS IS OF BULK AT MOST 1048576: true; the input reads as it did. -/
def worldBytesUptoRow : OpenClaim := { program := "ytlbedgiebcpncaa", sum := "eeca417f26fb983e32ad6f6a8b358a870216efcd53022533a6f29b8738464b3b", func := "headrace/headracelaw04.WorldBytes", spec := "worldBytes", recurses := true, apart := false, narrowed := true }
def WorldBytesUptoSaid : Prop := worldBytesUptoRow.holds Try.pinned (OpenSpec.upto worldBytesSpec)

/-- 'headracelaw04.WorldRoom', WHERE WHAT IT READS IS OF BULK AT MOST 1048576: true; the input reads as it did. -/
def worldRoomUptoRow : OpenClaim := { program := "ytlbedgiebcpncaa", sum := "eeca417f26fb983e32ad6f6a8b358a870216efcd53022533a6f29b8738464b3b", func := "headrace/headracelaw04.WorldRoom", spec := "worldRoom", recurses := true, apart := false, narrowed := true }
def WorldRoomUptoSaid : Prop := worldRoomUptoRow.holds Try.pinned (OpenSpec.upto worldRoomSpec)

/-- 'headracelaw04.WorldSteps', WHERE WHAT IT READS IS OF BULK AT MOST 1048576: true; the input reads as it did. -/
def worldStepsUptoRow : OpenClaim := { program := "ytlbedgiebcpncaa", sum := "eeca417f26fb983e32ad6f6a8b358a870216efcd53022533a6f29b8738464b3b", func := "headrace/headracelaw04.WorldSteps", spec := "worldSteps", recurses := true, apart := false, narrowed := true }
def WorldStepsUptoSaid : Prop := worldStepsUptoRow.holds Try.pinned (OpenSpec.upto worldStepsSpec)

/-- 'headracelaw04.WorldNil', WHERE WHAT IT READS IS OF BULK AT MOST 1048576: true; the input reads as it did. -/
def worldNilUptoRow : OpenClaim := { program := "ytlbedgiebcpncaa", sum := "eeca417f26fb983e32ad6f6a8b358a870216efcd53022533a6f29b8738464b3b", func := "headrace/headracelaw04.WorldNil", spec := "worldNil", recurses := true, apart := false, narrowed := true }
def WorldNilUptoSaid : Prop := worldNilUptoRow.holds Try.pinned (OpenSpec.upto worldNilSpec)

/-- 'headracelaw04.WorldApart', WHERE WHAT IT READS IS OF BULK AT MOST 1048576: true; the input reads as it did. -/
def worldApartUptoRow : OpenClaim := { program := "ytlbedgiebcpncaa", sum := "eeca417f26fb983e32ad6f6a8b358a870216efcd53022533a6f29b8738464b3b", func := "headrace/headracelaw04.WorldApart", spec := "worldApart", recurses := true, apart := false, narrowed := true }
def WorldApartUptoSaid : Prop := worldApartUptoRow.holds Try.pinned (OpenSpec.upto worldApartSpec)

end Rows
end Go.Proofs.Ytlbedgiebcpncaa
