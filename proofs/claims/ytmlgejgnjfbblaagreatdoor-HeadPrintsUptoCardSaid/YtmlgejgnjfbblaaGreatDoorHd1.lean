/- Package head, by hand: lines and bytes of a head, plainly; own text of this session. -/
import Derived.Test.YtmlgejgnjfbblaaGreatDoorChB
namespace Go.Proofs.YtmlgejgnjfbblaaGreatDoor.Hd
open Go.RowKit Go.Proofs.YtmlgejgnjfbblaaGreatDoorW.PrintWords Go.Proofs.YtmlgejgnjfbblaaGreatDoorW.PrintLast Chk Px Hr
set_option linter.unusedVariables false
/-- A head: whether it is a request's, method, target, minor number, status, reason, fields. -/
structure Head where
  f0 : Bool
  f1 : ByteArray
  f2 : ByteArray
  f3 : Int
  f4 : Int
  f5 : ByteArray
  f6 : List Fld
/-- What is wrong: a byte; a line. -/
inductive Er where
  | bare (c : Int)
  | at (l c : Int)
def codeOf : Option Er → Int
  | none => 0
  | some (.bare c) => c
  | some (.at _ c) => c
/-- What a parser holds (st: 0 a request's first line, 1 a response's, 2 a field). -/
structure Par where
  most : Int
  rd : Int
  lines : Int
  line : List Int
  st : Nat
  hd : Head
  whole : Bool
  err : Option Er
def http0 : Bs := [72, 84, 84, 80, 47, 49, 46, 48]
def http1 : Bs := [72, 84, 84, 80, 47, 49, 46, 49]
def digB (c : UInt8) : Bool := decide (48 ≤ c.toNat) && decide (c.toNat ≤ 57)
def verLike (l : Bs) : Bool := decide (l.length = 8) && (l.take 5 == [72, 84, 84, 80, 47]) && digB (l.getD 5 0) && (l.getD 6 0 == 46) && digB (l.getD 7 0)
/-- A version: the minor number, what is wrong. -/
def versionS (l : Bs) : Int × Int := if l = http0 then (0, 0) else if l = http1 then (1, 0) else if verLike l = true then (0, 86) else (0, 80)
def visB (c : UInt8) : Bool := !(decide (c.toNat < 33) || decide (c.toNat > 126))
def visS (l : Bs) : Bool := l.all visB && l != []
/-- A text in three, at its first two blanks. -/
def three (l : Bs) : Option (Bs × Bs × Bs) :=
  if (Lib.cut l [32]).2.2 = true ∧ (Lib.cut (Lib.cut l [32]).2.1 [32]).2.2 = true then some ((Lib.cut l [32]).1, (Lib.cut (Lib.cut l [32]).2.1 [32]).1, (Lib.cut (Lib.cut l [32]).2.1 [32]).2.1) else none
def reqS (p : Par) (l : Bs) : Par × Int :=
  if l = [] ∧ p.lines ≤ 4 then (p, 0)
  else match three l with
    | none => (p, 80)
    | some (a, b, c) =>
      if c.contains 32 = true ∨ token a = false ∨ visS b = false then (p, 80)
      else ({ p with hd := ⟨p.hd.f0, mkB a, mkB b, (versionS c).1, p.hd.f4, p.hd.f5, p.hd.f6⟩, st := 2 }, (versionS c).2)
def respS (p : Par) (l : Bs) : Par × Int :=
  match three l with
    | none => (p, 80)
    | some (a, b, c) =>
      if ¬ b.length = 3 ∨ value ([97] ++ c ++ [97]) = false ∨ ¬ (digits 10 b).2 = 0 ∨ (digits 10 b).1 < 100 ∨ 599 < (digits 10 b).1 then (p, 80)
      else ({ p with hd := ⟨p.hd.f0, p.hd.f1, p.hd.f2, (versionS a).1, (digits 10 b).1, mkB c, p.hd.f6⟩, st := 2 }, (versionS a).2)
def lastBlank (l : Bs) : Bool := match l.reverse with | [] => false | c :: _ => isBlank c
/-- A field line: what is wrong. -/
def fieldE (l : Bs) : Int :=
  if isBlank (l.getD 0 0) = true then 82
  else if (Lib.cut l [58]).2.2 = false then 84
  else if lastBlank (Lib.cut l [58]).1 = true then 83
  else if token (Lib.cut l [58]).1 = false then 70
  else if value (trim (Lib.cut l [58]).2.1) = false then 71
  else 0
def fieldF (l : Bs) : Fld := ⟨mkB (Lib.cut l [58]).1, mkB (trim (Lib.cut l [58]).2.1)⟩
def fldS (p : Par) (l : Bs) : Par × Int :=
  if l = [] then ({ p with whole := true }, 0)
  else if ¬ fieldE l = 0 then (p, fieldE l)
  else if p.hd.f6.length = 100 then (p, 85)
  else ({ p with hd := ⟨p.hd.f0, p.hd.f1, p.hd.f2, p.hd.f3, p.hd.f4, p.hd.f5, p.hd.f6 ++ [fieldF l]⟩ }, 0)
def lineS (p : Par) (l : Bs) : Par × Int :=
  match p.st with
  | 0 => reqS p l
  | 1 => respS p l
  | _ => fldS p l
def bytesS (l : List Int) : Bs := (strOfNums l).data.toList
/-- A byte is read. -/
def takeS (p : Par) (c : Int) : Par × Option Er :=
  let n := p.line.length
  let after := decide (0 < n) && (rd p.line ((n : Int) - 1) == 13)
  if (c == 10) != after then (p, some (.bare 81))
  else if p.rd + 1 > p.most ∨ (after = false ∧ (if c ≠ 10 ∧ c ≠ 13 then (n : Int) + 1 else n) > 8192) then ({ p with rd := p.rd + 1 }, some (.bare 85))
  else if c ≠ 10 then ({ p with rd := p.rd + 1, line := p.line ++ [c] }, none)
  else
    let q := lineS { p with rd := p.rd + 1, line := [], lines := p.lines + 1 } (bytesS (p.line.take (n - 1)))
    (q.1, if q.2 = 0 then none else some (.at (p.lines + 1) q.2))
/-- Bytes are read: the parser then, how many. -/
def feedP : Par → List Int → Nat → Par × Nat
  | p, [], n => (p, n)
  | p, c :: r, n => if p.whole = true ∨ p.err.isSome = true then (p, n) else feedP { (takeS p c).1 with err := (takeS p c).2 } r (n + 1)
def head0 (request : Bool) : Head := ⟨request, ⟨#[]⟩, ⟨#[]⟩, 0, 0, ⟨#[]⟩, []⟩
def newPar (request : Bool) (most : Int) : Par := ⟨most, 0, 0, [], if request then 0 else 1, head0 request, false, none⟩
def parseS (request : Bool) (b : List Int) : Head × Int × Int :=
  let q := feedP (newPar request 65536) b 0
  if ¬ codeOf q.1.err = 0 then (head0 false, 0, codeOf q.1.err) else if q.1.whole = false then (head0 false, 0, 6) else (q.1.hd, q.2, 0)
def erV : Option Er → Value
  | none => .nilIface
  | some (.bare c) => .iface 80 (.agg #[.int .i64 c])
  | some (.at l c) => .iface 78 (.agg #[.int .i64 l, .iface 80 (.agg #[.int .i64 c])])
def stF : Nat → Nat
  | 0 => 24
  | 1 => 23
  | _ => 35
def cellsOf (k : Nat) (p : Par) (vl vf : Value) : Array Value := #[.int .i64 p.most, .int .i64 p.rd, .int .i64 p.lines, vl, .func (.func (stF p.st)) #[.pointer (some ⟨k, 0, none⟩)] #[],
  .bool p.hd.f0, .string p.hd.f1, .string p.hd.f2, .int .i64 p.hd.f3, .int .i64 p.hd.f4, .string p.hd.f5, vf, .bool p.whole, erV p.err]
/-- A parser's memory: the struct's block k, and two rows. -/
structure Rep (w : World) (F : Nat → Prop) (k : Nat) (vl vf : Value) (p : Par) : Prop where
  blk : w.heap[k]? = some (.cells (cellsOf k p vl vf) 62 (0, 0))
  inF : F k
  line : (Kd.int .u8).R 5 w 0 F vl p.line
  flds : fldK.R 45 w 0 F vf p.hd.f6
theorem ne_par : (5 : Nat) ≠ 62 ∧ (45 : Nat) ≠ 62 ∧ (9 : Nat) ≠ 62 ∧ (5 : Nat) ≠ 45 := by decide
section
variable {w w1 : World} {F : Nat → Prop} {k : Nat} {vl vf : Value} {p : Par}
theorem Rep.lt (h : Rep w F k vl vf p) : k < w.heap.size := blk_lt h.blk
theorem Rep.mono {G : Nat → Prop} (h : Rep w F k vl vf p) (hG : ∀ i, F i → G i) : Rep w G k vl vf p :=
  ⟨h.blk, hG _ h.inF, Kd.R_mono h.line hG, Kd.R_mono h.flds hG⟩
/-- Where the parser's blocks are as they were. -/
theorem Rep.move (h : Rep w F k vl vf p) (hm : ∀ i, F i → i < w.heap.size → w1.heap[i]? = w.heap[i]?) : Rep w1 F k vl vf p :=
  ⟨(hm k h.inF h.lt).trans h.blk, h.inF, Kd.R_step h.line hm, Kd.R_step h.flds hm⟩
theorem Rep.below (h : Rep w F k vl vf p) (hb : Below w.heap.size w w1) : Rep w1 F k vl vf p := h.move (fun i _ hi => hb.block i hi)
theorem row_u8 {base : Nat} {ok : Nat → Prop} {v : Value} {xs : List Int} {C : Array Value} (h : (Kd.int .u8).R 5 w base ok v xs) (hb : w.heap[k]? = some (.cells C 62 (0, 0))) (i : Nat) (u : Value) : (Kd.int .u8).R 5 (w.setCell ⟨k, i, none⟩ u) base ok v xs :=
  Kd.R_set h hb (fun q hq => by rcases List.mem_cons.1 hq with rfl | h2; exact ne_par.1; cases h2) i u
theorem row_fld {base : Nat} {ok : Nat → Prop} {v : Value} {xs : List Fld} {C : Array Value} (h : fldK.R 45 w base ok v xs) (hb : w.heap[k]? = some (.cells C 62 (0, 0))) (i : Nat) (u : Value) : fldK.R 45 (w.setCell ⟨k, i, none⟩ u) base ok v xs :=
  Kd.R_set h hb (fun q hq => by rcases List.mem_cons.1 hq with rfl | h2; exact ne_par.2.1; exact absurd h2 (by simp [fldK, P.k45, Kd.iso, Kd.pair, Kd.string, Kd.scalar])) i u
/-- A store into the struct's block. -/
theorem Rep.store {C : Array Value} {i : Nat} {v : Value} (hb : w.heap[k]? = some (.cells C 62 (0, 0))) (hi : C.setIfInBounds i v = cellsOf k p vl vf) (hF : F k)
    (hl : (Kd.int .u8).R 5 w 0 F vl p.line) (ht : fldK.R 45 w 0 F vf p.hd.f6) : Rep (w.setCell ⟨k, i, none⟩ v) F k vl vf p :=
  ⟨by rw [blk_set hb, hi], hF, row_u8 hl hb i v, row_fld ht hb i v⟩
theorem Rep.scal {i : Nat} {v : Value} {p' : Par} (h : Rep w F k vl vf p) (hi : (cellsOf k p vl vf).setIfInBounds i v = cellsOf k p' vl vf) (e1 : p'.line = p.line) (e2 : p'.hd.f6 = p.hd.f6) : Rep (w.setCell ⟨k, i, none⟩ v) F k vl vf p' :=
  Rep.store h.blk hi h.inF (by rw [e1]; exact h.line) (by rw [e2]; exact h.flds)
/-- The line was appended to (v1 in w1), and the struct's cell bears it. -/
theorem Rep.lineTo {v1 : Value} {l1 : List Int} (h : Rep w F k vl vf p) (hg : w.grownBy w1 vl.ownBlock)
    (hR : (Kd.int .u8).R 5 w1 0 (fun i => F i ∨ w.heap.size ≤ i) v1 l1) : w1.heap[k]? = some (.cells (cellsOf k p vl vf) 62 (0, 0)) ∧ Rep (w1.setCell ⟨k, 3, none⟩ v1) (fun i => F i ∨ w.heap.size ≤ i) k v1 vf { p with line := l1 } ∧ Stay F w (w1.setCell ⟨k, 3, none⟩ v1) := by
  have hp := R_neT h.line h.blk ne_par.1
  have hb : w1.heap[k]? = some (.cells (cellsOf k p vl vf) 62 (0, 0)) := (hg.block k h.lt hp).trans h.blk
  refine ⟨hb, Rep.store hb rfl (.inl h.inF) hR ?_, ?_⟩
  · refine Kd.R_mono (Kd.R_grown (row := vl.ownBlock) (Kd.R_bound h.flds) hg ?_) (fun i hk => .inl hk.1)
    rintro i ⟨_, _, _, q, hq, cells, hc⟩ he
    rcases List.mem_cons.1 hq with rfl | h2
    · exact R_neT h.line hc ne_par.2.2.2 he
    · exact absurd h2 (by simp [fldK, P.k45, Kd.iso, Kd.pair, Kd.string, Kd.scalar])
  · exact (Stay.grown hg (fun i hk => h.line.1 i hk)).set h.inF _
theorem Rep.lineNil (h : Rep w F k vl vf p) : Rep (w.setCell ⟨k, 3, none⟩ (.slice none 0 0)) F k (.slice none 0 0) vf { p with line := [] } :=
  Rep.store h.blk rfl h.inF (Kd.R_nil _ _ _ _ _) h.flds
/-- The fields were appended to. -/
theorem Rep.fldTo {v1 : Value} {l1 : List Fld} (h : Rep w F k vl vf p) (hg : w.grownBy w1 vf.ownBlock)
    (hR : fldK.R 45 w1 0 (fun i => F i ∨ w.heap.size ≤ i) v1 l1) : w1.heap[k]? = some (.cells (cellsOf k p vl vf) 62 (0, 0)) ∧ Rep (w1.setCell ⟨k, 11, none⟩ v1) (fun i => F i ∨ w.heap.size ≤ i) k vl v1 { p with hd := ⟨p.hd.f0, p.hd.f1, p.hd.f2, p.hd.f3, p.hd.f4, p.hd.f5, l1⟩ } ∧ Stay F w (w1.setCell ⟨k, 11, none⟩ v1) := by
  have hp := R_neT h.flds h.blk ne_par.2.1
  have hb : w1.heap[k]? = some (.cells (cellsOf k p vl vf) 62 (0, 0)) := (hg.block k h.lt hp).trans h.blk
  refine ⟨hb, Rep.store hb rfl (.inl h.inF) ?_ hR, (Stay.grown hg (fun i hk => h.flds.1 i hk)).set h.inF _⟩
  refine Kd.R_mono (Kd.R_grown (row := vf.ownBlock) (Kd.R_bound h.line) hg ?_) (fun i hk => .inl hk.1)
  rintro i ⟨_, _, _, q, hq, cells, hc⟩ he
  rcases List.mem_cons.1 hq with rfl | h2
  · exact R_neT h.flds hc (fun e => ne_par.2.2.2 e.symm) he
  · cases h2
end
end Go.Proofs.YtmlgejgnjfbblaaGreatDoor.Hd
