/- Package fields, plainly: Check; and the contracts that a trailer's line asks; own text of this session. -/
import Derived.Test.YtnlicpihondmgaaDoorChk6
namespace Go.Proofs.YtnlicpihondmgaaDoor.Chk
open Go.RowKit Go.Proofs.YtnlicpihondmgaaDoorW.PrintWords Go.Proofs.YtnlicpihondmgaaDoorW.PrintLast Px
set_option linter.unusedVariables false
/-- What is wrong with a field. -/
def fldE (f : Fld) : Int := if Px.token f.f0.data.toList = true then (if Px.value f.f1.data.toList = true then 0 else 71) else 70
def chkGo : List Fld → Int
  | [] => 0
  | f :: r => if fldE f = 0 then chkGo r else fldE f
def chkS (l : List Fld) : Int := if l.length > 100 then 2 else chkGo l
theorem ev_field (f : Fld) (h0 : f.f0.size ≤ 4611686018427387904) (h1 : f.f1.size ≤ 4611686018427387904) : Ev (fun k => P.fields_field.f k f.f0 f.f1) (fldE f) := by
  unfold P.fields_field.f fldE
  refine Ev.bind (Px.ev_Token f.f0 h0) ?_
  refine Px.ev_ite (fun h => ?_) (fun h => ?_)
  · rw [if_pos h]
    refine Ev.bind (Px.ev_Value f.f1 h1) ?_
    refine Px.ev_ite (fun h2 => ?_) (fun h2 => ?_)
    · rw [if_pos h2]; exact Ev.now _
    · rw [if_neg h2]; exact Ev.now _
  · rw [if_neg h]; exact Ev.now _
theorem rd_fld {l r : List Fld} {f : Fld} {i : Nat} (h : l.drop i = f :: r) : P.rd_T49 l (i : Int) = f := by
  have hi := Px.drop_lt h
  unfold P.rd_T49
  rw [Int.toNat_natCast, List.getD_eq_getElem?_getD, List.getElem?_eq_getElem hi]
  have := List.drop_eq_getElem_cons hi
  rw [h] at this
  injection this with h1 _
  rw [← h1]; rfl
theorem ev_Check_l0 (l : List Fld) (hl : l.length ≤ 100) (hs : ∀ f ∈ l, f.f0.size ≤ 4611686018427387904 ∧ f.f1.size ≤ 4611686018427387904) (rest : List Fld) : ∀ i : Nat, l.drop i = rest → Ev (fun k => P.fields_Check.l0 k l (l.length : Int) (i : Int)) (chkGo rest) := by
  induction rest with
  | nil =>
    intro i hi
    have := Px.drop_nil hi
    refine Ev.step (fun k => rfl) ?_
    simp only [P.fields_Check.l0, if_neg (show ¬ (i : Int) < (l.length : Int) by omega)]
    exact Ev.now _
  | cons f r ih =>
    intro i hi
    have hlt := Px.drop_lt hi
    have hf := hs f (List.mem_of_mem_drop (by rw [hi]; simp))
    refine Ev.step (fun k => rfl) ?_
    simp only [P.fields_Check.l0, if_pos (show (i : Int) < (l.length : Int) by omega), if_pos (show 0 ≤ (i : Int) by omega), rd_fld hi, Px.w64 (show i < 9223372036854775807 by omega)]
    refine Ev.bind (ev_field f hf.1 hf.2) ?_
    unfold chkGo
    refine Px.ev_ite (fun h => ?_) (fun h => ?_)
    · rw [if_pos h]; exact ih (i + 1) (Px.drop_succ hi)
    · rw [if_neg h]; exact Ev.now _
theorem ev_Check (l : List Fld) (hs : ∀ f ∈ l, f.f0.size ≤ 4611686018427387904 ∧ f.f1.size ≤ 4611686018427387904) : Ev (fun k => P.fields_Check.f k l) (chkS l) := by
  unfold P.fields_Check.f chkS
  refine Px.ev_ite (fun h => ?_) (fun h => ?_)
  · rw [if_pos (by omega)]; exact Ev.now _
  · rw [if_neg (by omega)]; exact ev_Check_l0 l (by omega) hs l 0 rfl
theorem check_calls (l : List Fld) (A : Option Addr) (c : Nat) (w : World) (hr : Kd.C P.k49 w A l.length l) (hc : l.length ≤ c) (hs : ∀ f ∈ l, f.f0.size ≤ 4611686018427387904 ∧ f.f1.size ≤ 4611686018427387904) :
    Calls Tryd.prog 33 #[.slice A l.length c] w fun e w' => e = .returned (.int .i64 (chkS l)) ∧ Below w.heap.size w w' := by
  obtain ⟨k, hk⟩ := (ev_Check l hs).rounds
  exact P.fields_Check.calls k A c l _ w hr hc hk
/-- A row of one field, new. -/
theorem one_fld (W : World) (f : Fld) : Kd.C P.k49 (W.alloc (.cells #[.string f.f0, .string f.f1] 49)) (some ⟨W.heap.size, 0, none⟩) [f].length [f] := by
  refine ⟨rfl, by simp, fun _ => ⟨⟨W.heap.size, 0, none⟩, rfl, fun j q hj => ?_⟩⟩
  have hj0 : j = 0 := by
    have := (List.getElem?_eq_some_iff.1 hj).1
    simp at this; exact this
  subst hj0
  simp only [List.getElem?_cons_zero, Option.some.injEq] at hj
  subst hj
  refine ⟨[.string f.f0, .string f.f1], rfl, P.k49_mk _ f, fun i u hu => ?_⟩
  rw [Nat.zero_mul, Nat.zero_add, add_plain]
  exact (blk_cell (t := 49) (cs := #[.string f.f0, .string f.f1]) (blk_new W _) i).trans (by simpa using hu)
theorem one_check (f : Fld) (W : World) (r : Int) (h0 : f.f0.size ≤ 4611686018427387904) (h1 : f.f1.size ≤ 4611686018427387904) (hr : fldE f = r) :
    Calls Tryd.prog 33 #[.slice (some ⟨W.heap.size, 0, none⟩) 1 1] (W.alloc (.cells #[.string f.f0, .string f.f1] 49)) fun e w' => e = .returned (.int .i64 r) ∧ Below (W.alloc (.cells #[.string f.f0, .string f.f1] 49)).heap.size (W.alloc (.cells #[.string f.f0, .string f.f1] 49)) w' := by
  have h := check_calls [f] (some ⟨W.heap.size, 0, none⟩) 1 _ (one_fld W f) (Nat.le_refl _) (fun g hg => by obtain rfl := List.mem_singleton.1 hg; exact ⟨h0, h1⟩)
  have e : chkS [f] = r := by
    unfold chkS chkGo chkGo
    rw [if_neg (by simp), ← hr]
    split
    · rename_i h; rw [h]
    · rfl
  rw [e] at h
  exact h
/-- A trailer's line. -/
def trailerF (s : ByteArray) : Fld := ⟨Px.mkB (Lib.cut s.data.toList [58]).1, Px.mkB (Hr.trim (Lib.cut s.data.toList [58]).2.1)⟩
def trailerS (d : Dec) (c : Int) : Dec × Int :=
  match (lined d.line c).2.1 with
  | none => ({ d with line := (lined d.line c).1 }, (lined d.line c).2.2)
  | some s =>
    if s.size = 0 then ({ d with line := (lined d.line c).1, whole := true }, 0)
    else if (Lib.cut s.data.toList [58]).2.2 = false ∨ d.tr.length = 100 ∨ ¬ fldE (trailerF s) = 0 then ({ d with line := (lined d.line c).1 }, 100)
    else ({ d with line := (lined d.line c).1, tr := d.tr ++ [trailerF s] }, 0)
theorem trim_calls (s : ByteArray) (w : World) (hs : s.size ≤ 4611686018427387904) :
    Calls Tryd.prog 58 #[.string s] w fun e w' => e = .returned (.string (Px.mkB (Hr.trim s.data.toList))) ∧ Below w.heap.size w w' := Lex.lexTrim_calls s w hs
/-- The trailers were appended to. -/
theorem Rep.trTo {w w1 : World} {F : Nat → Prop} {p : Nat} {vl vo vt : Value} {d : Dec} {v1 : Value} {l1 : List Fld} (h : Rep w F p vl vo vt d) (hg : w.grownBy w1 vt.ownBlock)
    (hR : fldK.R 49 w1 0 (fun k => F k ∨ w.heap.size ≤ k) v1 l1) : w1.heap[p]? = some (.cells (cellsOf p d vl vo vt) 65 (0, 0)) ∧ Rep (w1.setCell ⟨p, 5, none⟩ v1) (fun k => F k ∨ w.heap.size ≤ k) p vl vo v1 { d with tr := l1 } ∧ Stay F w (w1.setCell ⟨p, 5, none⟩ v1) := by
  have hp := R_neT h.tr h.blk ne_dec.2.1
  have hb : w1.heap[p]? = some (.cells (cellsOf p d vl vo vt) 65 (0, 0)) := (hg.block p h.lt hp).trans h.blk
  have hother : ∀ {ok : Nat → Prop} {v : Value} {xs : List Int}, (Kd.int .u8).R 5 w 0 ok v xs → (Kd.int .u8).R 5 w1 0 ok v xs := by
    intro ok v xs hv
    refine Kd.R_mono (Kd.R_grown (row := vt.ownBlock) (Kd.R_bound hv) hg ?_) (fun k hk => hk.1)
    rintro k ⟨_, _, _, q, hq, cells, hc⟩ he
    rcases List.mem_cons.1 hq with rfl | h2
    · exact R_neT h.tr hc (fun e => ne_dec.2.2.2 e.symm) he
    · cases h2
  exact ⟨hb, Rep.store hb rfl (.inl h.inF) (Kd.R_mono (hother h.line) (fun k hk => ⟨.inl hk.1, hk.2⟩)) (Kd.R_mono (hother h.out) (fun k hk => ⟨.inl hk.1, hk.2⟩)) hR, (Stay.grown hg (fun k hk => h.tr.1 k hk)).set h.inF _⟩
theorem info_fld : (Tryd.prog.info? 49).map (fun i => (i.zero, i.size, i.bytes)) = some (some (.agg #[.string ⟨#[]⟩, .string ⟨#[]⟩]), 2, 32) := by kernel_rfl
end Go.Proofs.YtnlicpihondmgaaDoor.Chk
