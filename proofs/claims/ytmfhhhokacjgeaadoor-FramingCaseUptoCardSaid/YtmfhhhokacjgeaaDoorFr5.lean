/- The law FramingCase: own text of this session. -/
import Derived.Test.YtmfhhhokacjgeaaDoorFr3
import Derived.Test.YtmfhhhokacjgeaaDoorPx6
import Derived.Test.YtmfhhhokacjgeaaDoorP7
namespace Go.Proofs.YtmfhhhokacjgeaaDoor.Px
open Go.RowKit Go.Proofs.YtmfhhhokacjgeaaDoor.P Go.Proofs.YtmfhhhokacjgeaaDoorW.PrintWords Go.Proofs.YtmfhhhokacjgeaaDoorW.PrintLast Go.Proofs.Hr
set_option linter.unusedVariables false
set_option linter.unusedSimpArgs false
/-! great letters -/
def upB (c : UInt8) : UInt8 := if 97 ≤ c && c ≤ 122 then c - 32 else c
def gr (l : Bs) : Bs := l.map upB
theorem upB_nat (c : UInt8) : (upB c).toNat = if 97 ≤ c.toNat ∧ c.toNat ≤ 122 then c.toNat - 32 else c.toNat := byte_of (fun c => (upB c).toNat = if 97 ≤ c.toNat ∧ c.toNat ≤ 122 then c.toNat - 32 else c.toNat) (by decide +kernel) c
theorem upB_facts (c : UInt8) : lowB (upB c) = lowB c ∧ isBlank (upB c) = isBlank c ∧ (upB c == 44) = (c == 44) ∧ (upB c == 92) = (c == 92) ∧ (upB c == 34) = (c == 34) :=
  byte_of (fun c => lowB (upB c) = lowB c ∧ isBlank (upB c) = isBlank c ∧ (upB c == 44) = (c == 44) ∧ (upB c == 92) = (c == 92) ∧ (upB c == 34) = (c == 34)) (by decide +kernel) c
theorem ev_great_l0 (s : ByteArray) (hs : s.size ≤ 140737488355328) (rest : Bs) : ∀ (i : Nat) (pre : Bs), s.data.toList.drop i = rest → i = pre.length → Ev (fun k => headracelaw09_great.l0 k s (pre.map fun c => (c.toNat : Int)) (i : Int)) (mkB (pre ++ gr rest)) := by
  induction rest with
  | nil =>
    intro i pre h hp
    have h1 := drop_nil h
    rw [← sz] at h1
    refine Ev.step (fun k => rfl) ?_
    simp only [headracelaw09_great.l0, if_neg (show ¬ ((i : Int) < (s.size : Int)) by omega), str_nums]
    rw [show gr ([] : Bs) = [] from rfl, List.append_nil]
    exact Ev.now _
  | cons c r ih =>
    intro i pre h hp
    have h1 := drop_lt h
    rw [← sz] at h1
    have hw := w64 (i := i) (by omega)
    have hrec := ih (i + 1) (pre ++ [upB c]) (drop_succ h) (by simp [hp])
    rw [List.append_assoc] at hrec
    have hlow := upB_nat c
    have hcl := c.toNat_lt
    refine Ev.step (fun k => rfl) ?_
    simp only [headracelaw09_great.l0, if_pos (show (i : Int) < (s.size : Int) by omega), if_pos (show 0 ≤ (i : Int) by omega), bt_nat h, hw]
    rw [List.map_append] at hrec
    have hl : (pre.map fun c => (c.toNat : Int)).length < 140737488355328 := by rw [List.length_map]; omega
    simp only [if_pos hl]
    by_cases hv : 97 ≤ c.toNat ∧ c.toNat ≤ 122
    · rw [if_pos hv] at hlow
      repeat' (refine ev_ite ?_ ?_ <;> intro _)
      all_goals first | (exfalso; omega) | skip
      rw [show ((c.toNat : Int) - 97 + 65) % 256 = ((upB c).toNat : Int) by omega]
      exact hrec
    · rw [if_neg hv] at hlow
      repeat' (refine ev_ite ?_ ?_ <;> intro _)
      all_goals first | (exfalso; omega) | skip
      all_goals (rw [← show ((upB c).toNat : Int) = (c.toNat : Int) by omega]; exact hrec)
theorem ev_great (s : ByteArray) (hs : s.size ≤ 140737488355328) : Ev (fun k => headracelaw09_great.f k s) (mkB (gr s.data.toList)) := by
  unfold headracelaw09_great.f
  exact ev_great_l0 s hs _ 0 [] rfl rfl
theorem lower_gr (l : Bs) : lower (gr l) = lower l := by
  unfold lower gr
  rw [List.map_map]
  exact List.map_congr_left fun c _ => (upB_facts c).1
theorem dw_gr (l : Bs) : (gr l).dropWhile isBlank = gr (l.dropWhile isBlank) := by
  induction l with
  | nil => rfl
  | cons c r ih =>
    show (upB c :: gr r).dropWhile isBlank = _
    rw [List.dropWhile_cons, List.dropWhile_cons, (upB_facts c).2.1]
    split
    · exact ih
    · rfl
theorem gr_rev (l : Bs) : (gr l).reverse = gr l.reverse := by unfold gr; rw [List.map_reverse]
theorem trim_gr (l : Bs) : trim (gr l) = gr (trim l) := by
  rw [trim_eq, trim_eq]
  unfold trimL trimR
  rw [gr_rev, dw_gr, gr_rev, dw_gr]
theorem gr_nil (l : Bs) : gr l = [] ↔ l = [] := by unfold gr; exact List.map_eq_nil_iff
theorem put_gr (p : Bs) (out : List Bs) : put (gr p) (out.map gr) = (put p out).map gr := by
  unfold put
  rw [trim_gr]
  by_cases h : trim p = []
  · rw [if_pos h, if_pos ((gr_nil _).2 h)]
  · rw [if_neg h, if_neg (fun e => h ((gr_nil _).1 e)), List.map_append]; rfl
theorem gr_append (a b : Bs) : gr (a ++ b) = gr a ++ gr b := by unfold gr; rw [List.map_append]
theorem lg_gr (r : Bs) : ∀ (part : Bs) (q sk : Bool) (out : List Bs), lg (gr r) (gr part) q sk (out.map gr) = (lg r part q sk out).map gr := by
  induction r with
  | nil => intro part q sk out; show lg [] _ _ _ _ = _; unfold lg; exact put_gr part out
  | cons c r ih =>
    intro part q sk out
    obtain ⟨_, _, f44, f92, f34⟩ := upB_facts c
    show lg (upB c :: gr r) (gr part) q sk (out.map gr) = _
    unfold lg
    rw [f44, f92, f34]
    have hp : gr part ++ [upB c] = gr (part ++ [c]) := by rw [gr_append]; rfl
    rw [hp, put_gr]
    have e0 := ih [] q sk (put part out)
    rw [show gr ([] : Bs) = [] from rfl] at e0
    split
    · exact e0
    · split
      · exact ih _ _ _ _
      · split
        · exact ih _ _ _ _
        · split
          · exact ih _ _ _ _
          · exact ih _ _ _ _
theorem list_gr (s : Bs) : Hr.list (gr s) = (Hr.list s).map gr := by
  rw [list_lg, list_lg]
  exact lg_gr s [] false false []
def gB (v : ByteArray) : ByteArray := mkB (gr v.data.toList)
def gF (f : Fld) : Fld := ⟨gB f.f0, gB f.f1⟩
theorem gB_size (v : ByteArray) : (gB v).size = v.size := by unfold gB gr; rw [mkB_size, List.length_map, ← sz]
theorem itemsOf_gr (v : ByteArray) : itemsOf (gB v) = itemsOf v := by
  unfold itemsOf gB
  rw [mkB_data, list_gr, List.map_map]
  apply List.map_congr_left
  intro x _
  simp only [Function.comp, lower_gr]
theorem isN_gr (n : Bs) (f : Fld) : isN n (gF f) = isN n f := by
  unfold isN gF gB
  rw [mkB_data, lower_gr]
theorem allS_gr (n : Bs) (l : List Fld) : allS n (l.map gF) = (allS n l).map gB := by
  induction l with
  | nil => rfl
  | cons f l ih =>
    rw [List.map_cons, allS_cons, allS_cons, isN_gr, ih]
    split <;> rfl
theorem itemsS_gr (n : Bs) (l : List Fld) : itemsS n (l.map gF) = itemsS n l := by
  unfold itemsS
  rw [allS_gr, List.flatMap_map]
  congr 1
  funext v
  exact itemsOf_gr v
theorem hasS_gr (n i : Bs) (l : List Fld) : hasS n i (l.map gF) = hasS n i l := by unfold hasS; rw [itemsS_gr]
theorem keepS_gr (m : Int) (l : List Fld) : keepS m (l.map gF) = keepS m l := by unfold keepS; rw [hasS_gr, hasS_gr]
theorem toldS_gr (m : Int) (l : List Fld) : toldS m (l.map gF) = toldS m l := by
  unfold toldS
  rw [allS_gr, allS_gr, itemsS_gr, itemsS_gr, keepS_gr]
  simp only [List.map_eq_nil_iff]
theorem rtoldS_gr (a m : Int) (l : List Fld) : rtoldS a m (l.map gF) = rtoldS a m l := by unfold rtoldS; rw [toldS_gr, keepS_gr]
theorem fsz_gr (l : List Fld) : fsz (l.map gF) = fsz l := by
  unfold fsz
  rw [List.map_map]
  congr 1
  apply List.map_congr_left
  intro f _
  simp only [Function.comp, gF, gB_size]
theorem fsz_mem {f : Fld} {l : List Fld} (h : f ∈ l) : f.f0.size + f.f1.size + 1 ≤ fsz l := by
  induction l with
  | nil => cases h
  | cons x l ih =>
    rw [fsz_cons]
    rcases List.mem_cons.1 h with rfl | h
    · omega
    · have := ih h; omega
theorem pure_FramingCase (a : Bool) (b c : ByteArray) (minor d : Int) (e : ByteArray) (l : List Fld) (m : ByteArray) (hb : fsz l + b.size + c.size + e.size ≤ 1048576) (_ : m.size ≤ 1048576) : ∃ k, headracelaw09_FramingCase.f k a b c minor d e l m = some true := by
  have hl : fsz l ≤ 4194304 := by omega
  have hlg : fsz (l.map gF) ≤ 4194304 := by rw [fsz_gr]; exact hl
  have hll := len_fsz l
  apply ev_true
  have hs : Ev (fun k => (headracelaw09_speaks.f k).bind fun t => some t) true := Ev.bind speaks09 (Ev.now _)
  have fin : Ev (fun k => headracelaw09_FramingCase.l0 k m l (l.length : Int) (l.length : Int) a b c minor d e l a b c minor d e (l.map gF)) true := by
    refine Ev.step (fun k => rfl) ?_
    simp only [headracelaw09_FramingCase.l0, if_neg (show ¬ (l.length : Int) < (l.length : Int) by omega)]
    cases a with
    | true =>
      simp only [if_true]
      refine Ev.bind (ev_Request true b c minor d e l hl) (Ev.bind (ev_Request true b c minor d e (l.map gF) hlg) ?_)
      have er : reqS true minor (l.map gF) = reqS true minor l := by unfold reqS; rw [rtoldS_gr]
      rw [er]
      simp only [beq_self_eq_true, Bool.and_self, if_true]
      refine Ev.bind (ev_Keep true b c minor d e l hl) (Ev.bind (ev_Keep true b c minor d e (l.map gF) hlg) ?_)
      rw [keepS_gr]
      simp only [beq_self_eq_true, if_true]
      exact hs
    | false =>
      simp only [Bool.false_eq_true, if_false]
      refine Ev.bind (ev_Response false b c minor d e l m hl) (Ev.bind (ev_Response false b c minor d e (l.map gF) m hlg) ?_)
      have er : resS false minor d (l.map gF) m.data.toList = resS false minor d l m.data.toList := by unfold resS; rw [rtoldS_gr, keepS_gr]
      rw [er]
      simp only [beq_self_eq_true, Bool.and_self, if_true]
      exact hs
  have go : ∀ (rest : List Fld) (i : Nat) (out : List Fld), l.drop i = rest → i ≤ l.length → out = (l.take i).map gF → Ev (fun k => headracelaw09_FramingCase.l0 k m l (l.length : Int) (i : Int) a b c minor d e l a b c minor d e out) true := by
    intro rest
    induction rest with
    | nil =>
      intro i out h hi ho
      have h1 := drop_nil h
      have e1 : i = l.length := by omega
      subst e1
      rw [List.take_length] at ho
      subst ho
      exact fin
    | cons f r ih =>
      intro i out h hi ho
      have h1 := drop_lt h
      have hd := drop_succ h
      have hm := fsz_mem (mem_drop h)
      have hlen : out.length = i := by rw [ho, List.length_map, List.length_take]; omega
      refine Ev.step (fun k => rfl) ?_
      simp only [headracelaw09_FramingCase.l0, if_pos (show (i : Int) < (l.length : Int) by omega), if_pos (show 0 ≤ (i : Int) by omega), rd_fld h, w64 (show i < 9223372036854775807 by omega), if_pos (show out.length < 4398046511104 by omega)]
      refine Ev.bind (ev_great f.f0 (by omega)) (Ev.bind (ev_great f.f1 (by omega)) ?_)
      refine ih (i + 1) _ hd (by omega) ?_
      rw [List.take_succ_eq_append_getElem h1, List.map_append, ← ho]
      have : l[i]'h1 = f := by
        rw [List.drop_eq_getElem_cons h1] at h
        injection h
      rw [this]; rfl
  unfold headracelaw09_FramingCase.f
  exact go l 0 [] rfl (by omega) rfl
end Go.Proofs.YtmfhhhokacjgeaaDoor.Px
