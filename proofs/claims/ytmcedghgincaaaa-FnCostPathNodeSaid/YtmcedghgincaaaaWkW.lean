/- Walks: the nodes of each level. -/
import Derived.Test.YtmcedghgincaaaaWkU
import Derived.Test.YtmcedghgincaaaaWkLL
import Derived.Test.YtmcedghgincaaaaPlJ
namespace Go.Proofs.Ytmcedghgincaaaa
open Go.RowKit

/-- The levels of a plan. -/
def levelsL (p : List Nd) : List (List Int) := (List.range (levCount p).toNat).map fun n => toI (levRow p n)
def levelsOf (p : List Nd) : List (List Int) := if planOk p = true then levelsL p else []
theorem levelsL_len (p : List Nd) : (levelsL p).length = (levCount p).toNat := by simp [levelsL]
theorem levelsL_get {p : List Nd} {n : Nat} (h : n < (levelsL p).length) : (levelsL p)[n] = toI (levRow p n) := by simp [levelsL]
/-- The same of the first nodes. -/
def levPart (p : List Nd) (k n : Nat) : List Nat := (List.range k).filter fun i => decide (lev p i = (n : Int))
theorem levPart_len (p : List Nd) (k n : Nat) : (levPart p k n).length ≤ k := by
  have := List.length_filter_le (fun i => decide (lev p i = (n : Int))) (List.range k)
  simpa [levPart] using this
theorem levPart_succ (p : List Nd) (k n : Nat) : levPart p (k + 1) n = if lev p k = (n : Int) then levPart p k n ++ [k] else levPart p k n := by
  unfold levPart
  rw [List.range_succ, List.filter_append, List.filter_cons, List.filter_nil]
  by_cases h : lev p k = (n : Int) <;> simp [h]
theorem levPart_set {p : List Nd} {k c l : Nat} (hl : l < c) (h : lev p k = (l : Int)) : ((List.range c).map fun n => toI (levPart p k n)).set l (toI (levPart p k l) ++ [(k : Int)]) = (List.range c).map fun n => toI (levPart p (k + 1) n) := by
  refine List.ext_getElem (by simp) fun i h1 h2 => ?_
  rw [List.getElem_set, List.getElem_map, List.getElem_map, List.getElem_range, levPart_succ]
  by_cases hi : l = i
  · subst hi
    rw [if_pos rfl, if_pos h, toI_snoc]
  · rw [if_neg hi, if_neg (by omega)]

section
variable {h : GH} {Ls : List Heaplet} {w : World}

theorem levelsTo_elem {p : List Nd} {k : Nat} (h : k < (levelsTo p p.length).length) : (levelsTo p p.length)[k] = lev p k := by unfold lev; rw [getD_elem h]

theorem levelsOf_ok (hH : H w h Ls) {pv : Value} {p : List Nd} (hP : Plan h pv p) : Rets Try.prog 27 #[pv] w fun v w' => ∃ O Is, OLists O Is v (levelsOf p) ∧ H w' h (O :: (Is ++ Ls)) := by
  refine rets_enter Try.func27 rfl Try.ntmps27 (by simp) ?_
  by_cases hv : planOk p = true
  case neg =>
    have hv' : planOk p = false := by simpa using hv
    refine WT_seq ?_
    refine WT_region ?_
    refine WL_v rfl (ov_assign rfl) ?_
    refine WL_nil ?_
    refine WT_seq ?_
    refine WT_region ?_
    refine WL_v rfl (ov_move rfl) ?_
    refine WL_call rfl rfl cf_impl_levelList (levelList_no hH hP hv') ?_; rintro _ w1 ⟨rfl, hH1⟩
    refine WL_v rfl (ov_move rfl) ?_
    refine WL_v rfl (ov_extract rfl rfl) ?_
    refine WL_v rfl (ov_extract rfl rfl) ?_
    refine WL_v rfl (ov_assign rfl) ?_
    refine WL_v rfl (ov_assign rfl) ?_
    refine WL_nil ?_
    refine WT_seq ?_
    refine WT_seq ?_
    refine WT_region ?_
    refine WL_v rfl (ov_move rfl) ?_
    refine WL_v rfl (ov_not rfl) ?_
    refine WL_nil ?_
    refine WT_condT rfl ?_
    refine WT_seq ?_
    refine WT_region ?_
    refine WL_v rfl (ov_assign rfl) ?_
    refine WL_nil ?_
    exact WT_ret1 Try.func27 Try.results27 rfl ⟨[], [], by unfold levelsOf; rw [if_neg hv]; exact OLists.nil _ _ (Row.nil _ _), hH1.nilIn⟩
  have hlen := PlanOk.len hv
  have hll := levelsTo_len p p.length
  obtain ⟨hc0, hc1⟩ := levCount_rg hv
  refine WT_seq ?_
  refine WT_region ?_
  refine WL_v rfl (ov_assign rfl) ?_
  refine WL_nil ?_
  refine WT_seq ?_
  refine WT_region ?_
  refine WL_v rfl (ov_move rfl) ?_
  refine WL_call rfl rfl cf_impl_levelList (levelList_yes hH hP hv) ?_; rintro _ w1 ⟨X, lv, rfl, hX, hH1⟩
  refine WL_v rfl (ov_move rfl) ?_
  refine WL_v rfl (ov_extract rfl rfl) ?_
  refine WL_v rfl (ov_extract rfl rfl) ?_
  refine WL_v rfl (ov_assign rfl) ?_
  refine WL_v rfl (ov_assign rfl) ?_
  refine WL_nil ?_
  refine WT_seq ?_
  refine WT_seq ?_
  refine WT_region ?_
  refine WL_v rfl (ov_move rfl) ?_
  refine WL_v rfl (ov_not rfl) ?_
  refine WL_nil ?_
  refine WT_condF rfl ?_
  refine WT_skip ?_
  refine WT_seq ?_
  refine WT_region ?_
  refine WL_v rfl (ov_assign rfl) ?_
  refine WL_nil ?_
  refine WT_seq ?_
  refine WT_seq ?_
  refine WT_region ?_
  refine WL_v rfl (ov_move rfl) ?_
  refine WL_v rfl (ov_len rfl hX.sl st_sl_int) ?_
  refine WL_v rfl (ov_move rfl) ?_
  refine WL_nil ?_
  refine WT_block ?_
  refine WT_while (fun s : Nat => [(3, lv), (5, .int .i64 (mostOf (((levelsTo p p.length).map (· + 1)).take s))), (18, lv), (19, .int .i64 ((levelsTo p p.length).length : Int)), (20, .int .i64 (s : Int))]) (fun k w => k ≤ p.length ∧ H w h (X :: Ls)) (fun k => p.length - k) 0 (by repeat (first | exact trivial | refine ⟨rfl, ?_⟩)) ⟨by omega, hH1⟩ ?_
  clear hH hH1
  rintro k w2 ⟨hk, hH⟩ again
  refine WT_seq ?_
  refine WT_region ?_
  refine WL_v rfl (ov_lss rfl rfl) ?_
  refine WL_nil ?_
  refine WT_seq ?_
  refine WT_cond rfl (fun hc => ?_) (fun hc => ?_)
  · skip
    first | with_reducible replace hc := of_decide_eq_true hc | with_reducible replace hc := bn_T hc | with_reducible replace hc := bb_T hc | skip
    have hkl : k < (levelsTo p p.length).length := by omega
    have hkm : k < ((levelsTo p p.length).map (· + 1)).length := by simpa using hkl
    have hrg := levelsTo_rg p p.length _ (List.getElem_mem hkl)
    refine WT_skip ?_
    refine WT_seq ?_
    refine WT_block ?_
    refine WT_seq ?_
    refine WT_region ?_
    refine WL_v rfl (ov_index rfl rfl st_sl_int hX.sl hkl) ?_
    refine WL_v rfl (ov_load rfl one_int (hX.cell hH (i := 0) rfl hkl)) ?_
    refine WL_v rfl (ov_assign rfl) ?_
    refine WL_nil ?_
    refine WT_region ?_
    refine WL_v rfl (ov_move rfl) ?_
    refine WL_v rfl (ov_move rfl) ?_
    refine WL_v rfl (ov_add rfl rfl (by omega)) ?_
    refine WL_v rfl (ov_as (ov_max rfl rfl) (congrArg (Value.int .i64) (by rw [List.take_succ_eq_append_getElem hkm, mostOf_snoc, List.getElem_map] : max (mostOf (((levelsTo p p.length).map (· + 1)).take k)) ((levelsTo p p.length)[k] + 1) = mostOf (((levelsTo p p.length).map (· + 1)).take (k + 1))))) ?_
    refine WL_v rfl (ov_assign rfl) ?_
    refine WL_nil ?_
    refine WT_inBlock ?_
    refine WT_region ?_
    refine WL_v rfl (ov_add rfl rfl (by omega)) ?_
    refine WL_v rfl (ov_move rfl) ?_
    refine WL_nil ?_
    refine again (k + 1) _ _ (by omega) (by repeat (first | exact trivial | refine ⟨rfl, ?_⟩)) ⟨by omega, hH⟩
  first | with_reducible replace hc := of_decide_eq_false hc | with_reducible replace hc := bn_F hc | with_reducible replace hc := bb_F hc | skip
  obtain rfl : k = p.length := by omega
  have hcount : mostOf (((levelsTo p p.length).map (· + 1)).take p.length) = ((levCount p).toNat : Int) := by
    rw [List.take_of_length_le (by simp [hll])]
    show levCount p = _
    omega
  rw [hcount]
  generalize hcn : (levCount p).toNat = c
  have hcp : c ≤ p.length := by omega
  refine WT_exit rfl ?_
  refine WT_seq ?_
  refine WT_region ?_
  refine WL_v rfl (ov_move rfl) ?_
  refine WL_make (n := c) (c := c) rfl hH rfl rfl st_sl_sl_int (by omega) (Nat.le_refl _) (by omega) (by omega) ?_; rintro O0 ov w3 hO0 hH3
  refine WL_v rfl (ov_assign rfl) ?_
  refine WL_nil ?_
  refine WT_seq ?_
  refine WT_seq ?_
  refine WT_region ?_
  refine WL_v rfl (ov_move rfl) ?_
  refine WL_v rfl (ov_len rfl hX.sl st_sl_int) ?_
  refine WL_v rfl (ov_move rfl) ?_
  refine WL_nil ?_
  refine WT_block ?_
  have hO1 : OLists O0 (List.replicate c []) ov ((List.range c).map fun n => toI (levPart p 0 n)) := by
    refine ⟨by simp, _, by simpa using hO0, fun i hi => ⟨.slice none 0 0, [], ?_, ?_, ?_⟩⟩
    · have hic : i < c := by simpa using hi
      simp [hic]
    · have hic : i < c := by simpa using hi
      simp [hic]
    · rw [List.getElem_map]; exact IRow.nil _
  have hH4 : H w3 h (O0 :: (List.replicate c [] ++ (X :: Ls))) := by simpa [H] using hH3
  refine WT_while (fun s : Nat => [(8, ov), (31, lv), (32, .int .i64 ((levelsTo p p.length).length : Int)), (33, .int .i64 (s : Int))]) (fun k w => k ≤ p.length ∧ ∃ O Is, OLists O Is ov ((List.range c).map fun n => toI (levPart p k n)) ∧ H w h (O :: (Is ++ (X :: Ls)))) (fun k => p.length - k) 0 (by repeat (first | exact trivial | refine ⟨rfl, ?_⟩)) ⟨by omega, O0, _, hO1, hH4⟩ ?_
  clear hH hH3 hH4 hO0 hO1
  rintro k w4 ⟨hk, O, Is, hO, hH⟩ again
  refine WT_seq ?_
  refine WT_region ?_
  refine WL_v rfl (ov_lss rfl rfl) ?_
  refine WL_nil ?_
  refine WT_seq ?_
  refine WT_cond rfl (fun hc => ?_) (fun hc => ?_)
  · skip
    first | with_reducible replace hc := of_decide_eq_true hc | with_reducible replace hc := bn_T hc | with_reducible replace hc := bb_T hc | skip
    have hkp : k < p.length := by omega
    have hkl : k < (levelsTo p p.length).length := by omega
    obtain ⟨l, hl⟩ := Int.eq_ofNat_of_zero_le (lev_nonneg p k)
    have hlc : l < c := by have := lev_lt_count hkp; omega
    obtain ⟨hil, xs, hR, hat⟩ := hO
    have hml : ((List.range c).map fun n => toI (levPart p k n)).length = c := by simp
    have hxl := hR.len
    rw [hml, Nat.mul_one] at hxl
    obtain ⟨u, F, g1, g2, g3⟩ := hat l (by rw [hml]; exact hlc)
    rw [List.getElem_map, List.getElem_range] at g3
    have hpl := levPart_len p k l
    have hXi : (O :: (Is ++ (X :: Ls)))[Is.length + 1]? = some X := by rw [List.getElem?_cons_succ, List.getElem?_append_right (by omega), Nat.sub_self]; rfl
    have hrl : Sl ov c := by have := hR.sl; rwa [hml] at this
    refine WT_skip ?_
    refine WT_seq ?_
    refine WT_block ?_
    refine WT_seq ?_
    refine WT_region ?_
    refine WL_v rfl (ov_move rfl) ?_
    refine WL_v rfl (ov_index rfl rfl st_sl_int hX.sl hkl) ?_
    refine WL_v rfl (ov_load rfl one_int (hX.cell hH hXi hkl)) ?_; rw [levelsTo_elem, hl]
    refine WL_v rfl (ov_assign rfl) ?_
    refine WL_v rfl (ov_assign rfl) ?_
    refine WL_nil ?_
    refine WT_region ?_
    refine WL_v rfl (ov_move rfl) ?_
    refine WL_v rfl (ov_move rfl) ?_
    refine WL_v rfl (ov_move rfl) ?_
    refine WL_v rfl (ov_move rfl) ?_
    refine WL_v rfl (ov_index rfl rfl st_sl_sl_int hrl hlc) ?_
    refine WL_v rfl (ov_load rfl one_sl_int (by rw [Nat.mul_one]; exact hR.cell hH (i := 0) rfl g1)) ?_
    refine WL_v rfl (ov_move rfl) ?_
    refine WL_bsI rfl hH rfl (run_bs_int _) ?_; rintro Y yv w5 hY hH5
    refine WL_appI (i := l + 1 + 1) (j := 0) rfl hH5 rfl rfl st_sl_int (by simp only [List.getElem?_cons_succ]; rw [List.getElem?_append_left (List.getElem?_eq_some_iff.1 g2).1]; exact g2) g3 rfl hY (by simp only [toI_len, List.length_cons, List.length_nil]; omega) (by simp only [toI_len, List.length_cons, List.length_nil]; omega) ?_; rintro F2 u2 w6 hF2 hH6
    refine WL_v rfl (ov_index rfl rfl st_sl_sl_int hrl hlc) ?_
    refine WL_storeRow hH6 rfl rfl (i := 1) rfl hR (show l * 1 < xs.length by omega) hF2.sl.one sz_sl_int ?_; rintro O2 w7 hO2 hH7
    refine WL_nil ?_
    refine WT_inBlock ?_
    refine WT_region ?_
    refine WL_v rfl (ov_add rfl rfl (by omega)) ?_
    refine WL_v rfl (ov_move rfl) ?_
    refine WL_nil ?_
    rw [Nat.mul_one] at hO2
    have hH8 : H w7 h (O2 :: ((Is ++ (X :: Ls)).set l F2)) := H.drop hH7
    rw [List.set_append_left _ _ (List.getElem?_eq_some_iff.1 g2).1] at hH8
    have hset := OLists.set (k := l) (by rw [hml]; exact hlc) hil (by rw [hml]; exact hxl) hat hO2 hF2
    rw [levPart_set hlc hl] at hset
    refine again (k + 1) _ _ (by omega) (by repeat (first | exact trivial | refine ⟨rfl, ?_⟩)) ⟨by omega, O2, _, hset, hH8⟩
  first | with_reducible replace hc := of_decide_eq_false hc | with_reducible replace hc := bn_F hc | with_reducible replace hc := bb_F hc | skip
  obtain rfl : k = p.length := by omega
  refine WT_exit rfl ?_
  refine WT_seq ?_
  refine WT_region ?_
  refine WL_v rfl (ov_move rfl) ?_
  refine WL_v rfl (ov_assign rfl) ?_
  refine WL_nil ?_
  exact WT_ret1 Try.func27 Try.results27 rfl ⟨O, Is, by unfold levelsOf levelsL; rw [if_pos hv, hcn]; exact hO, by
      have hXi : (O :: (Is ++ (X :: Ls)))[Is.length + 1]? = some X := by rw [List.getElem?_cons_succ, List.getElem?_append_right (by omega), Nat.sub_self]; rfl
      have := hH.del _ hXi
      rw [List.eraseIdx_cons_succ, List.eraseIdx_append_of_length_le (Nat.le_refl _), Nat.sub_self] at this
      exact this⟩

theorem H.addT {T O : Heaplet} {Is Ms : List Heaplet} (hH : H w h (T :: O :: (Is ++ Ms))) : H w h (O :: ((Is ++ [T]) ++ Ms)) := by
  refine hH.swap.perm (.cons _ ?_)
  have : (T :: (Is ++ Ms)).Perm (Is ++ T :: Ms) := List.perm_middle.symm
  simpa using this

theorem sLevelsOf_ok (hH : H w h Ls) {pv : Value} {p : List Nd} (hP : Plan h pv p) (hl : p.length ≤ 1000000000) : Rets Try.prog 28 #[pv] w fun v w' => ∃ O Is, OLists O Is v (levelsOf p) ∧ H w' h (O :: (Is ++ Ls)) := by
  refine rets_enter Try.func28 rfl Try.ntmps28 (by simp) ?_
  refine WT_seq ?_
  refine WT_region ?_
  refine WL_v rfl (ov_assign rfl) ?_
  refine WL_nil ?_
  refine WT_seq ?_
  refine WT_region ?_
  refine WL_buildSlice (sz := 1) (parts := []) (vs := []) [] rfl hH rfl run_bs_sl0 rfl (by omega) ?_; rintro O0 ov0 w1 hO0 hH1
  refine WL_v rfl (ov_assign rfl) ?_
  refine WL_nil ?_
  refine WT_seq ?_
  refine WT_seq ?_
  refine WT_region ?_
  refine WL_v rfl (ov_move rfl) ?_
  refine WL_call rfl rfl cf_spec_PlanValid (sPlanValid_ok hH1 hP hl) ?_; rintro _ w2 ⟨rfl, hH2⟩
  refine WL_v rfl (ov_not rfl) ?_
  refine WL_nil ?_
  refine WT_cond rfl (fun hv => ?_) (fun hv => ?_)
  · skip
    first | with_reducible replace hv := of_decide_eq_true hv | with_reducible replace hv := bn_T hv | with_reducible replace hv := bb_T hv | skip
    refine WT_seq ?_
    refine WT_region ?_
    refine WL_v rfl (ov_move rfl) ?_
    refine WL_v rfl (ov_assign rfl) ?_
    refine WL_nil ?_
    exact WT_ret1 Try.func28 Try.results28 rfl ⟨O0, [], by unfold levelsOf; rw [hv]; exact OLists.nil _ _ hO0, hH2⟩
  first | with_reducible replace hv := of_decide_eq_false hv | with_reducible replace hv := bn_F hv | with_reducible replace hv := bb_F hv | skip
  have hlen := PlanOk.len hv
  have hll := levelsTo_len p p.length
  obtain ⟨hc0, hc1⟩ := levCount_rg hv
  refine WT_skip ?_
  refine WT_seq ?_
  refine WT_region ?_
  refine WL_v rfl (ov_move rfl) ?_
  refine WL_call rfl rfl cf_spec_l5Levels (l5Levels_ok hH2 hP hv) ?_; rintro lv w3 ⟨X, hX, hH3⟩
  refine WL_v rfl (ov_assign rfl) ?_
  refine WL_nil ?_
  refine WT_seq ?_
  refine WT_seq ?_
  refine WT_region ?_
  refine WL_v rfl (ov_assign rfl) ?_
  refine WL_nil ?_
  refine WT_block ?_
  refine WT_while (fun s : Nat × Value => [(0, pv), (3, s.2), (4, lv), (5, .int .i64 (s.1 : Int))]) (fun s w => s.1 ≤ p.length ∧ ∃ O Is, OLists O Is s.2 ((List.range (min s.1 (levCount p).toNat)).map fun n => toI (levRow p n)) ∧ H w h (O :: (Is ++ (X :: Ls)))) (fun s => p.length - s.1) (0, ov0) (by repeat (first | exact trivial | refine ⟨rfl, ?_⟩)) ⟨by omega, O0, [], by simpa using OLists.nil _ _ hO0, hH3.swap⟩ ?_
  clear hH hH1 hH2 hH3 hO0
  rintro ⟨k, ov⟩ w4 ⟨hk, O, Is, hO, hH⟩ again
  simp only at hk hO
  have hXi : (O :: (Is ++ (X :: Ls)))[Is.length + 1]? = some X := by rw [List.getElem?_cons_succ, List.getElem?_append_right (by omega), Nat.sub_self]; rfl
  refine WT_seq ?_
  refine WT_seq ?_
  refine WT_region ?_
  refine WL_v rfl (ov_move rfl) ?_
  refine WL_v rfl (ov_move rfl) ?_
  refine WL_v rfl (ov_len rfl hP.sl st_sl_impl_Node) ?_
  refine WL_v rfl (ov_lss rfl rfl) ?_
  refine WL_nil ?_
  refine WT_cond rfl (fun hc => ?_) (fun hc => ?_)
  · skip
    first | with_reducible replace hc := of_decide_eq_true hc | with_reducible replace hc := bn_T hc | with_reducible replace hc := bb_T hc | skip
    simp only at hc
    have hkp : k < p.length := by omega
    refine WT_skip ?_
    refine WT_seq ?_
    refine WT_block ?_
    refine WT_seq ?_
    refine WT_region ?_
    refine WL_bsI0 rfl hH run_bs_int0 ?_; rintro T0 tv0 w5 hT0 hH5
    refine WL_v rfl (ov_assign rfl) ?_
    refine WL_nil ?_
    refine WT_seq ?_
    refine WT_seq ?_
    refine WT_region ?_
    refine WL_v rfl (ov_assign rfl) ?_
    refine WL_nil ?_
    refine WT_block ?_
    refine WT_while (fun s : Nat × Value => [(0, pv), (3, ov), (4, lv), (5, .int .i64 (k : Int)), (6, s.2), (7, .int .i64 (s.1 : Int))]) (fun s w => s.1 ≤ p.length ∧ ∃ T, IRow T 3 s.2 (toI (levPart p s.1 k)) ∧ H w h (T :: O :: (Is ++ (X :: Ls)))) (fun s => p.length - s.1) (0, tv0) (by repeat (first | exact trivial | refine ⟨rfl, ?_⟩)) ⟨by omega, T0, hT0, hH5⟩ ?_
    clear hH hH5 hT0
    rintro ⟨j, tv⟩ w6 ⟨hj, T, hT, hH⟩ again2
    simp only at hj hT
    have hpl := levPart_len p j k
    have htl := toI_len (levPart p j k)
    refine WT_seq ?_
    refine WT_seq ?_
    refine WT_region ?_
    refine WL_v rfl (ov_move rfl) ?_
    refine WL_v rfl (ov_move rfl) ?_
    refine WL_v rfl (ov_len rfl hP.sl st_sl_impl_Node) ?_
    refine WL_v rfl (ov_lss rfl rfl) ?_
    refine WL_nil ?_
    refine WT_cond rfl (fun hc2 => ?_) (fun hc2 => ?_)
    · skip
      first | with_reducible replace hc2 := of_decide_eq_true hc2 | with_reducible replace hc2 := bn_T hc2 | with_reducible replace hc2 := bb_T hc2 | skip
      simp only at hc2
      have hje : j < (levelsTo p p.length).length := by omega
      refine WT_skip ?_
      refine WT_seq ?_
      refine WT_block ?_
      refine WT_seq ?_
      refine WT_region ?_
      refine WL_v rfl (ov_move rfl) ?_
      refine WL_v rfl (ov_move rfl) ?_
      refine WL_v rfl (ov_index rfl rfl st_sl_int hX.sl hje) ?_
      refine WL_v rfl (ov_load rfl one_int (hX.cell hH (i := Is.length + 1 + 1) hXi hje)) ?_; rw [levelsTo_elem]
      refine WL_v rfl (ov_move rfl) ?_
      refine WL_v rfl (ov_eql rfl rfl) ?_
      refine WL_nil ?_
      refine WT_cond rfl (fun he => ?_) (fun he => ?_)
      · skip
        first | with_reducible replace he := of_decide_eq_true he | with_reducible replace he := bn_T he | with_reducible replace he := bb_T he | skip
        refine WT_region ?_
        refine WL_v rfl (ov_move rfl) ?_
        refine WL_v rfl (ov_move rfl) ?_
        refine WL_bsI rfl hH rfl (run_bs_int _) ?_; rintro Y yv w7 hY hH7
        refine WL_appI (i := 1) (j := 0) rfl hH7 rfl rfl st_sl_int rfl hT rfl hY (by simp only [List.length_cons, List.length_nil]; omega) (by simp only [List.length_cons, List.length_nil]; omega) ?_; rintro T2 tv2 w8 hT2 hH8
        refine WL_v rfl (ov_assign rfl) ?_
        refine WL_nil ?_
        refine WT_inBlock ?_
        refine WT_region ?_
        refine WL_v rfl (ov_move rfl) ?_
        refine WL_v rfl (ov_add rfl rfl (by omega)) ?_
        refine WL_v rfl (ov_assign rfl) ?_
        refine WL_nil ?_
        refine again2 (j + 1, tv2) _ _ (by simp only; omega) (by repeat (first | exact trivial | refine ⟨rfl, ?_⟩)) ⟨by simp only; omega, T2, ?_, hH8.drop⟩
        simp only
        rw [levPart_succ, if_pos he, toI_snoc]
        exact hT2
      first | with_reducible replace he := of_decide_eq_false he | with_reducible replace he := bn_F he | with_reducible replace he := bb_F he | skip
      refine WT_skip ?_
      refine WT_inBlock ?_
      refine WT_region ?_
      refine WL_v rfl (ov_move rfl) ?_
      refine WL_v rfl (ov_add rfl rfl (by omega)) ?_
      refine WL_v rfl (ov_assign rfl) ?_
      refine WL_nil ?_
      refine again2 (j + 1, tv) _ _ (by simp only; omega) (by repeat (first | exact trivial | refine ⟨rfl, ?_⟩)) ⟨by simp only; omega, T, ?_, hH⟩
      simp only
      rw [levPart_succ, if_neg he]
      exact hT
    first | with_reducible replace hc2 := of_decide_eq_false hc2 | with_reducible replace hc2 := bn_F hc2 | with_reducible replace hc2 := bb_F hc2 | skip
    simp only at hc2
    obtain rfl : j = p.length := by omega
    have hT' : IRow T 3 tv (toI (levRow p k)) := hT
    have htl' : (toI (levRow p k)).length = (levRow p k).length := toI_len _
    obtain ⟨hil, xs, hR, hat⟩ := hO
    have hml : ((List.range (min k (levCount p).toNat)).map fun n => toI (levRow p n)).length = min k (levCount p).toNat := by simp
    refine WT_exit rfl ?_
    refine WT_seq ?_
    refine WT_region ?_
    refine WL_v rfl (ov_move rfl) ?_
    refine WL_v rfl (ov_len rfl hT'.sl st_sl_int) ?_
    refine WL_v rfl (ov_gtr rfl rfl) ?_
    refine WL_nil ?_
    refine WT_cond rfl (fun h0 => ?_) (fun h0 => ?_)
    · skip
      first | with_reducible replace h0 := of_decide_eq_true h0 | with_reducible replace h0 := bn_T h0 | with_reducible replace h0 := bb_T h0 | skip
      have hkc : (k : Int) < levCount p := by
        rcases Int.lt_or_le (k : Int) (levCount p) with h9 | h9
        · exact h9
        · have h8 : (levRow p k).length = 0 := by rw [levRow_nil h9]; rfl
          omega
      obtain ⟨A, cp, htv, _⟩ := hT'.sl.form
      have hrun : ∀ W, (Instr.buildSlice 35 1 #[(0, tv)]).run Try.prog W = .ok (.slice (some ⟨W.heap.size, 0, none⟩) 1 1) (W.alloc (.cells [tv].toArray 26)) := fun W => by rw [htv]; exact run_bs_sl1 _ _ _ W
      refine WT_region ?_
      refine WL_v rfl (ov_move rfl) ?_
      refine WL_v rfl (ov_move rfl) ?_
      refine WL_buildSlice (sz := 1) [tv] rfl hH rfl hrun rfl (by omega) ?_; rintro Y yv w7 hY hH7
      refine WL_append1 (i := 2) (j := 0) (n := ((List.range (min k (levCount p).toNat)).map fun n => toI (levRow p n)).length) (m := 1) rfl hH7 rfl rfl st_sl_sl_int (by omega) rfl hR rfl hY (ones_cons hT'.sl.one ones_nil) (by omega) (by omega) ?_; rintro O2 ov2 w8 hO2 hH8
      refine WL_v rfl (ov_assign rfl) ?_
      refine WL_nil ?_
      refine WT_inBlock ?_
      refine WT_region ?_
      refine WL_v rfl (ov_move rfl) ?_
      refine WL_v rfl (ov_add rfl rfl (by omega)) ?_
      refine WL_v rfl (ov_assign rfl) ?_
      refine WL_nil ?_
      refine again (k + 1, ov2) _ _ (by simp only; omega) (by repeat (first | exact trivial | refine ⟨rfl, ?_⟩)) ⟨by simp only; omega, O2, Is ++ [T], ?_, H.addT hH8.drop⟩
      have hs := OLists.snoc hil hR hat hO2 hT'
      simp only
      rw [show min (k + 1) (levCount p).toNat = k + 1 by omega, List.range_succ, List.map_append]
      rw [show min k (levCount p).toNat = k by omega] at hs
      exact hs
    first | with_reducible replace h0 := of_decide_eq_false h0 | with_reducible replace h0 := bn_F h0 | with_reducible replace h0 := bb_F h0 | skip
    have hkc : levCount p ≤ (k : Int) := by
      rcases Int.lt_or_le (k : Int) (levCount p) with h9 | h9
      · have := List.length_pos_iff.2 (levRow_ne hv h9)
        omega
      · exact h9
    refine WT_skip ?_
    refine WT_inBlock ?_
    refine WT_region ?_
    refine WL_v rfl (ov_move rfl) ?_
    refine WL_v rfl (ov_add rfl rfl (by omega)) ?_
    refine WL_v rfl (ov_assign rfl) ?_
    refine WL_nil ?_
    refine again (k + 1, ov) _ _ (by simp only; omega) (by repeat (first | exact trivial | refine ⟨rfl, ?_⟩)) ⟨by simp only; omega, O, Is, ?_, hH.drop⟩
    simp only
    rw [show min (k + 1) (levCount p).toNat = min k (levCount p).toNat by omega]
    exact ⟨hil, xs, hR, hat⟩
  first | with_reducible replace hc := of_decide_eq_false hc | with_reducible replace hc := bn_F hc | with_reducible replace hc := bb_F hc | skip
  simp only at hc
  obtain rfl : k = p.length := by omega
  rw [show min p.length (levCount p).toNat = (levCount p).toNat by omega] at hO
  refine WT_exit rfl ?_
  refine WT_seq ?_
  refine WT_region ?_
  refine WL_v rfl (ov_move rfl) ?_
  refine WL_v rfl (ov_assign rfl) ?_
  refine WL_nil ?_
  exact WT_ret1 Try.func28 Try.results28 rfl ⟨O, Is, by unfold levelsOf levelsL; rw [if_pos hv]; exact hO, by
      have := hH.del _ hXi
      rw [List.eraseIdx_cons_succ, List.eraseIdx_append_of_length_le (Nat.le_refl _), Nat.sub_self] at this
      exact this⟩
end
end Go.Proofs.Ytmcedghgincaaaa
