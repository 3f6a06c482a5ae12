/- Walks: CountsDone, CountsReady, the reference's counts. -/
import Derived.Test.YtmcedghgincaaaaWkDD
namespace Go.Proofs.Ytmcedghgincaaaa
open Go.RowKit

/-- What CountsDone returns. -/
def doneCo (p : List Nd) (c : List Int) (a : Int) : List Int := if doneOk p c a = true then doneC p c a else []
def doneRo (p : List Nd) (c : List Int) (a : Int) : List Int := if doneOk p c a = true then toI (doneR p c a) else []

section
variable {h : GH} {Ls : List Heaplet} {w : World}

/-- The result of taking a node out of counts. -/
def DoneV (h : GH) (Ls : List Heaplet) (p : List Nd) (c : List Int) (a : Int) (v : Value) (w' : World) : Prop := ∃ X Y xv yv, v = .tuple #[xv, yv, .bool (doneOk p c a)] ∧ IRow X 3 xv (doneCo p c a) ∧ IRow Y 3 yv (doneRo p c a) ∧ H w' h (X :: Y :: Ls)
theorem doneV_bad {p : List Nd} {c : List Int} {a : Int} (hb : doneOk p c a = false) (hH : H w h Ls) : DoneV h Ls p c a (.tuple #[.slice none 0 0, .slice none 0 0, .bool false]) w :=
  ⟨[], [], _, _, by rw [hb], by unfold doneCo; rw [if_neg (by rw [hb]; simp)]; exact IRow.nil _, by unfold doneRo; rw [if_neg (by rw [hb]; simp)]; exact IRow.nil _, hH.nilIn.nilIn⟩

theorem tabK_rg {p : List Nd} (hv : planOk p = true) (u : Nat) : 0 ≤ (tabK p p.length []).getD u 0 ∧ (tabK p p.length []).getD u 0 ≤ 2 := by
  rcases Nat.lt_or_ge u (tabK p p.length []).length with hu | hu
  · rw [getD_elem hu, tabK_get, cntK_all hv]
    have h1 := needTo_len (p.getD u default).frm
    rcases Nat.lt_or_ge u p.length with h2 | h2
    · have : (p.getD u default).frm.length ≤ 2 := by rw [getD_of h2]; exact NodeOk.len2 (PlanOk.node hv h2)
      simp only [List.not_mem_nil, if_false, Nat.add_zero]; omega
    · rw [getD_default_of h2]; simp [needTo, default]
  · rw [List.getD_eq_getElem?_getD, List.getElem?_eq_none hu]; simp
theorem tabK_val {p : List Nd} (hv : planOk p = true) {u : Nat} (hu : u < p.length) : (tabK p p.length []).getD u 0 = ((needTo (p.getD u default).frm).length : Int) := by
  have hlen := PlanOk.len hv
  rw [getD_elem (by rw [tabK_len]; omega), tabK_get, cntK_all hv]; simp
theorem app_getD {c R : List Int} {u : Nat} (h : u < c.length) : (c ++ R).getD u 0 = c.getD u 0 := by
  rw [List.getD_eq_getElem?_getD, List.getElem?_append_left h, ← List.getD_eq_getElem?_getD]

theorem countsDone_ok (hH : H w h Ls) {pv cv : Value} {p : List Nd} {c : List Int} (hP : Plan h pv p) (hC : RdL h Ls cv c) (hcl : c.length ≤ 1000000000) (a : Int) : Rets Try.prog 24 #[pv, cv, .int .i64 a] w (DoneV h Ls p c a) := by
  refine rets_enter Try.func24 rfl Try.ntmps24 (by simp) ?_
  by_cases hv : planOk p = true
  case neg =>
    have hv' : planOk p = false := by simpa using hv
    refine WT_seq ?_
    refine WT_region ?_
    refine WL_v rfl (ov_assign rfl) ?_
    refine WL_v rfl (ov_assign rfl) ?_
    refine WL_v rfl (ov_assign rfl) ?_
    refine WL_nil ?_
    refine WT_seq ?_
    refine WT_seq ?_
    refine WT_region ?_
    refine WL_v rfl (ov_move rfl) ?_
    refine WL_call rfl rfl cf_impl_PlanValid (planValid_ok hH hP) ?_; rintro _ w1 ⟨rfl, hH1⟩
    refine WL_v rfl (ov_T (ov_not rfl) (by first | exact decide_eq_true hv' | exact nb_T hv' | exact mb_T hv' | exact hv' | (simp only [decide_eq_true_eq]; omega) | simpa using hv')) ?_
    refine WL_v rfl (ov_move rfl) ?_
    refine WL_guardOff rfl rfl rfl rfl ?_
    refine WL_guardOff rfl rfl rfl rfl ?_
    refine WL_guardOff rfl rfl rfl rfl ?_
    refine WL_guardOff rfl rfl rfl rfl ?_
    refine WL_v rfl (ov_pickT rfl rfl) ?_
    refine WL_nil ?_
    refine WT_condT rfl ?_
    refine WT_seq ?_
    refine WT_region ?_
    refine WL_v rfl (ov_assign rfl) ?_
    refine WL_v rfl (ov_assign rfl) ?_
    refine WL_v rfl (ov_assign rfl) ?_
    refine WL_nil ?_
    exact WT_ret3 Try.func24 Try.results24 rfl rfl rfl (doneV_bad (doneOk_bad fun hh => hv hh.1) hH1)
  have hlen := PlanOk.len hv
  refine WT_seq ?_
  refine WT_region ?_
  refine WL_v rfl (ov_assign rfl) ?_
  refine WL_v rfl (ov_assign rfl) ?_
  refine WL_v rfl (ov_assign rfl) ?_
  refine WL_nil ?_
  refine WT_seq ?_
  refine WT_seq ?_
  refine WT_region ?_
  refine WL_v rfl (ov_move rfl) ?_
  refine WL_call rfl rfl cf_impl_PlanValid (planValid_ok hH hP) ?_; rintro _ w1 ⟨rfl, hH1⟩
  refine WL_v rfl (ov_F (ov_not rfl) (by first | exact decide_eq_false hv | exact nb_F hv | exact mb_F hv | exact hv | (simp only [decide_eq_false_iff_not]; omega) | simpa using hv)) ?_
  refine WL_v rfl (ov_move rfl) ?_
  refine WL_guardOn rfl rfl ?_
  refine WL_v rfl (ov_move rfl) ?_
  refine WL_guardOn rfl rfl ?_
  refine WL_v rfl (ov_move rfl) ?_
  refine WL_guardOn rfl rfl ?_
  refine WL_call rfl rfl cf_impl_isNode (isNode_ok hH1 hP.sl a) ?_; rintro _ w2 ⟨rfl, hH2⟩
  refine WL_guardOn rfl rfl ?_
  refine WL_v rfl (ov_not rfl) ?_
  refine WL_v rfl (ov_pickF rfl rfl) ?_
  refine WL_nil ?_
  refine WT_cond rfl (fun hn => ?_) (fun hn => ?_)
  · skip
    first | with_reducible replace hn := of_decide_eq_true hn | with_reducible replace hn := bn_T hn | with_reducible replace hn := bb_T hn | skip
    refine WT_seq ?_
    refine WT_region ?_
    refine WL_v rfl (ov_assign rfl) ?_
    refine WL_v rfl (ov_assign rfl) ?_
    refine WL_v rfl (ov_assign rfl) ?_
    refine WL_nil ?_
    exact WT_ret3 Try.func24 Try.results24 rfl rfl rfl (doneV_bad (doneOk_bad fun hh => hn hh.2.1) hH2)
  first | with_reducible replace hn := of_decide_eq_false hn | with_reducible replace hn := bn_F hn | with_reducible replace hn := bb_F hn | skip
  obtain ⟨i, hi⟩ := Int.eq_ofNat_of_zero_le hn.1
  subst hi
  have hin : i < p.length := by omega
  have hC2 : ∀ {A}, RdL h (A :: Ls) cv c := ⟨hC.sl, fun hH _ hj => hC.cell hH.drop hj⟩
  refine WT_skip ?_
  refine WT_seq ?_
  refine WT_region ?_
  refine WL_v rfl (ov_move rfl) ?_
  refine WL_call rfl rfl cf_impl_countTableOf (countTableOf_ok hH2 hP hv) ?_; rintro _ w3 ⟨g, rfl, hH3⟩
  refine WL_v rfl (ov_assign rfl) ?_
  refine WL_nil ?_
  refine WT_seq ?_
  refine WT_seq ?_
  refine WT_region ?_
  refine WL_v rfl (ov_move rfl) ?_
  refine WL_v rfl (ov_move rfl) ?_
  have hset := ctSet_ok hH3 (i := 0) rfl (tabK_len _ _ _) hlen hC2 hcl
  by_cases hcond : c.length = p.length ∧ ∀ k, k < p.length → 0 ≤ c.getD k 0 ∧ c.getD k 0 ≤ (tabK p p.length []).getD k 0
  case neg =>
    have hset2 := hset.mono (R' := fun v w' => v = .bool false ∧ H w' h (cbox g (tabK p p.length []) p.length :: Ls)) fun v w' hh => by
      rcases hh with ⟨h1, h2, _⟩ | ⟨_, h1, h2⟩
      · exact absurd ⟨h1, h2⟩ hcond
      · exact ⟨h1, h2⟩
    refine WL_call rfl rfl cf_p_impl_countTable_set (hset2) ?_; rintro _ w4 ⟨rfl, hH4⟩
    refine WL_v rfl (ov_not rfl) ?_
    refine WL_nil ?_
    refine WT_condT rfl ?_
    refine WT_seq ?_
    refine WT_region ?_
    refine WL_v rfl (ov_assign rfl) ?_
    refine WL_v rfl (ov_assign rfl) ?_
    refine WL_v rfl (ov_assign rfl) ?_
    refine WL_nil ?_
    exact WT_ret3 Try.func24 Try.results24 rfl rfl rfl (doneV_bad (doneOk_bad fun hh => hcond ⟨hh.2.2.1, fun k hk => by have := (hh.2.2.2 k hk).1; rw [tabK_val hv hk]; exact this⟩) hH4.drop)
  have hset2 := hset.mono (R' := fun v w' => v = .bool true ∧ H w' h (cbox g (c ++ (tabK p p.length []).drop p.length) p.length :: Ls)) fun v w' hh => by
    rcases hh with ⟨_, _, h1, h2⟩ | ⟨h1, _⟩
    · exact ⟨h1, h2⟩
    · exact absurd hcond h1
  clear hset
  obtain ⟨hcn, hcr⟩ := hcond
  generalize hR : (tabK p p.length []).drop p.length = R at hset2
  have hRl : (c ++ R).length = 10 := by rw [← hR, List.length_append, List.length_drop, tabK_len]; omega
  have hrg : ∀ u, 0 ≤ (c ++ R).getD u 0 ∧ (c ++ R).getD u 0 ≤ 1000 := fun u => by
    rcases Nat.lt_or_ge u c.length with hu | hu
    · rw [app_getD hu]
      have h1 := hcr u (by omega)
      have h2 := tabK_rg hv u
      omega
    · have h2 := tabK_rg hv u
      have : (c ++ R).getD u 0 = (tabK p p.length []).getD u 0 := by
        rw [List.getD_eq_getElem?_getD, List.getElem?_append_right hu, ← hR, List.getElem?_drop, ← List.getD_eq_getElem?_getD]
        congr 1
        omega
      omega
  have hu : usesOf p (i : Int) = toI (usersTo p p.length i) := by unfold usesOf; rw [if_pos ⟨hv, hn⟩]; simp
  have hUn : (usersTo p p.length i).Nodup := List.nodup_range.filter _
  have hU10 : ∀ u ∈ usersTo p p.length i, u < 10 := fun u hm => by have := usersTo_lt hm; omega
  refine WL_call rfl rfl cf_p_impl_countTable_set (hset2) ?_; rintro _ w4 ⟨rfl, hH4⟩
  refine WL_v rfl (ov_not rfl) ?_
  refine WL_nil ?_
  refine WT_condF rfl ?_
  refine WT_skip ?_
  refine WT_seq ?_
  refine WT_region ?_
  refine WL_v rfl (ov_move rfl) ?_
  refine WL_v rfl (ov_move rfl) ?_
  refine WL_v rfl (ov_move rfl) ?_
  refine WL_call rfl rfl cf_impl_PlanUses (planUses_ok hH4 hP (i : Int)) ?_; rintro uv w5 ⟨UX, hU, hH5⟩
  rw [hu] at hU
  have htk := ctTake_ok hH5 (i := 1) (j := 0) rfl rfl (by omega) hRl hU hUn hU10 hrg
  by_cases hnz : ∀ u ∈ usersTo p p.length i, (c ++ R).getD u 0 ≠ 0
  case neg =>
    have htk2 := htk.mono (R' := fun v w' => v = .tuple #[.slice none 0 0, .bool false] ∧ ∃ L', H w' h (UX :: cbox g L' p.length :: Ls)) fun v w' hh => by
      rcases hh with ⟨h1, _⟩ | ⟨_, h1, h2⟩
      · exact absurd h1 hnz
      · exact ⟨h1, h2⟩
    refine WL_call rfl rfl cf_p_impl_countTable_take (htk2) ?_; rintro _ w6 ⟨rfl, L', hH6⟩
    refine WL_v rfl (ov_move rfl) ?_
    refine WL_v rfl (ov_extract rfl rfl) ?_
    refine WL_v rfl (ov_extract rfl rfl) ?_
    refine WL_v rfl (ov_assign rfl) ?_
    refine WL_v rfl (ov_assign rfl) ?_
    refine WL_nil ?_
    refine WT_seq ?_
    refine WT_seq ?_
    refine WT_region ?_
    refine WL_v rfl (ov_move rfl) ?_
    refine WL_v rfl (ov_not rfl) ?_
    refine WL_nil ?_
    refine WT_condT rfl ?_
    refine WT_seq ?_
    refine WT_region ?_
    refine WL_v rfl (ov_assign rfl) ?_
    refine WL_v rfl (ov_assign rfl) ?_
    refine WL_v rfl (ov_assign rfl) ?_
    refine WL_nil ?_
    exact WT_ret3 Try.func24 Try.results24 rfl rfl rfl (doneV_bad (doneOk_bad fun hh => hnz fun u hm => by
      have hup := usersTo_lt hm
      rw [app_getD (by omega)]
      exact (hh.2.2.2 u hup).2 (mem_usersTo.1 hm).2) hH6.drop.drop)
  have htk2 := htk.mono (R' := fun v w' => ∃ X rv, v = .tuple #[rv, .bool true] ∧ IRow X 3 rv (toI ((usersTo p p.length i).filter fun u => decide ((c ++ R).getD u 0 = 1))) ∧ H w' h (X :: UX :: cbox g (decAll (usersTo p p.length i) (c ++ R)) p.length :: Ls)) fun v w' hh => by
    rcases hh with ⟨_, h1⟩ | ⟨h1, _⟩
    · exact h1
    · exact absurd hnz h1
  clear htk
  have hok : doneOk p c (i : Int) = true := doneOk_of hv hn hcn fun k hk => ⟨by have := hcr k hk; rw [tabK_val hv hk] at this; exact this, fun hm => by
    have := hnz k (mem_usersTo.2 ⟨hk, hm⟩)
    rwa [app_getD (by omega)] at this⟩
  have hfil : (usersTo p p.length i).filter (fun u => decide ((c ++ R).getD u 0 = 1)) = doneR p c (i : Int) := by
    rw [← doneR_eq]
    refine List.filter_congr fun u hm => ?_
    rw [app_getD (by have := usersTo_lt hm; omega)]
  rw [hfil] at htk2
  refine WL_call rfl rfl cf_p_impl_countTable_take (htk2) ?_; rintro _ w6 ⟨Y, yv, rfl, hY, hH6⟩
  refine WL_v rfl (ov_move rfl) ?_
  refine WL_v rfl (ov_extract rfl rfl) ?_
  refine WL_v rfl (ov_extract rfl rfl) ?_
  refine WL_v rfl (ov_assign rfl) ?_
  refine WL_v rfl (ov_assign rfl) ?_
  refine WL_nil ?_
  refine WT_seq ?_
  refine WT_seq ?_
  refine WT_region ?_
  refine WL_v rfl (ov_move rfl) ?_
  refine WL_v rfl (ov_not rfl) ?_
  refine WL_nil ?_
  refine WT_condF rfl ?_
  refine WT_skip ?_
  refine WT_seq ?_
  refine WT_region ?_
  refine WL_v rfl (ov_move rfl) ?_
  refine WL_call rfl rfl cf_p_impl_countTable_list (ctList_ok hH6 (i := 2) rfl (by rw [decAll_len]; exact hRl) hlen) ?_; rintro xv w7 ⟨X, hX, hH7⟩
  refine WL_v rfl (ov_move rfl) ?_
  refine WL_v rfl (ov_assign rfl) ?_
  refine WL_v rfl (ov_assign rfl) ?_
  refine WL_v rfl (ov_assign rfl) ?_
  refine WL_nil ?_
  rw [decAll_take hv hcn] at hX
  exact WT_ret3 Try.func24 Try.results24 rfl rfl rfl ⟨X, Y, xv, yv, by rw [hok]; rfl, by unfold doneCo; rw [if_pos hok]; exact hX, by unfold doneRo; rw [if_pos hok]; exact hY, (hH7.del 3 rfl).del 2 rfl⟩

/-- The places of counts that are 0. -/
def zerosL (c : List Int) (k : Nat) : List Nat := (List.range k).filter fun i => decide (c.getD i 0 = 0)
theorem countsReady_ok (hH : H w h Ls) {cv : Value} {c : List Int} (hC : RdL h Ls cv c) (hcl : c.length ≤ 1000000000) : Rets Try.prog 25 #[cv] w fun v w' => ∃ X, IRow X 3 v (toI (zerosL c c.length)) ∧ H w' h (X :: Ls) := by
  refine rets_enter Try.func25 rfl Try.ntmps25 (by simp) ?_
  refine WT_seq ?_
  refine WT_region ?_
  refine WL_v rfl (ov_assign rfl) ?_
  refine WL_nil ?_
  refine WT_seq ?_
  refine WT_region ?_
  refine WL_v rfl (ov_assign rfl) ?_
  refine WL_nil ?_
  refine WT_seq ?_
  refine WT_seq ?_
  refine WT_region ?_
  refine WL_v rfl (ov_move rfl) ?_
  refine WL_v rfl (ov_len rfl hC.sl st_sl_int) ?_
  refine WL_v rfl (ov_move rfl) ?_
  refine WL_nil ?_
  refine WT_block ?_
  refine WT_while (fun s : Nat × Value => [(3, s.2), (6, cv), (7, .int .i64 (c.length : Int)), (8, .int .i64 (s.1 : Int))]) (fun s w => s.1 ≤ c.length ∧ ∃ X, IRow X 3 s.2 (toI (zerosL c s.1)) ∧ H w h (X :: Ls)) (fun s => c.length - s.1) (0, .slice none 0 0) (by repeat (first | exact trivial | refine ⟨rfl, ?_⟩)) ⟨by omega, [], IRow.nil _, hH.nilIn⟩ ?_
  clear hH
  rintro ⟨k, sv⟩ w2 ⟨hk, X, hX, hH⟩ again
  simp only at hk hX
  have hfl := List.length_filter_le (fun i => decide (c.getD i 0 = 0)) (List.range k)
  rw [List.length_range] at hfl
  have hzl : (zerosL c k).length ≤ k := hfl
  refine WT_seq ?_
  refine WT_region ?_
  refine WL_v rfl (ov_lss rfl rfl) ?_
  refine WL_nil ?_
  refine WT_seq ?_
  refine WT_cond rfl (fun hc => ?_) (fun hc => ?_)
  · skip
    first | with_reducible replace hc := of_decide_eq_true hc | with_reducible replace hc := bn_T hc | with_reducible replace hc := bb_T hc | skip
    simp only at hc
    have hkc : k < c.length := by omega
    refine WT_skip ?_
    refine WT_seq ?_
    refine WT_block ?_
    refine WT_seq ?_
    refine WT_region ?_
    refine WL_v rfl (ov_move rfl) ?_
    refine WL_v rfl (ov_index rfl rfl st_sl_int hC.sl hkc) ?_
    refine WL_v rfl (ov_load rfl one_int (hC.cell hH.drop hkc)) ?_
    refine WL_v rfl (ov_assign rfl) ?_
    refine WL_v rfl (ov_assign rfl) ?_
    refine WL_nil ?_
    refine WT_seq ?_
    refine WT_region ?_
    refine WL_v rfl (ov_move rfl) ?_
    refine WL_v rfl (ov_eql rfl rfl) ?_
    refine WL_nil ?_
    refine WT_cond rfl (fun h0 => ?_) (fun h0 => ?_)
    · skip
      first | with_reducible replace h0 := of_decide_eq_true h0 | with_reducible replace h0 := bn_T h0 | with_reducible replace h0 := bb_T h0 | skip
      refine WT_region ?_
      refine WL_v rfl (ov_move rfl) ?_
      refine WL_v rfl (ov_move rfl) ?_
      refine WL_bsI rfl hH rfl (run_bs_int _) ?_; rintro Y yv w3 hY hH3
      refine WL_appI (i := 1) (j := 0) rfl hH3 rfl rfl st_sl_int rfl hX rfl hY (by simp only [toI_len, List.length_cons, List.length_nil]; omega) (by simp only [toI_len, List.length_cons, List.length_nil]; omega) ?_; rintro X2 sv2 w4 hX2 hH4
      refine WL_v rfl (ov_assign rfl) ?_
      refine WL_nil ?_
      refine WT_inBlock ?_
      refine WT_region ?_
      refine WL_v rfl (ov_add rfl rfl (by omega)) ?_
      refine WL_v rfl (ov_move rfl) ?_
      refine WL_nil ?_
      refine again (k + 1, sv2) _ _ (by simp only; omega) (by repeat (first | exact trivial | refine ⟨rfl, ?_⟩)) ⟨by simp only; omega, X2, by simp only [zerosL]; rw [List.range_succ, List.filter_append, List.filter_cons, if_pos (by rw [decide_eq_true_eq, getD_elem hkc]; exact h0), List.filter_nil, toI_snoc]; exact hX2, hH4.drop⟩
    first | with_reducible replace h0 := of_decide_eq_false h0 | with_reducible replace h0 := bn_F h0 | with_reducible replace h0 := bb_F h0 | skip
    refine WT_skip ?_
    refine WT_inBlock ?_
    refine WT_region ?_
    refine WL_v rfl (ov_add rfl rfl (by omega)) ?_
    refine WL_v rfl (ov_move rfl) ?_
    refine WL_nil ?_
    refine again (k + 1, sv) _ _ (by simp only; omega) (by repeat (first | exact trivial | refine ⟨rfl, ?_⟩)) ⟨by simp only; omega, X, by simp only [zerosL]; rw [List.range_succ, List.filter_append, List.filter_cons, if_neg (by rw [decide_eq_true_eq, getD_elem hkc]; exact h0), List.filter_nil, List.append_nil]; exact hX, hH⟩
  first | with_reducible replace hc := of_decide_eq_false hc | with_reducible replace hc := bn_F hc | with_reducible replace hc := bb_F hc | skip
  simp only at hc
  obtain rfl : k = c.length := by omega
  refine WT_exit rfl ?_
  refine WT_seq ?_
  refine WT_region ?_
  refine WL_v rfl (ov_move rfl) ?_
  refine WL_v rfl (ov_assign rfl) ?_
  refine WL_nil ?_
  exact WT_ret1 Try.func25 Try.results25 rfl ⟨X, hX, hH⟩
end
end Go.Proofs.Ytmcedghgincaaaa
