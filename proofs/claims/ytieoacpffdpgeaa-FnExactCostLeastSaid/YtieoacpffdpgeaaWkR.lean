/- Walks: what workers need at least; the draw of a plan and workers. -/
import Derived.Test.YtieoacpffdpgeaaWkO
import Derived.Test.YtieoacpffdpgeaaWkH
import Derived.Test.YtieoacpffdpgeaaSlF
import Derived.Test.YtieoacpffdpgeaaPlG
namespace Go.Proofs.Ytieoacpffdpgeaa
open Go.RowKit

section
variable {h : GH} {Ls : List Heaplet} {w : World}

theorem workersFit_ok (hH : H w h Ls) (m : Int) : Rets Try.prog 60 #[.int .i64 m] w fun v w' => v = .bool (decide (1 ≤ m ∧ m ≤ 4)) ∧ H w' h Ls := by
  refine rets_enter Try.func60 rfl Try.ntmps60 (by simp) ?_
  by_cases h0 : 1 ≤ m
  · skip
    refine WT_seq ?_
    refine WT_region ?_
    refine WL_v rfl (ov_assign rfl) ?_
    refine WL_nil ?_
    refine WT_seq ?_
    refine WT_region ?_
    refine WL_v rfl (ov_move rfl) ?_
    refine WL_v rfl (ov_T (ov_geq rfl rfl) (by first | exact decide_eq_true h0 | exact nb_T h0 | exact mb_T h0 | exact h0 | (simp only [decide_eq_true_eq]; omega) | simpa using h0)) ?_
    refine WL_v rfl (ov_move rfl) ?_
    refine WL_guardOn rfl rfl ?_
    refine WL_v rfl (ov_move rfl) ?_
    refine WL_guardOn rfl rfl ?_
    refine WL_v rfl (ov_leq rfl rfl) ?_
    refine WL_v rfl (ov_pickT rfl rfl) ?_
    refine WL_v rfl (ov_assign rfl) ?_
    refine WL_nil ?_
    exact WT_ret1 Try.func60 Try.results60 rfl ⟨by simp [h0], hH⟩
  refine WT_seq ?_
  refine WT_region ?_
  refine WL_v rfl (ov_assign rfl) ?_
  refine WL_nil ?_
  refine WT_seq ?_
  refine WT_region ?_
  refine WL_v rfl (ov_move rfl) ?_
  refine WL_v rfl (ov_F (ov_geq rfl rfl) (by first | exact decide_eq_false h0 | exact nb_F h0 | exact mb_F h0 | exact h0 | (simp only [decide_eq_false_iff_not]; omega) | simpa using h0)) ?_
  refine WL_v rfl (ov_move rfl) ?_
  refine WL_guardOff rfl rfl rfl rfl ?_
  refine WL_guardOff rfl rfl rfl rfl ?_
  refine WL_v rfl (ov_pickF rfl rfl) ?_
  refine WL_v rfl (ov_assign rfl) ?_
  refine WL_nil ?_
  exact WT_ret1 Try.func60 Try.results60 rfl ⟨by simp [h0], hH⟩

theorem drawCrewNew_ok (hH : H w h Ls) {cv : Value} {bs : List Int} (hB : Bytes h cv bs) : Rets Try.prog 58 #[cv] w fun v w' => ∃ pv m, v = .tuple #[pv, .int .i64 m] ∧ -10 ≤ m ∧ m ≤ 10 ∧ Drew h Ls pv w' := by
  refine rets_enter Try.func58 rfl Try.ntmps58 (by simp) ?_
  refine WT_seq ?_
  refine WT_region ?_
  refine WL_v rfl (ov_assign rfl) ?_
  refine WL_v rfl (ov_assign rfl) ?_
  refine WL_nil ?_
  refine WT_seq ?_
  refine WT_region ?_
  refine WL_v rfl (ov_move rfl) ?_
  refine WL_call rfl rfl cf_spec_l6Open (l6Open_ok hH hB) ?_; rintro _ w1 ⟨g, bv, bs', rfl, hB', hH1⟩
  refine WL_v rfl (ov_assign rfl) ?_
  refine WL_nil ?_
  refine WT_seq ?_
  refine WT_region ?_
  refine WL_v rfl (ov_move rfl) ?_
  refine WL_call rfl rfl cf_spec_l91Plan (l91Plan_ok hH1 hB' (by omega)) ?_; rintro pv w2 ⟨p, O, Is, p', hO, hl, hp', hH2⟩
  refine WL_v rfl (ov_assign rfl) ?_
  refine WL_nil ?_
  refine WT_seq ?_
  refine WT_region ?_
  refine WL_v rfl (ov_move rfl) ?_
  refine WL_v rfl (ov_move rfl) ?_
  refine WL_call rfl rfl cf_p_spec_l6Rd_pick (pick_ok hH2 hB' (by omega) 4) ?_; rintro _ w3 ⟨r1, rfl, hr1, hH3⟩
  refine WL_v rfl (ov_add rfl rfl (by have := hr1.1 (by omega); omega)) ?_
  refine WL_v rfl (ov_move rfl) ?_
  refine WL_call rfl rfl cf_p_spec_l6Rd_pick (pick_ok hH3 hB' (by omega) 20) ?_; rintro _ w4 ⟨r2, rfl, hr2, hH4⟩
  have hr14 := hr1.1 (by omega)
  have hr24 := hr2.1 (by omega)
  refine WL_v rfl (ov_quo rfl rfl (by omega) (by omega) (by omega)) ?_
  refine WL_v rfl (ov_mul rfl rfl (by omega)) ?_
  refine WL_v rfl (ov_sub rfl rfl (by omega)) ?_
  refine WL_v rfl (ov_assign rfl) ?_
  refine WL_v rfl (ov_assign rfl) ?_
  refine WL_nil ?_
  exact WT_ret2 Try.func58 Try.results58 rfl rfl ⟨pv, _, rfl, by omega, by omega, drew_of hO hl hH4⟩
theorem drawCostLeast_ok (hH : H w h Ls) {cv : Value} {bs : List Int} (hB : Bytes h cv bs) : Rets Try.prog 22 #[cv] w fun v w' => ∃ pv m, v = .tuple #[pv, .int .i64 m] ∧ -10 ≤ m ∧ m ≤ 10 ∧ Drew h Ls pv w' := by
  refine rets_enter Try.func22 rfl Try.ntmps22 (by simp) ?_
  refine WT_seq ?_
  refine WT_region ?_
  refine WL_v rfl (ov_assign rfl) ?_
  refine WL_v rfl (ov_assign rfl) ?_
  refine WL_nil ?_
  refine WT_seq ?_
  refine WT_region ?_
  refine WL_v rfl (ov_move rfl) ?_
  refine WL_call rfl rfl cf_spec_DrawCrewNew (drawCrewNew_ok hH hB) ?_; rintro _ w1 ⟨pv, m, rfl, h1, h2, hD⟩
  refine WL_v rfl (ov_extract rfl rfl) ?_
  refine WL_v rfl (ov_extract rfl rfl) ?_
  refine WL_v rfl (ov_assign rfl) ?_
  refine WL_v rfl (ov_assign rfl) ?_
  refine WL_nil ?_
  exact WT_ret2 Try.func22 Try.results22 rfl rfl ⟨pv, m, rfl, h1, h2, hD⟩

theorem costLeast_ok (hH : H w h Ls) {pv : Value} {p : List Nd} (hP : Plan h pv p) (m : Int) : Rets Try.prog 23 #[pv, .int .i64 m] w fun v w' => v = .int .i64 (costLeast p m) ∧ H w' h Ls := by
  refine rets_enter Try.func23 rfl Try.ntmps23 (by simp) ?_
  by_cases hv : planOk p = true
  case neg =>
    have hv' : planOk p = false := by simpa using hv
    refine WT_seq ?_
    refine WT_region ?_
    refine WL_v rfl (ov_assign rfl) ?_
    refine WL_nil ?_
    refine WT_seq ?_
    refine WT_seq ?_
    refine WT_region ?_
    refine WL_v rfl (ov_move rfl) ?_
    refine WL_call rfl rfl cf_impl_PlanValid (planValid_ok hH hP) ?_; rintro _ w1 ⟨rfl, hH1⟩
    refine WL_v rfl (ov_T (ov_not rfl) (by first | exact decide_eq_true hv' | exact nb_T hv' | exact mb_T hv' | exact hv' | (simp only [decide_eq_true_eq]; omega) | simpa using hv')) ?_
    refine WL_v rfl (ov_move rfl) ?_
    refine WL_guardOff rfl rfl rfl rfl ?_
    refine WL_guardOff rfl rfl rfl rfl ?_
    refine WL_guardOff rfl rfl rfl rfl ?_
    refine WL_v rfl (ov_pickT rfl rfl) ?_
    refine WL_nil ?_
    refine WT_condT rfl ?_
    refine WT_seq ?_
    refine WT_region ?_
    refine WL_v rfl (ov_assign rfl) ?_
    refine WL_nil ?_
    exact WT_ret1 Try.func23 Try.results23 rfl ⟨by unfold costLeast; rw [if_neg (fun hh => hv hh.1)], hH1⟩
  have hlen := PlanOk.len hv
  have hsr := sumTo_rg p p.length
  refine WT_seq ?_
  refine WT_region ?_
  refine WL_v rfl (ov_assign rfl) ?_
  refine WL_nil ?_
  refine WT_seq ?_
  refine WT_seq ?_
  refine WT_region ?_
  refine WL_v rfl (ov_move rfl) ?_
  refine WL_call rfl rfl cf_impl_PlanValid (planValid_ok hH hP) ?_; rintro _ w1 ⟨rfl, hH1⟩
  refine WL_v rfl (ov_F (ov_not rfl) (by first | exact decide_eq_false hv | exact nb_F hv | exact mb_F hv | exact hv | (simp only [decide_eq_false_iff_not]; omega) | simpa using hv)) ?_
  refine WL_v rfl (ov_move rfl) ?_
  refine WL_guardOn rfl rfl ?_
  refine WL_v rfl (ov_move rfl) ?_
  refine WL_guardOn rfl rfl ?_
  refine WL_call rfl rfl cf_impl_workersFit (workersFit_ok hH1 m) ?_; rintro _ w2 ⟨rfl, hH2⟩
  refine WL_guardOn rfl rfl ?_
  refine WL_v rfl (ov_not rfl) ?_
  refine WL_v rfl (ov_pickF rfl rfl) ?_
  refine WL_nil ?_
  refine WT_cond rfl (fun hm => ?_) (fun hm => ?_)
  · skip
    first | with_reducible replace hm := of_decide_eq_true hm | with_reducible replace hm := bn_T hm | with_reducible replace hm := bb_T hm | skip
    refine WT_seq ?_
    refine WT_region ?_
    refine WL_v rfl (ov_assign rfl) ?_
    refine WL_nil ?_
    exact WT_ret1 Try.func23 Try.results23 rfl ⟨by unfold costLeast; rw [if_neg (fun hh => hm hh.2)], hH2⟩
  first | with_reducible replace hm := of_decide_eq_false hm | with_reducible replace hm := bn_F hm | with_reducible replace hm := bb_F hm | skip
  refine WT_skip ?_
  refine WT_seq ?_
  refine WT_region ?_
  refine WL_v rfl (ov_move rfl) ?_
  refine WL_call rfl rfl cf_impl_CostPath (costPath_ok hH2 hP) ?_; rintro _ w3 ⟨rfl, hH3⟩
  refine WL_v rfl (ov_move rfl) ?_
  refine WL_call rfl rfl cf_impl_CostAll (costAll_ok hH3 hP) ?_; rintro _ w4 ⟨rfl, hH4⟩
  refine WL_v rfl (ov_move rfl) ?_
  refine WL_v rfl (ov_add rfl rfl (by rw [if_pos hv]; omega)) ?_
  refine WL_v rfl (ov_sub rfl rfl (by rw [if_pos hv]; omega)) ?_
  refine WL_v rfl (ov_move rfl) ?_
  refine WL_v rfl (ov_quo rfl rfl (by rw [if_pos hv]; omega) (by omega) (by rw [if_pos hv]; omega)) ?_
  refine WL_v rfl (ov_max rfl rfl) ?_
  refine WL_v rfl (ov_assign rfl) ?_
  refine WL_nil ?_
  exact WT_ret1 Try.func23 Try.results23 rfl ⟨by unfold costLeast leastOf; rw [if_pos (show planOk p = true ∧ 1 ≤ m ∧ m ≤ 4 from ⟨hv, hm⟩), if_pos hv, if_pos hv], hH4⟩

theorem sCostLeast_ok (hH : H w h Ls) {pv : Value} {p : List Nd} (hP : Plan h pv p) (hl : p.length ≤ 1000000000) (m : Int) : Rets Try.prog 24 #[pv, .int .i64 m] w fun v w' => v = .int .i64 (costLeast p m) ∧ H w' h Ls := by
  refine rets_enter Try.func24 rfl Try.ntmps24 (by simp) ?_
  by_cases hv : planOk p = true
  case neg =>
    have hv' : planOk p = false := by simpa using hv
    refine WT_seq ?_
    refine WT_region ?_
    refine WL_v rfl (ov_assign rfl) ?_
    refine WL_nil ?_
    refine WT_seq ?_
    refine WT_seq ?_
    refine WT_region ?_
    refine WL_v rfl (ov_move rfl) ?_
    refine WL_call rfl rfl cf_spec_PlanValid (sPlanValid_ok hH hP hl) ?_; rintro _ w1 ⟨rfl, hH1⟩
    refine WL_v rfl (ov_T (ov_not rfl) (by first | exact decide_eq_true hv' | exact nb_T hv' | exact mb_T hv' | exact hv' | (simp only [decide_eq_true_eq]; omega) | simpa using hv')) ?_
    refine WL_v rfl (ov_move rfl) ?_
    refine WL_guardOff rfl rfl rfl rfl ?_
    refine WL_guardOff rfl rfl rfl rfl ?_
    refine WL_guardOff rfl rfl rfl rfl ?_
    refine WL_v rfl (ov_pickT rfl rfl) ?_
    refine WL_nil ?_
    refine WT_condT rfl ?_
    refine WT_seq ?_
    refine WT_region ?_
    refine WL_v rfl (ov_assign rfl) ?_
    refine WL_nil ?_
    exact WT_ret1 Try.func24 Try.results24 rfl ⟨by unfold costLeast; rw [if_neg (fun hh => hv hh.1)], hH1⟩
  have hlen := PlanOk.len hv
  have hsr := sumTo_rg p p.length
  refine WT_seq ?_
  refine WT_region ?_
  refine WL_v rfl (ov_assign rfl) ?_
  refine WL_nil ?_
  refine WT_seq ?_
  refine WT_seq ?_
  refine WT_region ?_
  refine WL_v rfl (ov_move rfl) ?_
  refine WL_call rfl rfl cf_spec_PlanValid (sPlanValid_ok hH hP hl) ?_; rintro _ w1 ⟨rfl, hH1⟩
  refine WL_v rfl (ov_F (ov_not rfl) (by first | exact decide_eq_false hv | exact nb_F hv | exact mb_F hv | exact hv | (simp only [decide_eq_false_iff_not]; omega) | simpa using hv)) ?_
  refine WL_v rfl (ov_move rfl) ?_
  refine WL_guardOn rfl rfl ?_
  refine WL_v rfl (ov_move rfl) ?_
  refine WL_guardOn rfl rfl ?_
  refine WL_call rfl rfl cf_spec_l6In (l6In_ok hH1 m 1 4) ?_; rintro _ w2 ⟨rfl, hH2⟩
  refine WL_guardOn rfl rfl ?_
  refine WL_v rfl (ov_not rfl) ?_
  refine WL_v rfl (ov_pickF rfl rfl) ?_
  refine WL_nil ?_
  refine WT_cond rfl (fun hm => ?_) (fun hm => ?_)
  · skip
    first | with_reducible replace hm := of_decide_eq_true hm | with_reducible replace hm := bn_T hm | with_reducible replace hm := bb_T hm | skip
    refine WT_seq ?_
    refine WT_region ?_
    refine WL_v rfl (ov_assign rfl) ?_
    refine WL_nil ?_
    exact WT_ret1 Try.func24 Try.results24 rfl ⟨by unfold costLeast; rw [if_neg (fun hh => hm hh.2)], hH2⟩
  first | with_reducible replace hm := of_decide_eq_false hm | with_reducible replace hm := bn_F hm | with_reducible replace hm := bb_F hm | skip
  refine WT_skip ?_
  refine WT_seq ?_
  refine WT_region ?_
  refine WL_v rfl (ov_move rfl) ?_
  refine WL_call rfl rfl cf_spec_CostPath (sCostPath_ok hH2 hP hl) ?_; rintro _ w3 ⟨rfl, hH3⟩
  refine WL_v rfl (ov_move rfl) ?_
  refine WL_call rfl rfl cf_spec_CostAll (sCostAll_ok hH3 hP hl) ?_; rintro _ w4 ⟨rfl, hH4⟩
  refine WL_v rfl (ov_move rfl) ?_
  refine WL_v rfl (ov_add rfl rfl (by rw [if_pos hv]; omega)) ?_
  refine WL_v rfl (ov_sub rfl rfl (by rw [if_pos hv]; omega)) ?_
  refine WL_v rfl (ov_move rfl) ?_
  refine WL_v rfl (ov_quo rfl rfl (by rw [if_pos hv]; omega) (by omega) (by rw [if_pos hv]; omega)) ?_
  refine WL_v rfl (ov_max rfl rfl) ?_
  refine WL_v rfl (ov_assign rfl) ?_
  refine WL_nil ?_
  exact WT_ret1 Try.func24 Try.results24 rfl ⟨by unfold costLeast leastOf; rw [if_pos (show planOk p = true ∧ 1 ≤ m ∧ m ≤ 4 from ⟨hv, hm⟩), if_pos hv, if_pos hv], hH4⟩

theorem least_valid {p : List Nd} {m : Int} (h : ¬ costLeast p m < 0) : planOk p = true ∧ 1 ≤ m ∧ m ≤ 4 := by
  unfold costLeast at h
  by_cases hc : planOk p = true ∧ 1 ≤ m ∧ m ≤ 4
  · exact hc
  · rw [if_neg hc] at h; exact absurd (by simp) h

theorem fnCostLeast_walk (hH : H w h Ls) {cv : Value} {bs : List Int} (hB : Bytes h cv bs) : Rets Try.prog 5 #[cv] w fun v w' => v = .bool true ∧ H w' h Ls := by
  refine rets_enter Try.func5 rfl Try.ntmps5 (by simp) ?_
  refine WT_seq ?_
  refine WT_region ?_
  refine WL_v rfl (ov_assign rfl) ?_
  refine WL_nil ?_
  refine WT_seq ?_
  refine WT_seq ?_
  refine WT_region ?_
  refine WL_v rfl (ov_move rfl) ?_
  refine WL_v rfl (ov_len rfl hB.sl st_sl_uint8) ?_
  refine WL_v rfl (ov_gtr rfl rfl) ?_
  refine WL_nil ?_
  refine WT_cond rfl (fun hl => ?_) (fun hl => ?_)
  · skip
    first | with_reducible replace hl := of_decide_eq_true hl | with_reducible replace hl := bn_T hl | with_reducible replace hl := bb_T hl | skip
    refine WT_seq ?_
    refine WT_region ?_
    refine WL_v rfl (ov_assign rfl) ?_
    refine WL_nil ?_
    exact WT_ret1 Try.func5 Try.results5 rfl ⟨rfl, hH⟩
  first | with_reducible replace hl := of_decide_eq_false hl | with_reducible replace hl := bn_F hl | with_reducible replace hl := bb_F hl | skip
  refine WT_skip ?_
  refine WT_seq ?_
  refine WT_region ?_
  refine WL_v rfl (ov_move rfl) ?_
  refine WL_call rfl rfl cf_spec_DrawCostLeast (drawCostLeast_ok hH hB) ?_; rintro _ w1 ⟨pv, m, rfl, hm1, hm2, h', p, hle, hP, hpl, hH1⟩
  refine WL_v rfl (ov_move rfl) ?_
  refine WL_v rfl (ov_extract rfl rfl) ?_
  refine WL_v rfl (ov_extract rfl rfl) ?_
  refine WL_v rfl (ov_assign rfl) ?_
  refine WL_v rfl (ov_assign rfl) ?_
  refine WL_nil ?_
  refine WT_seq ?_
  refine WT_region ?_
  refine WL_v rfl (ov_move rfl) ?_
  refine WL_v rfl (ov_move rfl) ?_
  refine WL_call rfl rfl cf_impl_CostLeast (costLeast_ok hH1 hP m) ?_; rintro _ w2 ⟨rfl, hH2⟩
  refine WL_v rfl (ov_assign rfl) ?_
  refine WL_nil ?_
  refine WT_seq ?_
  refine WT_region ?_
  refine WL_v rfl (ov_move rfl) ?_
  refine WL_v rfl (ov_move rfl) ?_
  refine WL_call rfl rfl cf_spec_CostLeast (sCostLeast_ok hH2 hP (by omega) m) ?_; rintro _ w3 ⟨rfl, hH3⟩
  refine WL_v rfl (ov_assign rfl) ?_
  refine WL_nil ?_
  refine WT_seq ?_
  refine WT_seq ?_
  refine WT_region ?_
  refine WL_v rfl (ov_move rfl) ?_
  refine WL_v rfl (ov_move rfl) ?_
  refine WL_v rfl (ov_F (ov_neq rfl rfl) (by first | exact decide_eq_false rfl | exact nb_F rfl | exact mb_F rfl | exact rfl | (simp only [decide_eq_false_iff_not]; omega) | simpa using rfl)) ?_
  refine WL_v rfl (ov_move rfl) ?_
  refine WL_guardOn rfl rfl ?_
  refine WL_v rfl (ov_move rfl) ?_
  refine WL_guardOn rfl rfl ?_
  refine WL_v rfl (ov_lss rfl rfl) ?_
  refine WL_v rfl (ov_pickF rfl rfl) ?_
  refine WL_nil ?_
  refine WT_cond rfl (fun hneg => ?_) (fun hneg => ?_)
  · skip
    first | with_reducible replace hneg := of_decide_eq_true hneg | with_reducible replace hneg := bn_T hneg | with_reducible replace hneg := bb_T hneg | skip
    refine WT_seq ?_
    refine WT_region ?_
    refine WL_v rfl (ov_move rfl) ?_
    refine WL_v rfl (ov_move rfl) ?_
    refine WL_v rfl (ov_T (ov_eql rfl rfl) (by first | exact decide_eq_true rfl | exact nb_T rfl | exact mb_T rfl | exact rfl | (simp only [decide_eq_true_eq]; omega) | simpa using rfl)) ?_
    refine WL_v rfl (ov_assign rfl) ?_
    refine WL_nil ?_
    exact WT_ret1 Try.func5 Try.results5 rfl ⟨rfl, hH3.weak hle⟩
  first | with_reducible replace hneg := of_decide_eq_false hneg | with_reducible replace hneg := bn_F hneg | with_reducible replace hneg := bb_F hneg | skip
  obtain ⟨hv, h1, h4⟩ := least_valid hneg
  have hlen := PlanOk.len hv
  obtain ⟨q1, q2, q3, q4, q5⟩ := leastOf_rg p h1 h4
  have hcl : costLeast p m = leastOf p m := by unfold costLeast; rw [if_pos ⟨hv, h1, h4⟩]
  rw [hcl]
  have hmul : leastOf p m * m ≤ 4 * p.length * 4 ∧ 0 ≤ leastOf p m * m := by
    have hm : m = 1 ∨ m = 2 ∨ m = 3 ∨ m = 4 := by omega
    rcases hm with rfl | rfl | rfl | rfl <;> omega
  have hmul2 : (leastOf p m - 1) * m ≤ 4 * p.length * 4 ∧ -4 ≤ (leastOf p m - 1) * m := by
    have hm : m = 1 ∨ m = 2 ∨ m = 3 ∨ m = 4 := by omega
    rcases hm with rfl | rfl | rfl | rfl <;> omega
  have hca : (if planOk p = true then sumTo p p.length else -1) = sumTo p p.length := if_pos hv
  have hcp : (if planOk p = true then mostOf (pathsTo p p.length) else -1) = mostOf (pathsTo p p.length) := if_pos hv
  by_cases he : leastOf p m = mostOf (pathsTo p p.length)
  · skip
    refine WT_skip ?_
    refine WT_seq ?_
    refine WT_region ?_
    refine WL_v rfl (ov_move rfl) ?_
    refine WL_call rfl rfl cf_impl_CostAll (costAll_ok hH3 hP) ?_; rintro _ w4 ⟨rfl, hH4⟩
    refine WL_v rfl (ov_assign rfl) ?_
    refine WL_nil ?_
    refine WT_seq ?_
    refine WT_region ?_
    refine WL_v rfl (ov_move rfl) ?_
    refine WL_call rfl rfl cf_impl_CostPath (costPath_ok hH4 hP) ?_; rintro _ w5 ⟨rfl, hH5⟩
    refine WL_v rfl (ov_assign rfl) ?_
    refine WL_nil ?_
    refine WT_seq ?_
    refine WT_region ?_
    refine WL_v rfl (ov_move rfl) ?_
    refine WL_v rfl (ov_move rfl) ?_
    refine WL_v rfl (ov_T (ov_geq rfl rfl) (decide_eq_true (by rw [hcp]; omega))) ?_
    refine WL_v rfl (ov_move rfl) ?_
    refine WL_guardOn rfl rfl ?_
    refine WL_v rfl (ov_move rfl) ?_
    refine WL_guardOn rfl rfl ?_
    refine WL_v rfl (ov_move rfl) ?_
    refine WL_guardOn rfl rfl ?_
    refine WL_v rfl (ov_mul rfl rfl (by omega)) ?_
    refine WL_guardOn rfl rfl ?_
    refine WL_v rfl (ov_move rfl) ?_
    refine WL_guardOn rfl rfl ?_
    refine WL_v rfl (ov_T (ov_geq rfl rfl) (decide_eq_true (by rw [hca]; omega))) ?_
    refine WL_v rfl (ov_pickT rfl rfl) ?_
    refine WL_v rfl (ov_move rfl) ?_
    refine WL_guardOn rfl rfl ?_
    refine WL_v rfl (ov_move rfl) ?_
    refine WL_guardOn rfl rfl ?_
    refine WL_v rfl (ov_move rfl) ?_
    refine WL_guardOn rfl rfl ?_
    refine WL_v rfl (ov_T (ov_eql rfl rfl) (decide_eq_true (by rw [hcp]; omega))) ?_
    refine WL_guardOn rfl rfl ?_
    refine WL_v rfl (ov_move rfl) ?_
    refine WL_guardOff rfl rfl rfl rfl ?_
    refine WL_guardOff rfl rfl rfl rfl ?_
    refine WL_guardOff rfl rfl rfl rfl ?_
    refine WL_guardOff rfl rfl rfl rfl ?_
    refine WL_guardOff rfl rfl rfl rfl ?_
    refine WL_guardOff rfl rfl rfl rfl ?_
    refine WL_guardOn rfl rfl ?_
    refine WL_v rfl (ov_pickT rfl rfl) ?_
    refine WL_v rfl (ov_pickT rfl rfl) ?_
    refine WL_v rfl (ov_assign rfl) ?_
    refine WL_nil ?_
    exact WT_ret1 Try.func5 Try.results5 rfl ⟨rfl, hH5.weak hle⟩
  refine WT_skip ?_
  refine WT_seq ?_
  refine WT_region ?_
  refine WL_v rfl (ov_move rfl) ?_
  refine WL_call rfl rfl cf_impl_CostAll (costAll_ok hH3 hP) ?_; rintro _ w4 ⟨rfl, hH4⟩
  refine WL_v rfl (ov_assign rfl) ?_
  refine WL_nil ?_
  refine WT_seq ?_
  refine WT_region ?_
  refine WL_v rfl (ov_move rfl) ?_
  refine WL_call rfl rfl cf_impl_CostPath (costPath_ok hH4 hP) ?_; rintro _ w5 ⟨rfl, hH5⟩
  refine WL_v rfl (ov_assign rfl) ?_
  refine WL_nil ?_
  refine WT_seq ?_
  refine WT_region ?_
  refine WL_v rfl (ov_move rfl) ?_
  refine WL_v rfl (ov_move rfl) ?_
  refine WL_v rfl (ov_T (ov_geq rfl rfl) (decide_eq_true (by rw [hcp]; omega))) ?_
  refine WL_v rfl (ov_move rfl) ?_
  refine WL_guardOn rfl rfl ?_
  refine WL_v rfl (ov_move rfl) ?_
  refine WL_guardOn rfl rfl ?_
  refine WL_v rfl (ov_move rfl) ?_
  refine WL_guardOn rfl rfl ?_
  refine WL_v rfl (ov_mul rfl rfl (by omega)) ?_
  refine WL_guardOn rfl rfl ?_
  refine WL_v rfl (ov_move rfl) ?_
  refine WL_guardOn rfl rfl ?_
  refine WL_v rfl (ov_T (ov_geq rfl rfl) (decide_eq_true (by rw [hca]; omega))) ?_
  refine WL_v rfl (ov_pickT rfl rfl) ?_
  refine WL_v rfl (ov_move rfl) ?_
  refine WL_guardOn rfl rfl ?_
  refine WL_v rfl (ov_move rfl) ?_
  refine WL_guardOn rfl rfl ?_
  refine WL_v rfl (ov_move rfl) ?_
  refine WL_guardOn rfl rfl ?_
  refine WL_v rfl (ov_F (ov_eql rfl rfl) (decide_eq_false (by rw [hcp]; omega))) ?_
  refine WL_guardOn rfl rfl ?_
  refine WL_v rfl (ov_move rfl) ?_
  refine WL_guardOn rfl rfl ?_
  refine WL_v rfl (ov_move rfl) ?_
  refine WL_guardOn rfl rfl ?_
  refine WL_v rfl (ov_sub rfl rfl (by omega)) ?_
  refine WL_guardOn rfl rfl ?_
  refine WL_v rfl (ov_move rfl) ?_
  refine WL_guardOn rfl rfl ?_
  refine WL_v rfl (ov_mul rfl rfl (by omega)) ?_
  refine WL_guardOn rfl rfl ?_
  refine WL_v rfl (ov_move rfl) ?_
  refine WL_guardOn rfl rfl ?_
  refine WL_v rfl (ov_T (ov_lss rfl rfl) (decide_eq_true (by rw [hca]; omega))) ?_
  refine WL_guardOn rfl rfl ?_
  refine WL_v rfl (ov_pickF rfl rfl) ?_
  refine WL_v rfl (ov_pickT rfl rfl) ?_
  refine WL_v rfl (ov_assign rfl) ?_
  refine WL_nil ?_
  exact WT_ret1 Try.func5 Try.results5 rfl ⟨rfl, hH5.weak hle⟩

theorem fnCostLeastMore_walk (hH : H w h Ls) {cv : Value} {bs : List Int} (hB : Bytes h cv bs) : Rets Try.prog 6 #[cv] w fun v w' => v = .bool true ∧ H w' h Ls := by
  refine rets_enter Try.func6 rfl Try.ntmps6 (by simp) ?_
  refine WT_seq ?_
  refine WT_region ?_
  refine WL_v rfl (ov_assign rfl) ?_
  refine WL_nil ?_
  refine WT_seq ?_
  refine WT_seq ?_
  refine WT_region ?_
  refine WL_v rfl (ov_move rfl) ?_
  refine WL_v rfl (ov_len rfl hB.sl st_sl_uint8) ?_
  refine WL_v rfl (ov_gtr rfl rfl) ?_
  refine WL_nil ?_
  refine WT_cond rfl (fun hl => ?_) (fun hl => ?_)
  · skip
    first | with_reducible replace hl := of_decide_eq_true hl | with_reducible replace hl := bn_T hl | with_reducible replace hl := bb_T hl | skip
    refine WT_seq ?_
    refine WT_region ?_
    refine WL_v rfl (ov_assign rfl) ?_
    refine WL_nil ?_
    exact WT_ret1 Try.func6 Try.results6 rfl ⟨rfl, hH⟩
  first | with_reducible replace hl := of_decide_eq_false hl | with_reducible replace hl := bn_F hl | with_reducible replace hl := bb_F hl | skip
  refine WT_skip ?_
  refine WT_seq ?_
  refine WT_region ?_
  refine WL_v rfl (ov_move rfl) ?_
  refine WL_call rfl rfl cf_spec_DrawCostLeast (drawCostLeast_ok hH hB) ?_; rintro _ w1 ⟨pv, m, rfl, hm1, hm2, h', p, hle, hP, hpl, hH1⟩
  refine WL_v rfl (ov_move rfl) ?_
  refine WL_v rfl (ov_extract rfl rfl) ?_
  refine WL_v rfl (ov_extract rfl rfl) ?_
  refine WL_v rfl (ov_assign rfl) ?_
  refine WL_v rfl (ov_assign rfl) ?_
  refine WL_nil ?_
  refine WT_seq ?_
  refine WT_region ?_
  refine WL_v rfl (ov_move rfl) ?_
  refine WL_v rfl (ov_move rfl) ?_
  refine WL_call rfl rfl cf_impl_CostLeast (costLeast_ok hH1 hP m) ?_; rintro _ w2 ⟨rfl, hH2⟩
  refine WL_v rfl (ov_assign rfl) ?_
  refine WL_nil ?_
  refine WT_seq ?_
  refine WT_region ?_
  refine WL_v rfl (ov_move rfl) ?_
  refine WL_v rfl (ov_move rfl) ?_
  refine WL_call rfl rfl cf_spec_CostLeast (sCostLeast_ok hH2 hP (by omega) m) ?_; rintro _ w3 ⟨rfl, hH3⟩
  refine WL_v rfl (ov_assign rfl) ?_
  refine WL_nil ?_
  refine WT_seq ?_
  refine WT_seq ?_
  refine WT_region ?_
  refine WL_v rfl (ov_move rfl) ?_
  refine WL_v rfl (ov_move rfl) ?_
  refine WL_v rfl (ov_F (ov_neq rfl rfl) (by first | exact decide_eq_false rfl | exact nb_F rfl | exact mb_F rfl | exact rfl | (simp only [decide_eq_false_iff_not]; omega) | simpa using rfl)) ?_
  refine WL_v rfl (ov_move rfl) ?_
  refine WL_guardOn rfl rfl ?_
  refine WL_v rfl (ov_move rfl) ?_
  refine WL_guardOn rfl rfl ?_
  refine WL_v rfl (ov_lss rfl rfl) ?_
  refine WL_v rfl (ov_pickF rfl rfl) ?_
  refine WL_nil ?_
  refine WT_cond rfl (fun hneg => ?_) (fun hneg => ?_)
  · skip
    first | with_reducible replace hneg := of_decide_eq_true hneg | with_reducible replace hneg := bn_T hneg | with_reducible replace hneg := bb_T hneg | skip
    refine WT_seq ?_
    refine WT_region ?_
    refine WL_v rfl (ov_move rfl) ?_
    refine WL_v rfl (ov_move rfl) ?_
    refine WL_v rfl (ov_T (ov_eql rfl rfl) (by first | exact decide_eq_true rfl | exact nb_T rfl | exact mb_T rfl | exact rfl | (simp only [decide_eq_true_eq]; omega) | simpa using rfl)) ?_
    refine WL_v rfl (ov_assign rfl) ?_
    refine WL_nil ?_
    exact WT_ret1 Try.func6 Try.results6 rfl ⟨rfl, hH3.weak hle⟩
  first | with_reducible replace hneg := of_decide_eq_false hneg | with_reducible replace hneg := bn_F hneg | with_reducible replace hneg := bb_F hneg | skip
  obtain ⟨hv, h1, h4⟩ := least_valid hneg
  have hlen := PlanOk.len hv
  have hcl : costLeast p m = leastOf p m := by unfold costLeast; rw [if_pos ⟨hv, h1, h4⟩]
  have hone : costLeast p 1 = (if planOk p = true then sumTo p p.length else -1) := by unfold costLeast; rw [if_pos ⟨hv, by omega, by omega⟩, if_pos hv, leastOf_one]
  by_cases h3 : m ≤ 3
  case neg =>
    have hn : costLeast p (m + 1) = -1 := by unfold costLeast; rw [if_neg (fun hh => by omega)]
    refine WT_skip ?_
    refine WT_seq ?_
    refine WT_region ?_
    refine WL_v rfl (ov_move rfl) ?_
    refine WL_v rfl (ov_move rfl) ?_
    refine WL_v rfl (ov_add rfl rfl (by omega)) ?_
    refine WL_call rfl rfl cf_impl_CostLeast (costLeast_ok hH3 hP (m + 1)) ?_; rintro _ w4 ⟨rfl, hH4⟩
    refine WL_v rfl (ov_assign rfl) ?_
    refine WL_nil ?_
    refine WT_seq ?_
    refine WT_region ?_
    refine WL_v rfl (ov_move rfl) ?_
    refine WL_call rfl rfl cf_impl_CostLeast (costLeast_ok hH4 hP 1) ?_; rintro _ w5 ⟨rfl, hH5⟩
    refine WL_v rfl (ov_move rfl) ?_
    refine WL_call rfl rfl cf_impl_CostAll (costAll_ok hH5 hP) ?_; rintro _ w6 ⟨rfl, hH6⟩
    refine WL_v rfl (ov_T (ov_eql rfl rfl) (decide_eq_true hone)) ?_
    refine WL_v rfl (ov_move rfl) ?_
    refine WL_guardOn rfl rfl ?_
    refine WL_v rfl (ov_move rfl) ?_
    refine WL_guardOn rfl rfl ?_
    refine WL_v rfl (ov_T (ov_eql rfl rfl) (decide_eq_true hn)) ?_
    refine WL_guardOn rfl rfl ?_
    refine WL_v rfl (ov_move rfl) ?_
    refine WL_guardOff rfl rfl rfl rfl ?_
    refine WL_guardOff rfl rfl rfl rfl ?_
    refine WL_guardOff rfl rfl rfl rfl ?_
    refine WL_guardOn rfl rfl ?_
    refine WL_v rfl (ov_pickT rfl rfl) ?_
    refine WL_v rfl (ov_pickT rfl rfl) ?_
    refine WL_v rfl (ov_assign rfl) ?_
    refine WL_nil ?_
    exact WT_ret1 Try.func6 Try.results6 rfl ⟨rfl, hH6.weak hle⟩
  have hn : costLeast p (m + 1) = leastOf p (m + 1) := by unfold costLeast; rw [if_pos ⟨hv, by omega, by omega⟩]
  have hr := leastOf_rg p (show 1 ≤ m + 1 by omega) (by omega)
  have hmo := leastOf_more p h1 h3
  refine WT_skip ?_
  refine WT_seq ?_
  refine WT_region ?_
  refine WL_v rfl (ov_move rfl) ?_
  refine WL_v rfl (ov_move rfl) ?_
  refine WL_v rfl (ov_add rfl rfl (by omega)) ?_
  refine WL_call rfl rfl cf_impl_CostLeast (costLeast_ok hH3 hP (m + 1)) ?_; rintro _ w4 ⟨rfl, hH4⟩
  refine WL_v rfl (ov_assign rfl) ?_
  refine WL_nil ?_
  refine WT_seq ?_
  refine WT_region ?_
  refine WL_v rfl (ov_move rfl) ?_
  refine WL_call rfl rfl cf_impl_CostLeast (costLeast_ok hH4 hP 1) ?_; rintro _ w5 ⟨rfl, hH5⟩
  refine WL_v rfl (ov_move rfl) ?_
  refine WL_call rfl rfl cf_impl_CostAll (costAll_ok hH5 hP) ?_; rintro _ w6 ⟨rfl, hH6⟩
  refine WL_v rfl (ov_T (ov_eql rfl rfl) (decide_eq_true hone)) ?_
  refine WL_v rfl (ov_move rfl) ?_
  refine WL_guardOn rfl rfl ?_
  refine WL_v rfl (ov_move rfl) ?_
  refine WL_guardOn rfl rfl ?_
  refine WL_v rfl (ov_F (ov_eql rfl rfl) (decide_eq_false (by omega))) ?_
  refine WL_guardOn rfl rfl ?_
  refine WL_v rfl (ov_move rfl) ?_
  refine WL_guardOn rfl rfl ?_
  refine WL_v rfl (ov_move rfl) ?_
  refine WL_guardOn rfl rfl ?_
  refine WL_v rfl (ov_move rfl) ?_
  refine WL_guardOn rfl rfl ?_
  refine WL_v rfl (ov_T (ov_leq rfl rfl) (decide_eq_true (by omega))) ?_
  refine WL_guardOn rfl rfl ?_
  refine WL_v rfl (ov_pickF rfl rfl) ?_
  refine WL_v rfl (ov_pickT rfl rfl) ?_
  refine WL_v rfl (ov_assign rfl) ?_
  refine WL_nil ?_
  exact WT_ret1 Try.func6 Try.results6 rfl ⟨rfl, hH6.weak hle⟩

theorem fnExactCostLeast_walk (hH : H w h Ls) {pv : Value} {p : List Nd} (hP : Plan h pv p) {m : Int} (_hm : I64 m) : Rets Try.prog 10 #[pv, .int .i64 m] w fun v w' => v = .bool true ∧ H w' h Ls := by
  refine rets_enter Try.func10 rfl Try.ntmps10 (by simp) ?_
  refine WT_seq ?_
  refine WT_region ?_
  refine WL_v rfl (ov_assign rfl) ?_
  refine WL_nil ?_
  refine WT_seq ?_
  refine WT_region ?_
  refine WL_v rfl (ov_assign rfl) ?_
  refine WL_nil ?_
  refine WT_seq ?_
  refine WT_region ?_
  refine WL_v rfl (ov_move rfl) ?_
  refine WL_v rfl (ov_move rfl) ?_
  refine WL_call rfl rfl cf_laws_szNodeS (szNodeS_ok hH hP) ?_; rintro _ w1 ⟨s, rfl, hs, hH1⟩
  refine WL_v rfl (ov_assign rfl) ?_
  refine WL_nil ?_
  refine WT_seq ?_
  refine WT_seq ?_
  refine WT_region ?_
  refine WL_v rfl (ov_move rfl) ?_
  refine WL_v rfl (ov_lss rfl rfl) ?_
  refine WL_nil ?_
  refine WT_cond rfl (fun hneg => ?_) (fun hneg => ?_)
  · skip
    first | with_reducible replace hneg := of_decide_eq_true hneg | with_reducible replace hneg := bn_T hneg | with_reducible replace hneg := bb_T hneg | skip
    refine WT_seq ?_
    refine WT_region ?_
    refine WL_v rfl (ov_assign rfl) ?_
    refine WL_nil ?_
    exact WT_ret1 Try.func10 Try.results10 rfl ⟨rfl, hH1⟩
  first | with_reducible replace hneg := of_decide_eq_false hneg | with_reducible replace hneg := bn_F hneg | with_reducible replace hneg := bb_F hneg | skip
  obtain ⟨-, hl1, hl2⟩ := hs.resolve_left (by omega)
  refine WT_skip ?_
  refine WT_seq ?_
  refine WT_region ?_
  refine WL_v rfl (ov_move rfl) ?_
  refine WL_call rfl rfl cf_laws_toNodeS (toNodeS_ok hH1 hP hl1 hl2) ?_; rintro xv w2 ⟨O, Is, hO, hH2⟩
  refine WL_v rfl (ov_move rfl) ?_
  obtain ⟨h1, hle1, hH3, hP1, _⟩ := hO.freeze hH2
  refine WL_call rfl rfl cf_spec_CostLeast (sCostLeast_ok hH3 hP1 (by omega) m) ?_; rintro _ w4 ⟨rfl, hH4⟩
  refine WL_v rfl (ov_assign rfl) ?_
  refine WL_nil ?_
  refine WT_seq ?_
  refine WT_region ?_
  refine WL_v rfl (ov_move rfl) ?_
  refine WL_call rfl rfl cf_laws_toNodeS (toNodeS_ok hH4 (hP.mono hle1) hl1 hl2) ?_; rintro yv w5 ⟨O2, Is2, hO2, hH5⟩
  refine WL_v rfl (ov_assign rfl) ?_
  refine WL_nil ?_
  refine WT_seq ?_
  refine WT_region ?_
  refine WL_v rfl (ov_move rfl) ?_
  refine WL_v rfl (ov_move rfl) ?_
  obtain ⟨h2, hle2, hH6, hP2, _⟩ := hO2.freeze hH5
  refine WL_call rfl rfl cf_impl_CostLeast (costLeast_ok hH6 hP2 m) ?_; rintro _ w7 ⟨rfl, hH7⟩
  refine WL_v rfl (ov_assign rfl) ?_
  refine WL_nil ?_
  refine WT_seq ?_
  refine WT_seq ?_
  refine WT_region ?_
  refine WL_v rfl (ov_move rfl) ?_
  refine WL_v rfl (ov_move rfl) ?_
  refine WL_v rfl (ov_F (ov_neq rfl rfl) (by first | exact decide_eq_false rfl | exact nb_F rfl | exact mb_F rfl | exact rfl | (simp only [decide_eq_false_iff_not]; omega) | simpa using rfl)) ?_
  refine WL_nil ?_
  refine WT_condF rfl ?_
  refine WT_skip ?_
  refine WT_seq ?_
  refine WT_seq ?_
  refine WT_region ?_
  refine WL_v rfl (ov_move rfl) ?_
  refine WL_v rfl (ov_move rfl) ?_
  refine WL_call rfl rfl cf_laws_toNodeS (toNodeS_ok hH7 (hP.mono (hle1.trans hle2)) hl1 hl2) ?_; rintro zv w8 ⟨O3, Is3, hO3, hH8⟩
  obtain ⟨h3, hle3, hH9, hP3, _⟩ := hO3.freeze hH8
  refine WL_call rfl rfl cf_laws_eqNodeS (eqNodeS_ok hH9 (hP2.mono hle3) hP3) ?_; rintro _ w10 ⟨rfl, hH10⟩
  refine WL_v rfl (ov_F (ov_not rfl) (by first | exact decide_eq_false rfl | exact nb_F rfl | exact mb_F rfl | exact rfl | (simp only [decide_eq_false_iff_not]; omega) | simpa using rfl)) ?_
  refine WL_nil ?_
  refine WT_condF rfl ?_
  refine WT_skip ?_
  refine WT_seq ?_
  refine WT_region ?_
  refine WL_v rfl (ov_assign rfl) ?_
  refine WL_nil ?_
  exact WT_ret1 Try.func10 Try.results10 rfl ⟨rfl, hH10.weak (hle1.trans (hle2.trans hle3))⟩
end
end Go.Proofs.Ytieoacpffdpgeaa
