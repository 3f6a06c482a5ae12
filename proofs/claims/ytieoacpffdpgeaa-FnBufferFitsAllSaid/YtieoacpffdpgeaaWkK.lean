/- Walks: whether places fit: the reference. -/
import Derived.Test.YtieoacpffdpgeaaWkI
namespace Go.Proofs.Ytieoacpffdpgeaa
open Go.RowKit

section
variable {h : GH} {Ls : List Heaplet} {w : World}

theorem sBufferFits_ok (hH : H w h Ls) {pv lv : Value} {p : List Nd} {pl : List Int} (hP : Plan h pv p) (hL : Ints h lv pl) (hl : p.length ≤ 1000000000) : Rets Try.prog 33 #[pv, lv] w fun v w' => v = .bool (fitsPl p pl) ∧ H w' h Ls := by
  have hal := hL.sl.lim
  refine rets_enter Try.func33 rfl Try.ntmps33 (by simp) ?_
  by_cases hv : planOk p = true
  case neg =>
    have hv' : planOk p = false := by simpa using hv
    refine WT_seq ?_
    refine WT_region ?_
    refine WL_v rfl (ov_assign rfl) ?_
    refine WL_nil ?_
    refine WT_seq ?_
    refine WT_seq ?_
    refine WT_region ?_
    refine WL_v rfl (ov_move rfl) ?_
    refine WL_call rfl rfl cf_spec_PlanValid (sPlanValid_ok hH hP hl) ?_; rintro _ w1 ⟨rfl, hH1⟩
    refine WL_v rfl (ov_T (ov_not rfl) (by first | exact decide_eq_true hv' | exact nb_T hv' | exact mb_T hv' | exact hv' | (simp only [decide_eq_true_eq]; omega) | simpa using hv')) ?_
    refine WL_v rfl (ov_move rfl) ?_
    refine WL_guardOff rfl rfl rfl rfl ?_
    refine WL_guardOff rfl rfl rfl rfl ?_
    refine WL_guardOff rfl rfl rfl rfl ?_
    refine WL_guardOff rfl rfl rfl rfl ?_
    refine WL_guardOff rfl rfl rfl rfl ?_
    refine WL_v rfl (ov_pickT rfl rfl) ?_
    refine WL_nil ?_
    refine WT_condT rfl ?_
    refine WT_seq ?_
    refine WT_region ?_
    refine WL_v rfl (ov_assign rfl) ?_
    refine WL_nil ?_
    exact WT_ret1 Try.func33 Try.results33 rfl ⟨congrArg Value.bool (by rw [fitsPl, hv', Bool.false_and]), hH1⟩
  have hlen := PlanOk.len hv
  have hel := endsTo_len p p.length
  refine WT_seq ?_
  refine WT_region ?_
  refine WL_v rfl (ov_assign rfl) ?_
  refine WL_nil ?_
  refine WT_seq ?_
  refine WT_seq ?_
  refine WT_region ?_
  refine WL_v rfl (ov_move rfl) ?_
  refine WL_call rfl rfl cf_spec_PlanValid (sPlanValid_ok hH hP hl) ?_; rintro _ w1 ⟨rfl, hH1⟩
  refine WL_v rfl (ov_F (ov_not rfl) (by first | exact decide_eq_false hv | exact nb_F hv | exact mb_F hv | exact hv | (simp only [decide_eq_false_iff_not]; omega) | simpa using hv)) ?_
  refine WL_v rfl (ov_move rfl) ?_
  refine WL_guardOn rfl rfl ?_
  refine WL_v rfl (ov_move rfl) ?_
  refine WL_guardOn rfl rfl ?_
  refine WL_v rfl (ov_len rfl hL.sl st_sl_int) ?_
  refine WL_guardOn rfl rfl ?_
  refine WL_v rfl (ov_move rfl) ?_
  refine WL_guardOn rfl rfl ?_
  refine WL_v rfl (ov_len rfl hP.sl st_sl_impl_Node) ?_
  refine WL_guardOn rfl rfl ?_
  refine WL_v rfl (ov_neq rfl rfl) ?_
  refine WL_v rfl (ov_pickF rfl rfl) ?_
  refine WL_nil ?_
  refine WT_cond rfl (fun hne => ?_) (fun hne => ?_)
  · skip
    first | with_reducible replace hne := of_decide_eq_true hne | with_reducible replace hne := bn_T hne | with_reducible replace hne := bb_T hne | skip
    refine WT_seq ?_
    refine WT_region ?_
    refine WL_v rfl (ov_assign rfl) ?_
    refine WL_nil ?_
    exact WT_ret1 Try.func33 Try.results33 rfl ⟨congrArg Value.bool (by rw [fitsPl, decide_eq_false (fun h2 => hne (by rw [h2.1])), Bool.and_false]), hH1⟩
  first | with_reducible replace hne := of_decide_eq_false hne | with_reducible replace hne := bn_F hne | with_reducible replace hne := bb_F hne | skip
  have hne' : pl.length = p.length := by omega
  refine WT_skip ?_
  refine WT_seq ?_
  refine WT_region ?_
  refine WL_v rfl (ov_move rfl) ?_
  refine WL_call rfl rfl cf_spec_l32Ends (l32Ends_ok hH1 hP hv) ?_; rintro ev w2 ⟨X, hX, hH2⟩
  refine WL_v rfl (ov_assign rfl) ?_
  refine WL_nil ?_
  refine WT_seq ?_
  refine WT_seq ?_
  refine WT_region ?_
  refine WL_v rfl (ov_assign rfl) ?_
  refine WL_nil ?_
  refine WT_block ?_
  clear hH hH1
  refine WT_while (fun s : Nat => [(0, pv), (1, lv), (5, ev), (6, .int .i64 (s : Int))]) (fun k w => k ≤ pl.length ∧ (∀ i, i < k → placeOk (endsTo p p.length) pl i) ∧ H w h (X :: Ls)) (fun k => pl.length - k) 0 (by repeat (first | exact trivial | refine ⟨rfl, ?_⟩)) ⟨by omega, by omega, hH2⟩ ?_
  clear hH2
  rintro k w3 ⟨hk, hall, hH⟩ again
  refine WT_seq ?_
  refine WT_seq ?_
  refine WT_region ?_
  refine WL_v rfl (ov_move rfl) ?_
  refine WL_v rfl (ov_move rfl) ?_
  refine WL_v rfl (ov_len rfl hP.sl st_sl_impl_Node) ?_
  refine WL_v rfl (ov_lss rfl rfl) ?_
  refine WL_nil ?_
  refine WT_cond rfl (fun hc => ?_) (fun hc => ?_)
  · skip
    first | with_reducible replace hc := of_decide_eq_true hc | with_reducible replace hc := bn_T hc | with_reducible replace hc := bb_T hc | skip
    have hkp : k < pl.length := by omega
    refine WT_skip ?_
    refine WT_seq ?_
    refine WT_block ?_
    refine WT_seq ?_
    refine WT_seq ?_
    refine WT_region ?_
    refine WL_v rfl (ov_assign rfl) ?_
    refine WL_nil ?_
    refine WT_block ?_
    refine WT_while (fun s : Nat => [(0, pv), (1, lv), (5, ev), (6, .int .i64 (k : Int)), (7, .int .i64 (s : Int))])
      (fun j w => j ≤ k ∧ (∀ i, i < j → ¬ clash (endsTo p p.length) pl k i) ∧ H w h (X :: Ls)) (fun j => k - j) 0 (by repeat (first | exact trivial | refine ⟨rfl, ?_⟩)) ⟨by omega, by omega, hH⟩ ?_
    clear hH
    rintro j w7 ⟨hj, hcl, hH⟩ again2
    refine WT_seq ?_
    refine WT_seq ?_
    refine WT_region ?_
    refine WL_v rfl (ov_move rfl) ?_
    refine WL_v rfl (ov_move rfl) ?_
    refine WL_v rfl (ov_lss rfl rfl) ?_
    refine WL_nil ?_
    refine WT_cond rfl (fun hc2 => ?_) (fun hc2 => ?_)
    · skip
      first | with_reducible replace hc2 := of_decide_eq_true hc2 | with_reducible replace hc2 := bn_T hc2 | with_reducible replace hc2 := bb_T hc2 | skip
      have hjk : j < k := by omega
      have hje : j < (endsTo p p.length).length := by omega
      have hjl : j < pl.length := by omega
      have hok : ¬ ((k : Int) ≤ (endsTo p p.length)[j] ∧ pl[j] = pl[k]) → ∀ i, i < j + 1 → ¬ clash (endsTo p p.length) pl k i := fun hn i hi h2 => by
        rcases Nat.lt_or_ge i j with h3 | h3
        · exact hcl i h3 h2
        · obtain rfl : i = j := by omega
          unfold clash at h2
          rw [getD_elem hje, getD_elem hjl, getD_elem hkp] at h2
          exact hn h2
      by_cases hge : (k : Int) ≤ (endsTo p p.length)[j]
      case neg =>
        refine WT_skip ?_
        refine WT_seq ?_
        refine WT_block ?_
        refine WT_seq ?_
        refine WT_quiet mixed (by kernel_rfl) hH ?_
        clear hH
        refine WQ_v rfl (fun _ _ => ov_move rfl) ?_
        refine WQ_v rfl (fun _ _ => ov_move rfl) ?_
        refine WQ_v rfl (fun _ _ => ov_index rfl rfl st_sl_int hX.sl hje) ?_
        refine WQ_v rfl (fun _ hH => ov_load rfl one_int (hX.cell hH (i := 0) rfl hje)) ?_
        refine WQ_v rfl (fun _ _ => ov_move rfl) ?_
        refine WQ_v rfl (fun _ _ => ov_F (ov_geq rfl rfl) (by first | exact decide_eq_false hge | exact nb_F hge | exact mb_F hge | exact hge | (simp only [decide_eq_false_iff_not]; omega) | simpa using hge)) ?_
        refine WQ_v rfl (fun _ _ => ov_move rfl) ?_
        refine WQ_guardOff rfl rfl rfl rfl ?_
        refine WQ_guardOff rfl rfl rfl rfl ?_
        refine WQ_guardOff rfl rfl rfl rfl ?_
        refine WQ_guardOff rfl rfl rfl rfl ?_
        refine WQ_guardOff rfl rfl rfl rfl ?_
        refine WQ_guardOff rfl rfl rfl rfl ?_
        refine WQ_guardOff rfl rfl rfl rfl ?_
        refine WQ_guardOff rfl rfl rfl rfl ?_
        refine WQ_guardOff rfl rfl rfl rfl ?_
        refine WQ_v rfl (fun _ _ => ov_pickF rfl rfl) ?_
        refine WQ_nil ?_
        intro w8 hH
        refine WT_condF rfl ?_
        refine WT_skip ?_
        refine WT_inBlock ?_
        refine WT_region ?_
        refine WL_v rfl (ov_move rfl) ?_
        refine WL_v rfl (ov_add rfl rfl (by omega)) ?_
        refine WL_v rfl (ov_assign rfl) ?_
        refine WL_nil ?_
        refine again2 (j + 1) _ _ (by omega) (by repeat (first | exact trivial | refine ⟨rfl, ?_⟩)) ⟨by omega, hok (fun h2 => hge h2.1), hH⟩
      refine WT_skip ?_
      refine WT_seq ?_
      refine WT_block ?_
      refine WT_seq ?_
      refine WT_quiet mixed (by kernel_rfl) hH ?_
      clear hH
      refine WQ_v rfl (fun _ _ => ov_move rfl) ?_
      refine WQ_v rfl (fun _ _ => ov_move rfl) ?_
      refine WQ_v rfl (fun _ _ => ov_index rfl rfl st_sl_int hX.sl hje) ?_
      refine WQ_v rfl (fun _ hH => ov_load rfl one_int (hX.cell hH (i := 0) rfl hje)) ?_
      refine WQ_v rfl (fun _ _ => ov_move rfl) ?_
      refine WQ_v rfl (fun _ _ => ov_T (ov_geq rfl rfl) (by first | exact decide_eq_true hge | exact nb_T hge | exact mb_T hge | exact hge | (simp only [decide_eq_true_eq]; omega) | simpa using hge)) ?_
      refine WQ_v rfl (fun _ _ => ov_move rfl) ?_
      refine WQ_guardOn rfl rfl ?_
      refine WQ_v rfl (fun _ _ => ov_move rfl) ?_
      refine WQ_guardOn rfl rfl ?_
      refine WQ_v rfl (fun _ _ => ov_move rfl) ?_
      refine WQ_guardOn rfl rfl ?_
      refine WQ_v rfl (fun _ _ => ov_index rfl rfl st_sl_int hL.sl hjl) ?_
      refine WQ_guardOn rfl rfl ?_
      refine WQ_v rfl (fun _ hH => ov_load rfl one_int (hL.cell hH hjl)) ?_
      refine WQ_guardOn rfl rfl ?_
      refine WQ_v rfl (fun _ _ => ov_move rfl) ?_
      refine WQ_guardOn rfl rfl ?_
      refine WQ_v rfl (fun _ _ => ov_move rfl) ?_
      refine WQ_guardOn rfl rfl ?_
      refine WQ_v rfl (fun _ _ => ov_index rfl rfl st_sl_int hL.sl hkp) ?_
      refine WQ_guardOn rfl rfl ?_
      refine WQ_v rfl (fun _ hH => ov_load rfl one_int (hL.cell hH hkp)) ?_
      refine WQ_guardOn rfl rfl ?_
      refine WQ_v rfl (fun _ _ => ov_eql rfl rfl) ?_
      refine WQ_v rfl (fun _ _ => ov_pickT rfl rfl) ?_
      refine WQ_nil ?_
      intro w8 hH
      refine WT_cond rfl (fun heq => ?_) (fun heq => ?_)
      · skip
        first | with_reducible replace heq := of_decide_eq_true heq | with_reducible replace heq := bn_T heq | with_reducible replace heq := bb_T heq | skip
        refine WT_seq ?_
        refine WT_region ?_
        refine WL_v rfl (ov_assign rfl) ?_
        refine WL_nil ?_
        exact WT_ret1 Try.func33 Try.results33 rfl ⟨congrArg Value.bool (fitsPl_bad (i := k) (by omega) (fun h2 => h2.2 j hjk (by unfold clash; rw [getD_elem hje, getD_elem hjl, getD_elem hkp]; exact ⟨hge, heq⟩))).symm, hH.drop⟩
      first | with_reducible replace heq := of_decide_eq_false heq | with_reducible replace heq := bn_F heq | with_reducible replace heq := bb_F heq | skip
      refine WT_skip ?_
      refine WT_inBlock ?_
      refine WT_region ?_
      refine WL_v rfl (ov_move rfl) ?_
      refine WL_v rfl (ov_add rfl rfl (by omega)) ?_
      refine WL_v rfl (ov_assign rfl) ?_
      refine WL_nil ?_
      refine again2 (j + 1) _ _ (by omega) (by repeat (first | exact trivial | refine ⟨rfl, ?_⟩)) ⟨by omega, hok (fun h2 => heq h2.2), hH⟩
    first | with_reducible replace hc2 := of_decide_eq_false hc2 | with_reducible replace hc2 := bn_F hc2 | with_reducible replace hc2 := bb_F hc2 | skip
    obtain rfl : j = k := by omega
    refine WT_exit rfl ?_
    refine WT_seq ?_
    refine WT_region ?_
    refine WL_v rfl (ov_move rfl) ?_
    refine WL_v rfl (ov_move rfl) ?_
    refine WL_v rfl (ov_index rfl rfl st_sl_int hL.sl hkp) ?_
    refine WL_v rfl (ov_load rfl one_int (hL.cell hH hkp)) ?_
    refine WL_v rfl (ov_lss rfl rfl) ?_
    refine WL_nil ?_
    refine WT_cond rfl (fun hneg => ?_) (fun hneg => ?_)
    · skip
      first | with_reducible replace hneg := of_decide_eq_true hneg | with_reducible replace hneg := bn_T hneg | with_reducible replace hneg := bb_T hneg | skip
      refine WT_seq ?_
      refine WT_region ?_
      refine WL_v rfl (ov_assign rfl) ?_
      refine WL_nil ?_
      exact WT_ret1 Try.func33 Try.results33 rfl ⟨congrArg Value.bool (fitsPl_bad (i := j) (by omega) (fun h2 => by have := h2.1; rw [getD_elem hkp] at this; omega)).symm, hH.drop⟩
    first | with_reducible replace hneg := of_decide_eq_false hneg | with_reducible replace hneg := bn_F hneg | with_reducible replace hneg := bb_F hneg | skip
    refine WT_skip ?_
    refine WT_inBlock ?_
    refine WT_region ?_
    refine WL_v rfl (ov_move rfl) ?_
    refine WL_v rfl (ov_add rfl rfl (by omega)) ?_
    refine WL_v rfl (ov_assign rfl) ?_
    refine WL_nil ?_
    refine again (j + 1) _ _ (by omega) (by repeat (first | exact trivial | refine ⟨rfl, ?_⟩)) ⟨by omega, fun i hi => ?_, hH⟩
    rcases Nat.lt_or_ge i j with h3 | h3
    · exact hall i h3
    · obtain rfl : i = j := by omega
      exact ⟨by rw [getD_elem hkp]; omega, hcl⟩
  first | with_reducible replace hc := of_decide_eq_false hc | with_reducible replace hc := bn_F hc | with_reducible replace hc := bb_F hc | skip
  obtain rfl : k = pl.length := by omega
  refine WT_exit rfl ?_
  refine WT_seq ?_
  refine WT_region ?_
  refine WL_v rfl (ov_assign rfl) ?_
  refine WL_nil ?_
  exact WT_ret1 Try.func33 Try.results33 rfl ⟨congrArg Value.bool (by rw [fitsPl, hv, decide_eq_true ⟨hne', fun i hi => hall i (by omega)⟩]; rfl), hH.drop⟩
end
end Go.Proofs.Ytieoacpffdpgeaa
