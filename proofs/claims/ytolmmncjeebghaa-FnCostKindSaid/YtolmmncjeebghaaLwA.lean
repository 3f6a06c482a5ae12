/- Walks: the laws on what a kind costs. -/
import Derived.Test.YtolmmncjeebghaaWkC
import Derived.Test.YtolmmncjeebghaaSlF
namespace Go.Proofs.Ytolmmncjeebghaa
open Go.RowKit

section
variable {h : GH} {Ls : List Heaplet} {w : World}

theorem drawCostKind_ok (hH : H w h Ls) {cv : Value} {bs : List Int} (hB : Bytes h cv bs) : Rets Try.prog 17 #[cv] w fun v w' => ∃ k : Int, v = .int .i64 k ∧ H w' h Ls := by
  refine rets_enter Try.func17 rfl Try.ntmps17 (by simp) ?_
  refine WT_seq ?_
  refine WT_region ?_
  refine WL_v rfl (ov_assign rfl) ?_
  refine WL_nil ?_
  refine WT_seq ?_
  refine WT_region ?_
  refine WL_v rfl (ov_move rfl) ?_
  refine WL_call rfl rfl cf_spec_l6Open (l6Open_ok hH hB) ?_; rintro _ w1 ⟨g, bv, bs', rfl, hB', hH1⟩
  refine WL_call rfl rfl cf_p_spec_l6Rd_pick (pick_ok hH1 hB' (by omega) 8) ?_; rintro _ w2 ⟨r, rfl, hr, hH2⟩
  refine WL_v rfl (ov_sub rfl rfl (by have := hr.1; omega)) ?_
  refine WL_v rfl (ov_assign rfl) ?_
  refine WL_nil ?_
  exact WT_ret1 Try.func17 Try.results17 rfl ⟨_, rfl, hH2.drop⟩

theorem fnExactCostKind_walk (hH : H w h Ls) {k : Int} (_hk : I64 k) : Rets Try.prog 3 #[.int .i64 k] w fun v w' => v = .bool true ∧ H w' h Ls := by
  refine rets_enter Try.func3 rfl Try.ntmps3 (by simp) ?_
  refine WT_seq ?_
  refine WT_region ?_
  refine WL_v rfl (ov_assign rfl) ?_
  refine WL_nil ?_
  refine WT_seq ?_
  refine WT_region ?_
  refine WL_v rfl (ov_move rfl) ?_
  refine WL_call rfl rfl cf_spec_CostKind (sCostKind_ok hH k) ?_; rintro _ w1 ⟨rfl, hH1⟩
  refine WL_v rfl (ov_assign rfl) ?_
  refine WL_nil ?_
  refine WT_seq ?_
  refine WT_region ?_
  refine WL_v rfl (ov_move rfl) ?_
  refine WL_call rfl rfl cf_impl_CostKind (costKind_ok hH1 k) ?_; rintro _ w2 ⟨rfl, hH2⟩
  refine WL_v rfl (ov_assign rfl) ?_
  refine WL_nil ?_
  refine WT_seq ?_
  refine WT_seq ?_
  refine WT_region ?_
  refine WL_v rfl (ov_move rfl) ?_
  refine WL_v rfl (ov_move rfl) ?_
  refine WL_v rfl (ov_F (ov_neq rfl rfl) (by first | exact decide_eq_false rfl | exact nb_F rfl | exact mb_F rfl | exact rfl | (simp only [decide_eq_false_iff_not]; omega) | simpa using rfl)) ?_
  refine WL_nil ?_
  refine WT_condF rfl ?_
  refine WT_skip ?_
  refine WT_seq ?_
  refine WT_region ?_
  refine WL_v rfl (ov_assign rfl) ?_
  refine WL_nil ?_
  exact WT_ret1 Try.func3 Try.results3 rfl ⟨rfl, hH2⟩

theorem fnCostKind_walk (hH : H w h Ls) {cv : Value} {bs : List Int} (hB : Bytes h cv bs) : Rets Try.prog 4 #[cv] w fun v w' => v = .bool true ∧ H w' h Ls := by
  refine rets_enter Try.func4 rfl Try.ntmps4 (by simp) ?_
  refine WT_seq ?_
  refine WT_region ?_
  refine WL_v rfl (ov_assign rfl) ?_
  refine WL_nil ?_
  refine WT_seq ?_
  refine WT_seq ?_
  refine WT_region ?_
  refine WL_v rfl (ov_move rfl) ?_
  refine WL_v rfl (ov_len rfl hB.sl st_sl_uint8) ?_
  refine WL_v rfl (ov_gtr rfl rfl) ?_
  refine WL_nil ?_
  refine WT_cond rfl (fun hl => ?_) (fun hl => ?_)
  · skip
    first | with_reducible replace hl := of_decide_eq_true hl | with_reducible replace hl := bn_T hl | with_reducible replace hl := bb_T hl | skip
    refine WT_seq ?_
    refine WT_region ?_
    refine WL_v rfl (ov_assign rfl) ?_
    refine WL_nil ?_
    exact WT_ret1 Try.func4 Try.results4 rfl ⟨rfl, hH⟩
  first | with_reducible replace hl := of_decide_eq_false hl | with_reducible replace hl := bn_F hl | with_reducible replace hl := bb_F hl | skip
  refine WT_skip ?_
  refine WT_seq ?_
  refine WT_region ?_
  refine WL_v rfl (ov_move rfl) ?_
  refine WL_call rfl rfl cf_spec_DrawCostKind (drawCostKind_ok hH hB) ?_; rintro _ w1 ⟨k, rfl, hH1⟩
  refine WL_v rfl (ov_assign rfl) ?_
  refine WL_nil ?_
  refine WT_seq ?_
  refine WT_region ?_
  refine WL_v rfl (ov_move rfl) ?_
  refine WL_call rfl rfl cf_impl_CostKind (costKind_ok hH1 k) ?_; rintro _ w2 ⟨rfl, hH2⟩
  refine WL_v rfl (ov_assign rfl) ?_
  refine WL_nil ?_
  refine WT_seq ?_
  refine WT_region ?_
  refine WL_v rfl (ov_move rfl) ?_
  refine WL_call rfl rfl cf_spec_CostKind (sCostKind_ok hH2 k) ?_; rintro _ w3 ⟨rfl, hH3⟩
  refine WL_v rfl (ov_assign rfl) ?_
  refine WL_nil ?_
  refine WT_seq ?_
  refine WT_seq ?_
  refine WT_region ?_
  refine WL_v rfl (ov_move rfl) ?_
  refine WL_v rfl (ov_move rfl) ?_
  refine WL_v rfl (ov_F (ov_neq rfl rfl) (by first | exact decide_eq_false rfl | exact nb_F rfl | exact mb_F rfl | exact rfl | (simp only [decide_eq_false_iff_not]; omega) | simpa using rfl)) ?_
  refine WL_nil ?_
  refine WT_condF rfl ?_
  refine WT_skip ?_
  refine WT_seq ?_
  refine WT_seq ?_
  refine WT_region ?_
  refine WL_v rfl (ov_move rfl) ?_
  refine WL_call rfl rfl cf_impl_KindValid (kindValid_ok hH3 k) ?_; rintro _ w4 ⟨rfl, hH4⟩
  refine WL_v rfl (ov_not rfl) ?_
  refine WL_nil ?_
  refine WT_cond rfl (fun hk => ?_) (fun hk => ?_)
  · skip
    first | with_reducible replace hk := of_decide_eq_true hk | with_reducible replace hk := bn_T hk | with_reducible replace hk := bb_T hk | skip
    have hc : costKind k = -1 := by simp [costKind, hk]
    refine WT_seq ?_
    refine WT_region ?_
    refine WL_v rfl (ov_move rfl) ?_
    refine WL_v rfl (ov_T (ov_eql rfl rfl) (by first | exact decide_eq_true hc | exact nb_T hc | exact mb_T hc | exact hc | (simp only [decide_eq_true_eq]; omega) | simpa using hc)) ?_
    refine WL_v rfl (ov_assign rfl) ?_
    refine WL_nil ?_
    exact WT_ret1 Try.func4 Try.results4 rfl ⟨rfl, hH4⟩
  first | with_reducible replace hk := of_decide_eq_false hk | with_reducible replace hk := bn_F hk | with_reducible replace hk := bb_F hk | skip
  have h1 : 1 ≤ costKind k := by rw [costKind, if_pos hk]; unfold kindCost; split <;> (try split) <;> omega
  have h4 : costKind k ≤ 4 := by rw [costKind, if_pos hk]; unfold kindCost; split <;> (try split) <;> omega
  refine WT_skip ?_
  refine WT_seq ?_
  refine WT_region ?_
  refine WL_v rfl (ov_move rfl) ?_
  refine WL_v rfl (ov_T (ov_geq rfl rfl) (by first | exact decide_eq_true h1 | exact nb_T h1 | exact mb_T h1 | exact h1 | (simp only [decide_eq_true_eq]; omega) | simpa using h1)) ?_
  refine WL_v rfl (ov_move rfl) ?_
  refine WL_guardOn rfl rfl ?_
  refine WL_v rfl (ov_move rfl) ?_
  refine WL_guardOn rfl rfl ?_
  refine WL_v rfl (ov_T (ov_leq rfl rfl) (by first | exact decide_eq_true h4 | exact nb_T h4 | exact mb_T h4 | exact h4 | (simp only [decide_eq_true_eq]; omega) | simpa using h4)) ?_
  refine WL_v rfl (ov_pickT rfl rfl) ?_
  refine WL_v rfl (ov_assign rfl) ?_
  refine WL_nil ?_
  exact WT_ret1 Try.func4 Try.results4 rfl ⟨rfl, hH4⟩
end
end Go.Proofs.Ytolmmncjeebghaa
