/- The law FnBufferMost. -/
import Derived.Test.YtieoacpffdpgeaaWkAA
import Derived.Test.YtieoacpffdpgeaaWkI
import Derived.Test.YtieoacpffdpgeaaWkO
import Derived.Test.YtieoacpffdpgeaaSlF
namespace Go.Proofs.Ytieoacpffdpgeaa
open Go.RowKit

section
variable {h : GH} {Ls : List Heaplet} {w : World}

theorem drawBufferMost_ok' (hH : H w h Ls) {cv : Value} {bs : List Int} (hB : Bytes h cv bs) : Rets Try.prog 27 #[cv] w (Drew h Ls) := by
  refine rets_enter Try.func27 rfl Try.ntmps27 (by simp) ?_
  refine WT_seq ?_
  refine WT_region ?_
  refine WL_v rfl (ov_assign rfl) ?_
  refine WL_nil ?_
  refine WT_seq ?_
  refine WT_region ?_
  refine WL_v rfl (ov_move rfl) ?_
  refine WL_call rfl rfl cf_spec_l6Open (l6Open_ok hH hB) ?_; rintro _ w1 ⟨g, bv, bs', rfl, hB', hH1⟩
  refine WL_call rfl rfl cf_spec_l91Plan (l91Plan_ok hH1 hB' (by omega)) ?_; rintro _ w2 ⟨p, O, Is, p', hO, hl, hp', hH2⟩
  refine WL_v rfl (ov_assign rfl) ?_
  refine WL_nil ?_
  exact WT_ret1 Try.func27 Try.results27 rfl (drew_of hO hl hH2)
theorem valid_of'' {p : List Nd} {a : Int} (h : ¬ (if planOk p = true then a else -1) < 0) : planOk p = true := by
  cases hp : planOk p with
  | true => rfl
  | false => rw [hp] at h; exact absurd (by simp) h

theorem fnBufferMost_walk (hH : H w h Ls) {cv : Value} {bs : List Int} (hB : Bytes h cv bs) : Rets Try.prog 7 #[cv] w fun v w' => v = .bool true ∧ H w' h Ls := by
  refine rets_enter Try.func7 rfl Try.ntmps7 (by simp) ?_
  refine WT_seq ?_
  refine WT_region ?_
  refine WL_v rfl (ov_assign rfl) ?_
  refine WL_nil ?_
  refine WT_seq ?_
  refine WT_seq ?_
  refine WT_region ?_
  refine WL_v rfl (ov_move rfl) ?_
  refine WL_v rfl (ov_len rfl hB.sl st_sl_uint8) ?_
  refine WL_v rfl (ov_gtr rfl rfl) ?_
  refine WL_nil ?_
  refine WT_cond rfl (fun hl => ?_) (fun hl => ?_)
  · skip
    first | with_reducible replace hl := of_decide_eq_true hl | with_reducible replace hl := bn_T hl | with_reducible replace hl := bb_T hl | skip
    refine WT_seq ?_
    refine WT_region ?_
    refine WL_v rfl (ov_assign rfl) ?_
    refine WL_nil ?_
    exact WT_ret1 Try.func7 Try.results7 rfl ⟨rfl, hH⟩
  first | with_reducible replace hl := of_decide_eq_false hl | with_reducible replace hl := bn_F hl | with_reducible replace hl := bb_F hl | skip
  refine WT_skip ?_
  refine WT_seq ?_
  refine WT_region ?_
  refine WL_v rfl (ov_move rfl) ?_
  refine WL_call rfl rfl cf_spec_DrawBufferMost (drawBufferMost_ok' hH hB) ?_; rintro pv w1 ⟨h', p, hle, hP, hpl, hH1⟩
  refine WL_v rfl (ov_assign rfl) ?_
  refine WL_nil ?_
  refine WT_seq ?_
  refine WT_region ?_
  refine WL_v rfl (ov_move rfl) ?_
  refine WL_call rfl rfl cf_impl_BufferMost (bufferMost_ok hH1 hP) ?_; rintro _ w2 ⟨rfl, hH2⟩
  refine WL_v rfl (ov_assign rfl) ?_
  refine WL_nil ?_
  refine WT_seq ?_
  refine WT_region ?_
  refine WL_v rfl (ov_move rfl) ?_
  refine WL_call rfl rfl cf_spec_BufferMost (sBufferMost_ok hH2 hP (by omega)) ?_; rintro _ w3 ⟨rfl, hH3⟩
  refine WL_v rfl (ov_assign rfl) ?_
  refine WL_nil ?_
  refine WT_seq ?_
  refine WT_seq ?_
  refine WT_region ?_
  refine WL_v rfl (ov_move rfl) ?_
  refine WL_v rfl (ov_move rfl) ?_
  refine WL_v rfl (ov_F (ov_neq rfl rfl) (by first | exact decide_eq_false rfl | exact nb_F rfl | exact mb_F rfl | exact rfl | (simp only [decide_eq_false_iff_not]; omega) | simpa using rfl)) ?_
  refine WL_v rfl (ov_move rfl) ?_
  refine WL_guardOn rfl rfl ?_
  refine WL_v rfl (ov_move rfl) ?_
  refine WL_guardOn rfl rfl ?_
  refine WL_v rfl (ov_lss rfl rfl) ?_
  refine WL_v rfl (ov_pickF rfl rfl) ?_
  refine WL_nil ?_
  refine WT_cond rfl (fun hneg => ?_) (fun hneg => ?_)
  · skip
    first | with_reducible replace hneg := of_decide_eq_true hneg | with_reducible replace hneg := bn_T hneg | with_reducible replace hneg := bb_T hneg | skip
    refine WT_seq ?_
    refine WT_region ?_
    refine WL_v rfl (ov_move rfl) ?_
    refine WL_v rfl (ov_move rfl) ?_
    refine WL_v rfl (ov_T (ov_eql rfl rfl) (by first | exact decide_eq_true rfl | exact nb_T rfl | exact mb_T rfl | exact rfl | (simp only [decide_eq_true_eq]; omega) | simpa using rfl)) ?_
    refine WL_v rfl (ov_assign rfl) ?_
    refine WL_nil ?_
    exact WT_ret1 Try.func7 Try.results7 rfl ⟨rfl, hH3.weak hle⟩
  first | with_reducible replace hneg := of_decide_eq_false hneg | with_reducible replace hneg := bn_F hneg | with_reducible replace hneg := bb_F hneg | skip
  have hv := valid_of'' hneg
  rw [if_pos hv]
  have hlen := PlanOk.len hv
  have hsr := rowsTo_rg (endsTo p p.length) p.length
  have hcl := countsL_len p
  refine WT_skip ?_
  refine WT_seq ?_
  refine WT_region ?_
  refine WL_v rfl (ov_move rfl) ?_
  refine WL_call rfl rfl cf_impl_CountsOf (countsOf_ok hH3 hP) ?_; rintro cv2 w4 ⟨X, hX, hH4⟩
  refine WL_v rfl (ov_assign rfl) ?_
  refine WL_nil ?_
  refine WT_seq ?_
  refine WT_seq ?_
  refine WT_region ?_
  refine WL_v rfl (ov_assign rfl) ?_
  refine WL_nil ?_
  refine WT_block ?_
  have hco : countsOf p = countsL p := by unfold countsOf; rw [if_pos hv]
  rw [hco] at hX
  refine WT_while (fun s : Nat => [(3, pv), (4, .int .i64 (rowsTo (endsTo p p.length) p.length)), (6, cv2), (7, .int .i64 (s : Int))]) (fun k w => k ≤ p.length ∧ H w h' (X :: Ls)) (fun k => p.length - k) 0 (by repeat (first | exact trivial | refine ⟨rfl, ?_⟩)) ⟨by omega, hH4⟩ ?_
  clear hH hH1 hH2 hH3 hH4
  rintro k w5 ⟨hk, hH⟩ again
  refine WT_seq ?_
  refine WT_seq ?_
  refine WT_region ?_
  refine WL_v rfl (ov_move rfl) ?_
  refine WL_v rfl (ov_move rfl) ?_
  refine WL_v rfl (ov_len rfl hX.sl st_sl_int) ?_
  refine WL_v rfl (ov_lss rfl rfl) ?_
  refine WL_nil ?_
  refine WT_cond rfl (fun hc => ?_) (fun hc => ?_)
  · skip
    first | with_reducible replace hc := of_decide_eq_true hc | with_reducible replace hc := bn_T hc | with_reducible replace hc := bb_T hc | skip
    have hkp : k < p.length := by omega
    have hkc : k < (countsL p).length := by omega
    have hlt := needs_rows hv hkp
    refine WT_skip ?_
    refine WT_seq ?_
    refine WT_block ?_
    refine WT_seq ?_
    refine WT_region ?_
    refine WL_v rfl (ov_move rfl) ?_
    refine WL_v rfl (ov_move rfl) ?_
    refine WL_v rfl (ov_move rfl) ?_
    refine WL_v rfl (ov_index rfl rfl st_sl_int hX.sl hkc) ?_
    refine WL_v rfl (ov_load rfl one_int (hX.cell hH (i := 0) rfl hkc)) ?_
    refine WL_v rfl (ov_F (ov_leq rfl rfl) (decide_eq_false (by rw [countsL_get]; omega))) ?_
    refine WL_nil ?_
    refine WT_condF rfl ?_
    refine WT_skip ?_
    refine WT_inBlock ?_
    refine WT_region ?_
    refine WL_v rfl (ov_move rfl) ?_
    refine WL_v rfl (ov_add rfl rfl (by omega)) ?_
    refine WL_v rfl (ov_assign rfl) ?_
    refine WL_nil ?_
    refine again (k + 1) _ _ (by omega) (by repeat (first | exact trivial | refine ⟨rfl, ?_⟩)) ⟨by omega, hH⟩
  first | with_reducible replace hc := of_decide_eq_false hc | with_reducible replace hc := bn_F hc | with_reducible replace hc := bb_F hc | skip
  refine WT_exit rfl ?_
  refine WT_seq ?_
  refine WT_region ?_
  refine WL_v rfl (ov_move rfl) ?_
  refine WL_v rfl (ov_move rfl) ?_
  refine WL_v rfl (ov_len rfl hP.sl st_sl_impl_Node) ?_
  refine WL_v rfl (ov_T (ov_leq rfl rfl) (decide_eq_true (by omega))) ?_
  refine WL_v rfl (ov_assign rfl) ?_
  refine WL_nil ?_
  exact WT_ret1 Try.func7 Try.results7 rfl ⟨rfl, (hH.weak hle).drop⟩
end
end Go.Proofs.Ytieoacpffdpgeaa
