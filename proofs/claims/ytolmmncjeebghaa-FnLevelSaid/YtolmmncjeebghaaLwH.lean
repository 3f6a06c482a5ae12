/- The laws on a node's level. -/
import Derived.Test.YtolmmncjeebghaaWkU
import Derived.Test.YtolmmncjeebghaaWkV
import Derived.Test.YtolmmncjeebghaaSlF
namespace Go.Proofs.Ytolmmncjeebghaa
open Go.RowKit

section
variable {h : GH} {Ls : List Heaplet} {w : World}

theorem drawLevelOf_ok (hH : H w h Ls) {cv : Value} {bs : List Int} (hB : Bytes h cv bs) : Rets Try.prog 35 #[cv] w (DrewAt h Ls) := by
  refine rets_enter Try.func35 rfl Try.ntmps35 (by simp) ?_
  refine WT_seq ?_
  refine WT_region ?_
  refine WL_v rfl (ov_assign rfl) ?_
  refine WL_v rfl (ov_assign rfl) ?_
  refine WL_nil ?_
  refine WT_seq ?_
  refine WT_region ?_
  refine WL_v rfl (ov_move rfl) ?_
  refine WL_call rfl rfl cf_spec_l6Open (l6Open_ok hH hB) ?_; rintro _ w1 ⟨g, bv, bs', rfl, hB', hH1⟩
  refine WL_call rfl rfl cf_spec_l91At (l91At_ok hH1 hB' (by omega)) ?_; rintro _ w2 ⟨pv, p, O, Is, p', a, rfl, ha1, ha2, hO, hl, hp', hH2⟩
  refine WL_v rfl (ov_extract rfl rfl) ?_
  refine WL_v rfl (ov_extract rfl rfl) ?_
  refine WL_v rfl (ov_assign rfl) ?_
  refine WL_v rfl (ov_assign rfl) ?_
  refine WL_nil ?_
  exact WT_ret2 Try.func35 Try.results35 rfl rfl ⟨pv, a, rfl, ha1, ha2, drew_of hO hl hH2⟩

/-- The greatest of some, or -1. -/
def topM (ps l : List Int) : Int := l.foldl (fun n f => max n (ps.getD f.toNat 0)) (-1)
theorem topM_snoc (ps l : List Int) (f : Int) : topM ps (l ++ [f]) = max (topM ps l) (ps.getD f.toNat 0) := by simp [topM]
theorem upOf_topM (ps l : List Int) : upOf 1 ps l = topM ps l + 1 := by
  unfold upOf topM
  have key : ∀ (l : List Int) (a : Int), l.foldl (fun n f => max n (ps.getD f.toNat 0 + 1)) (a + 1) = l.foldl (fun n f => max n (ps.getD f.toNat 0)) a + 1 := by
    intro l
    induction l with
    | nil => intro a; rfl
    | cons f l ih =>
      intro a
      simp only [List.foldl_cons]
      rw [show max (a + 1) (ps.getD f.toNat 0 + 1) = max a (ps.getD f.toNat 0) + 1 by omega]
      exact ih _
  exact key l (-1)

theorem level_valid {p : List Nd} {a : Int} (h : ¬ levelOf p a < 0) : planOk p = true ∧ 0 ≤ a ∧ a < (p.length : Int) := by
  unfold levelOf at h
  by_cases hc : planOk p = true ∧ 0 ≤ a ∧ a < (p.length : Int)
  · exact hc
  · rw [if_neg hc] at h; exact absurd (by decide) h
theorem levelOf_rg (p : List Nd) (a : Int) : -1 ≤ levelOf p a ∧ levelOf p a ≤ p.length := by
  unfold levelOf
  split
  · rcases getD_mem_or (levelsTo p p.length) a.toNat with h | h
    · omega
    · have := levelsTo_rg p p.length _ h; omega
  · omega

theorem fnLevel_walk (hH : H w h Ls) {cv : Value} {bs : List Int} (hB : Bytes h cv bs) : Rets Try.prog 10 #[cv] w fun v w' => v = .bool true ∧ H w' h Ls := by
  refine rets_enter Try.func10 rfl Try.ntmps10 (by simp) ?_
  refine WT_seq ?_
  refine WT_region ?_
  refine WL_v rfl (ov_assign rfl) ?_
  refine WL_nil ?_
  refine WT_seq ?_
  refine WT_seq ?_
  refine WT_region ?_
  refine WL_v rfl (ov_move rfl) ?_
  refine WL_v rfl (ov_len rfl hB.sl st_sl_uint8) ?_
  refine WL_v rfl (ov_gtr rfl rfl) ?_
  refine WL_nil ?_
  refine WT_cond rfl (fun hl => ?_) (fun hl => ?_)
  · skip
    first | with_reducible replace hl := of_decide_eq_true hl | with_reducible replace hl := bn_T hl | with_reducible replace hl := bb_T hl | skip
    refine WT_seq ?_
    refine WT_region ?_
    refine WL_v rfl (ov_assign rfl) ?_
    refine WL_nil ?_
    exact WT_ret1 Try.func10 Try.results10 rfl ⟨rfl, hH⟩
  first | with_reducible replace hl := of_decide_eq_false hl | with_reducible replace hl := bn_F hl | with_reducible replace hl := bb_F hl | skip
  refine WT_skip ?_
  refine WT_seq ?_
  refine WT_region ?_
  refine WL_v rfl (ov_move rfl) ?_
  refine WL_call rfl rfl cf_spec_DrawLevelOf (drawLevelOf_ok hH hB) ?_; rintro _ w1 ⟨pv, a, rfl, ha1, ha2, h', p, hle, hP, hpl, hH1⟩
  refine WL_v rfl (ov_move rfl) ?_
  refine WL_v rfl (ov_extract rfl rfl) ?_
  refine WL_v rfl (ov_extract rfl rfl) ?_
  refine WL_v rfl (ov_assign rfl) ?_
  refine WL_v rfl (ov_assign rfl) ?_
  refine WL_nil ?_
  refine WT_seq ?_
  refine WT_region ?_
  refine WL_v rfl (ov_move rfl) ?_
  refine WL_v rfl (ov_move rfl) ?_
  refine WL_call rfl rfl cf_impl_LevelOf (levelOf_ok hH1 hP a) ?_; rintro _ w2 ⟨rfl, hH2⟩
  refine WL_v rfl (ov_assign rfl) ?_
  refine WL_nil ?_
  refine WT_seq ?_
  refine WT_region ?_
  refine WL_v rfl (ov_move rfl) ?_
  refine WL_v rfl (ov_move rfl) ?_
  refine WL_call rfl rfl cf_spec_LevelOf (sLevelOf_ok hH2 hP (by omega) a) ?_; rintro _ w3 ⟨rfl, hH3⟩
  refine WL_v rfl (ov_assign rfl) ?_
  refine WL_nil ?_
  refine WT_seq ?_
  refine WT_seq ?_
  refine WT_region ?_
  refine WL_v rfl (ov_move rfl) ?_
  refine WL_v rfl (ov_move rfl) ?_
  refine WL_v rfl (ov_F (ov_neq rfl rfl) (by first | exact decide_eq_false rfl | exact nb_F rfl | exact mb_F rfl | exact rfl | (simp only [decide_eq_false_iff_not]; omega) | simpa using rfl)) ?_
  refine WL_v rfl (ov_move rfl) ?_
  refine WL_guardOn rfl rfl ?_
  refine WL_v rfl (ov_move rfl) ?_
  refine WL_guardOn rfl rfl ?_
  refine WL_v rfl (ov_lss rfl rfl) ?_
  refine WL_v rfl (ov_pickF rfl rfl) ?_
  refine WL_nil ?_
  refine WT_cond rfl (fun hneg => ?_) (fun hneg => ?_)
  · skip
    first | with_reducible replace hneg := of_decide_eq_true hneg | with_reducible replace hneg := bn_T hneg | with_reducible replace hneg := bb_T hneg | skip
    refine WT_seq ?_
    refine WT_region ?_
    refine WL_v rfl (ov_move rfl) ?_
    refine WL_v rfl (ov_move rfl) ?_
    refine WL_v rfl (ov_T (ov_eql rfl rfl) (by first | exact decide_eq_true rfl | exact nb_T rfl | exact mb_T rfl | exact rfl | (simp only [decide_eq_true_eq]; omega) | simpa using rfl)) ?_
    refine WL_v rfl (ov_assign rfl) ?_
    refine WL_nil ?_
    exact WT_ret1 Try.func10 Try.results10 rfl ⟨rfl, hH3.weak hle⟩
  first | with_reducible replace hneg := of_decide_eq_false hneg | with_reducible replace hneg := bn_F hneg | with_reducible replace hneg := bb_F hneg | skip
  obtain ⟨hv, hn⟩ := level_valid hneg
  obtain ⟨i, hi⟩ := Int.eq_ofNat_of_zero_le hn.1
  subst hi
  have hip : i < p.length := by omega
  have hN := PlanOk.node hv hip
  obtain ⟨fv, rv, hf, hr, hcell⟩ := hP.node hip
  have hfl := NodeOk.len2 hN
  have hlo : levelOf p (i : Int) = topM (levelsTo p i) p[i].frm + 1 := by
    unfold levelOf
    rw [if_pos ⟨hv, hn⟩, ← upOf_topM]
    have := levelsTo_getD (p := p) hip
    rw [getD_of hip] at this
    exact this
  refine WT_skip ?_
  refine WT_seq ?_
  refine WT_region ?_
  refine WL_v rfl (ov_assign rfl) ?_
  refine WL_nil ?_
  refine WT_seq ?_
  refine WT_seq ?_
  refine WT_region ?_
  refine WL_v rfl (ov_assign rfl) ?_
  refine WL_nil ?_
  refine WT_block ?_
  refine WT_while (fun s : Nat => [(3, pv), (4, .int .i64 (i : Int)), (5, .int .i64 (levelOf p (i : Int))), (7, .int .i64 (topM (levelsTo p i) (p[i].frm.take s))), (8, .int .i64 (s : Int))]) (fun k w => k ≤ p[i].frm.length ∧ H w h' Ls) (fun k => p[i].frm.length - k) 0 (by repeat (first | exact trivial | refine ⟨rfl, ?_⟩)) ⟨by omega, hH3⟩ ?_
  clear hH hH1 hH2 hH3
  rintro k w5 ⟨hk, hH⟩ again
  refine WT_seq ?_
  refine WT_seq ?_
  refine WT_region ?_
  refine WL_v rfl (ov_move rfl) ?_
  refine WL_v rfl (ov_move rfl) ?_
  refine WL_v rfl (ov_move rfl) ?_
  refine WL_v rfl (ov_index rfl rfl st_sl_impl_Node hP.sl hip) ?_
  refine WL_v rfl (ov_field rfl fo_impl_Node_1) ?_
  refine WL_v rfl (ov_load rfl one_sl_int (hcell _ _ hH 1 _ rfl)) ?_
  refine WL_v rfl (ov_len rfl hf.sl st_sl_int) ?_
  refine WL_v rfl (ov_lss rfl rfl) ?_
  refine WL_nil ?_
  refine WT_cond rfl (fun hc => ?_) (fun hc => ?_)
  · skip
    first | with_reducible replace hc := of_decide_eq_true hc | with_reducible replace hc := bn_T hc | with_reducible replace hc := bb_T hc | skip
    have hkl : k < p[i].frm.length := by omega
    have hfb := hN.frm p[i].frm[k] (List.getElem_mem hkl)
    have hlf : levelOf p p[i].frm[k] = (levelsTo p i).getD p[i].frm[k].toNat 0 := by
      unfold levelOf
      rw [if_pos ⟨hv, by omega, by omega⟩]
      exact progTo_same (by omega) (by omega)
    refine WT_skip ?_
    refine WT_seq ?_
    refine WT_block ?_
    refine WT_region ?_
    refine WL_v rfl (ov_move rfl) ?_
    refine WL_v rfl (ov_move rfl) ?_
    refine WL_v rfl (ov_move rfl) ?_
    refine WL_v rfl (ov_move rfl) ?_
    refine WL_v rfl (ov_index rfl rfl st_sl_impl_Node hP.sl hip) ?_
    refine WL_v rfl (ov_field rfl fo_impl_Node_1) ?_
    refine WL_v rfl (ov_load rfl one_sl_int (hcell _ _ hH 1 _ rfl)) ?_
    refine WL_v rfl (ov_move rfl) ?_
    refine WL_v rfl (ov_index rfl rfl st_sl_int hf.sl hkl) ?_
    refine WL_v rfl (ov_load rfl one_int (hf.cell hH hkl)) ?_
    refine WL_call rfl rfl cf_impl_LevelOf (levelOf_ok hH hP _) ?_; rintro _ w6 ⟨rfl, hH6⟩
    refine WL_v rfl (ov_as (ov_max rfl rfl) (congrArg (Value.int .i64) (by rw [List.take_succ_eq_append_getElem hkl, topM_snoc, hlf] : max (topM (levelsTo p i) (p[i].frm.take k)) (levelOf p p[i].frm[k]) = topM (levelsTo p i) (p[i].frm.take (k + 1))))) ?_
    refine WL_v rfl (ov_assign rfl) ?_
    refine WL_nil ?_
    refine WT_inBlock ?_
    refine WT_region ?_
    refine WL_v rfl (ov_move rfl) ?_
    refine WL_v rfl (ov_add rfl rfl (by omega)) ?_
    refine WL_v rfl (ov_assign rfl) ?_
    refine WL_nil ?_
    refine again (k + 1) _ _ (by omega) (by repeat (first | exact trivial | refine ⟨rfl, ?_⟩)) ⟨by omega, hH6⟩
  first | with_reducible replace hc := of_decide_eq_false hc | with_reducible replace hc := bn_F hc | with_reducible replace hc := bb_F hc | skip
  obtain rfl : k = p[i].frm.length := by omega
  rw [List.take_length]
  have hlr := levelOf_rg p (i : Int)
  refine WT_exit rfl ?_
  refine WT_seq ?_
  refine WT_region ?_
  refine WL_v rfl (ov_move rfl) ?_
  refine WL_v rfl (ov_move rfl) ?_
  refine WL_v rfl (ov_add rfl rfl (by omega)) ?_
  refine WL_v rfl (ov_T (ov_eql rfl rfl) (decide_eq_true hlo)) ?_
  refine WL_v rfl (ov_assign rfl) ?_
  refine WL_nil ?_
  exact WT_ret1 Try.func10 Try.results10 rfl ⟨rfl, hH.weak hle⟩

end
end Go.Proofs.Ytolmmncjeebghaa
