/- The law FnExactBufferEnds. -/
import Derived.Test.YtolmmncjeebghaaWkQ
import Derived.Test.YtolmmncjeebghaaWkI
namespace Go.Proofs.Ytolmmncjeebghaa
open Go.RowKit

section
variable {h : GH} {Ls : List Heaplet} {w : World}

theorem fnExactBufferEnds_walk (hH : H w h Ls) {pv : Value} {p : List Nd} (hP : Plan h pv p) : Rets Try.prog 12 #[pv] w fun v w' => v = .bool true ∧ H w' h Ls := by
  refine rets_enter Try.func12 rfl Try.ntmps12 (by simp) ?_
  refine WT_seq ?_
  refine WT_region ?_
  refine WL_v rfl (ov_assign rfl) ?_
  refine WL_nil ?_
  refine WT_seq ?_
  refine WT_region ?_
  refine WL_v rfl (ov_assign rfl) ?_
  refine WL_nil ?_
  refine WT_seq ?_
  refine WT_region ?_
  refine WL_v rfl (ov_move rfl) ?_
  refine WL_v rfl (ov_move rfl) ?_
  refine WL_call rfl rfl cf_laws_szNodeS (szNodeS_ok hH hP) ?_; rintro _ w1 ⟨s, rfl, hs, hH1⟩
  refine WL_v rfl (ov_assign rfl) ?_
  refine WL_nil ?_
  refine WT_seq ?_
  refine WT_seq ?_
  refine WT_region ?_
  refine WL_v rfl (ov_move rfl) ?_
  refine WL_v rfl (ov_lss rfl rfl) ?_
  refine WL_nil ?_
  refine WT_cond rfl (fun hneg => ?_) (fun hneg => ?_)
  · skip
    first | with_reducible replace hneg := of_decide_eq_true hneg | with_reducible replace hneg := bn_T hneg | with_reducible replace hneg := bb_T hneg | skip
    refine WT_seq ?_
    refine WT_region ?_
    refine WL_v rfl (ov_assign rfl) ?_
    refine WL_nil ?_
    exact WT_ret1 Try.func12 Try.results12 rfl ⟨rfl, hH1⟩
  first | with_reducible replace hneg := of_decide_eq_false hneg | with_reducible replace hneg := bn_F hneg | with_reducible replace hneg := bb_F hneg | skip
  obtain ⟨-, hl0, hl2⟩ := hs.resolve_left (by omega)
  have hl1 := hl0
  generalize hE : (if planOk p = true then endsTo p p.length else []) = E
  have hEl : E.length ≤ 1048576 := by
    rw [← hE]
    split
    · rw [endsTo_len]; exact hl0
    · simp
  refine WT_skip ?_
  refine WT_seq ?_
  refine WT_region ?_
  refine WL_v rfl (ov_move rfl) ?_
  refine WL_call rfl rfl cf_laws_toNodeS (toNodeS_ok hH1 hP hl1 hl2) ?_; rintro xv w2 ⟨O, Is, hO, hH2⟩
  obtain ⟨h1, hle1, hH3, hP1, _⟩ := hO.freeze hH2
  refine WL_call rfl rfl cf_spec_BufferEnds (sBufferEnds_ok hH3 hP1 (by omega)) ?_; rintro wv w4 ⟨W, hW, hH4⟩
  refine WL_v rfl (ov_assign rfl) ?_
  refine WL_nil ?_
  refine WT_seq ?_
  refine WT_region ?_
  refine WL_v rfl (ov_move rfl) ?_
  refine WL_call rfl rfl cf_laws_toNodeS (toNodeS_ok hH4 (hP.mono hle1) hl1 hl2) ?_; rintro yv w5 ⟨O2, Is2, hO2, hH5⟩
  refine WL_v rfl (ov_assign rfl) ?_
  refine WL_nil ?_
  refine WT_seq ?_
  refine WT_region ?_
  refine WL_v rfl (ov_move rfl) ?_
  rw [hE] at hW
  obtain ⟨h2, hle2, hH6, hP2, unf⟩ := hO2.freeze hH5
  refine WL_call rfl rfl cf_impl_BufferEnds (bufferEnds_ok hH6 hP2) ?_; rintro gv w7 ⟨G, hG, hH7⟩
  refine WL_v rfl (ov_assign rfl) ?_
  refine WL_nil ?_
  refine WT_seq ?_
  refine WT_seq ?_
  refine WT_region ?_
  refine WL_v rfl (ov_move rfl) ?_
  refine WL_v rfl (ov_move rfl) ?_
  rw [hE] at hG
  refine WL_call rfl rfl cf_laws_eqIntS (eqIntS_ok hH7 (hG.rdl (i := 0) rfl) (hW.rdl (i := 1) rfl)) ?_; rintro _ w8 ⟨rfl, hH8⟩
  refine WL_v rfl (ov_F (ov_not rfl) (by simp)) ?_
  refine WL_nil ?_
  refine WT_condF rfl ?_
  refine WT_skip ?_
  refine WT_seq ?_
  refine WT_seq ?_
  refine WT_region ?_
  refine WL_v rfl (ov_move rfl) ?_
  refine WL_v rfl (ov_move rfl) ?_
  refine WL_call rfl rfl cf_laws_toNodeS (toNodeS_ok hH8 (hP.mono (hle1.trans hle2)) hl1 hl2) ?_; rintro zv w9 ⟨O3, Is3, hO3, hH9⟩
  obtain ⟨h3, hle3, hH10, hP3, _⟩ := hO3.freeze hH9
  refine WL_call rfl rfl cf_laws_eqNodeS (eqNodeS_ok hH10 (hP2.mono hle3) hP3) ?_; rintro _ w11 ⟨rfl, hH11⟩
  refine WL_v rfl (ov_F (ov_not rfl) (by first | exact decide_eq_false rfl | exact nb_F rfl | exact mb_F rfl | exact rfl | (simp only [decide_eq_false_iff_not]; omega) | simpa using rfl)) ?_
  refine WL_nil ?_
  refine WT_condF rfl ?_
  have hH12 := unf (hH11.weak hle3)
  refine WT_skip ?_
  refine WT_seq ?_
  refine WT_region ?_
  refine WL_v rfl (ov_assign rfl) ?_
  refine WL_nil ?_
  refine WT_seq ?_
  refine WT_region ?_
  refine WL_v rfl (ov_move rfl) ?_
  refine WL_v rfl (ov_move rfl) ?_
  refine WL_call rfl rfl cf_laws_markNodeS (markNodeS_ok hO2 hH12 hl0 hl2 (show (0 : Int) ≤ 1 ∧ (1 : Int) ≤ 1000000000000 by omega)) ?_; rintro _ w13 ⟨k', rfl, hk1, hk2, hH13⟩
  refine WL_v rfl (ov_assign rfl) ?_
  refine WL_nil ?_
  refine WT_seq ?_
  refine WT_seq ?_
  refine WT_region ?_
  refine WL_v rfl (ov_move rfl) ?_
  refine WL_v rfl (ov_F (ov_lss rfl rfl) (decide_eq_false (by omega))) ?_
  refine WL_v rfl (ov_move rfl) ?_
  refine WL_guardOn rfl rfl ?_
  refine WL_v rfl (ov_move rfl) ?_
  refine WL_guardOn rfl rfl ?_
  refine WL_v rfl (ov_move rfl) ?_
  refine WL_guardOn rfl rfl ?_
  refine WL_call rfl rfl cf_laws_eqIntS (eqIntS_ok hH13 (hG.rdl (i := 0) rfl) (hW.rdl (i := 1) rfl)) ?_; rintro _ w14 ⟨rfl, hH14⟩
  refine WL_guardOn rfl rfl ?_
  refine WL_v rfl (ov_F (ov_not rfl) (by simp)) ?_
  refine WL_v rfl (ov_pickF rfl rfl) ?_
  refine WL_nil ?_
  refine WT_condF rfl ?_
  refine WT_skip ?_
  refine WT_seq ?_
  refine WT_region ?_
  refine WL_v rfl (ov_assign rfl) ?_
  refine WL_nil ?_
  refine WT_seq ?_
  refine WT_region ?_
  refine WL_v rfl (ov_move rfl) ?_
  refine WL_v rfl (ov_move rfl) ?_
  refine WL_call rfl rfl cf_laws_markIntS (markIntS_ok hH14 (i := 0) rfl hG (show (0 : Int) ≤ 1 ∧ (1 : Int) ≤ 4611686018427387904 by omega) (by omega)) ?_; rintro _ w15 ⟨rfl, G2, hG2, hH15⟩
  refine WL_v rfl (ov_assign rfl) ?_
  refine WL_nil ?_
  refine WT_seq ?_
  refine WT_region ?_
  refine WL_v rfl (ov_assign rfl) ?_
  refine WL_nil ?_
  refine WT_seq ?_
  refine WT_region ?_
  refine WL_v rfl (ov_move rfl) ?_
  refine WL_v rfl (ov_move rfl) ?_
  refine WL_call rfl rfl cf_laws_heldIntS (heldIntS_ok hH15 (hG2.rdl (i := 0) rfl) (show (0 : Int) ≤ 1 ∧ (1 : Int) ≤ 4611686018427387904 by omega) (by omega)) ?_; rintro _ w16 ⟨rfl, hH16⟩
  refine WL_v rfl (ov_assign rfl) ?_
  refine WL_nil ?_
  refine WT_seq ?_
  refine WT_seq ?_
  refine WT_region ?_
  refine WL_v rfl (ov_move rfl) ?_
  refine WL_v rfl (ov_F (ov_lss rfl rfl) (decide_eq_false (by omega))) ?_
  refine WL_nil ?_
  refine WT_condF rfl ?_
  refine WT_skip ?_
  refine WT_seq ?_
  refine WT_seq ?_
  refine WT_region ?_
  refine WL_v rfl (ov_move rfl) ?_
  refine WL_v rfl (ov_move rfl) ?_
  refine WL_v rfl (ov_F (ov_neq rfl rfl) (by simp)) ?_
  refine WL_nil ?_
  refine WT_condF rfl ?_
  refine WT_skip ?_
  refine WT_seq ?_
  refine WT_region ?_
  refine WL_v rfl (ov_move rfl) ?_
  refine WL_call rfl rfl cf_laws_toNodeS (toNodeS_ok hH16 (hP.mono hle1) hl1 hl2) ?_; rintro uv w17 ⟨O4, Is4, hO4, hH17⟩
  obtain ⟨h4, hle4, hH18, hP4, _⟩ := hO4.freeze hH17
  refine WL_call rfl rfl cf_impl_BufferEnds (bufferEnds_ok hH18 hP4) ?_; rintro gv2 w19 ⟨G3, hG3, hH19⟩
  refine WL_v rfl (ov_assign rfl) ?_
  refine WL_nil ?_
  refine WT_seq ?_
  refine WT_seq ?_
  refine WT_region ?_
  refine WL_v rfl (ov_move rfl) ?_
  refine WL_v rfl (ov_move rfl) ?_
  rw [hE] at hG3
  refine WL_call rfl rfl cf_laws_eqIntS (eqIntS_ok hH19 (hG3.rdl (i := 0) rfl) (hW.rdl (i := 2) rfl)) ?_; rintro _ w20 ⟨rfl, hH20⟩
  refine WL_v rfl (ov_F (ov_not rfl) (by simp)) ?_
  refine WL_nil ?_
  refine WT_condF rfl ?_
  refine WT_skip ?_
  refine WT_seq ?_
  refine WT_region ?_
  refine WL_v rfl (ov_assign rfl) ?_
  refine WL_nil ?_
  refine WT_seq ?_
  refine WT_region ?_
  refine WL_v rfl (ov_move rfl) ?_
  refine WL_v rfl (ov_move rfl) ?_
  refine WL_call rfl rfl cf_laws_heldIntS (heldIntS_ok hH20 (hG2.rdl (i := 1) rfl) (show (0 : Int) ≤ 1 ∧ (1 : Int) ≤ 4611686018427387904 by omega) (by omega)) ?_; rintro _ w21 ⟨rfl, hH21⟩
  refine WL_v rfl (ov_assign rfl) ?_
  refine WL_nil ?_
  refine WT_seq ?_
  refine WT_seq ?_
  refine WT_region ?_
  refine WL_v rfl (ov_move rfl) ?_
  refine WL_v rfl (ov_F (ov_lss rfl rfl) (decide_eq_false (by omega))) ?_
  refine WL_nil ?_
  refine WT_condF rfl ?_
  refine WT_skip ?_
  refine WT_seq ?_
  refine WT_seq ?_
  refine WT_region ?_
  refine WL_v rfl (ov_move rfl) ?_
  refine WL_v rfl (ov_move rfl) ?_
  refine WL_v rfl (ov_F (ov_neq rfl rfl) (by simp)) ?_
  refine WL_nil ?_
  refine WT_condF rfl ?_
  refine WT_skip ?_
  refine WT_seq ?_
  refine WT_region ?_
  refine WL_v rfl (ov_assign rfl) ?_
  refine WL_nil ?_
  exact WT_ret1 Try.func12 Try.results12 rfl ⟨rfl, (hH21.weak (hle1.trans hle4)).drop.drop.drop⟩
end
end Go.Proofs.Ytolmmncjeebghaa
