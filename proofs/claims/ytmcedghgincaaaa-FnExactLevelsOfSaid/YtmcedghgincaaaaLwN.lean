/- The laws FnExactBufferGive and FnExactLevelsOf. -/
import Derived.Test.YtmcedghgincaaaaWkQ
import Derived.Test.YtmcedghgincaaaaWkT
import Derived.Test.YtmcedghgincaaaaWkW
import Derived.Test.YtmcedghgincaaaaWkLE
namespace Go.Proofs.Ytmcedghgincaaaa
open Go.RowKit

section
variable {h : GH} {Ls : List Heaplet} {w : World}

theorem fnExactBufferGive_walk (hH : H w h Ls) {pv : Value} {p : List Nd} (hP : Plan h pv p) : Rets Try.prog 6 #[pv] w fun v w' => v = .bool true ∧ H w' h Ls := by
  refine rets_enter Try.func6 rfl Try.ntmps6 (by simp) ?_
  refine WT_seq ?_
  refine WT_region ?_
  refine WL_v rfl (ov_assign rfl) ?_
  refine WL_nil ?_
  refine WT_seq ?_
  refine WT_region ?_
  refine WL_v rfl (ov_assign rfl) ?_
  refine WL_nil ?_
  refine WT_seq ?_
  refine WT_region ?_
  refine WL_v rfl (ov_move rfl) ?_
  refine WL_v rfl (ov_move rfl) ?_
  refine WL_call rfl rfl cf_laws_szNodeS (szNodeS_ok hH hP) ?_; rintro _ w1 ⟨s, rfl, hs, hH1⟩
  refine WL_v rfl (ov_assign rfl) ?_
  refine WL_nil ?_
  refine WT_seq ?_
  refine WT_seq ?_
  refine WT_region ?_
  refine WL_v rfl (ov_move rfl) ?_
  refine WL_v rfl (ov_lss rfl rfl) ?_
  refine WL_nil ?_
  refine WT_cond rfl (fun hneg => ?_) (fun hneg => ?_)
  · skip
    first | with_reducible replace hneg := of_decide_eq_true hneg | with_reducible replace hneg := bn_T hneg | with_reducible replace hneg := bb_T hneg | skip
    refine WT_seq ?_
    refine WT_region ?_
    refine WL_v rfl (ov_assign rfl) ?_
    refine WL_nil ?_
    exact WT_ret1 Try.func6 Try.results6 rfl ⟨rfl, hH1⟩
  first | with_reducible replace hneg := of_decide_eq_false hneg | with_reducible replace hneg := bn_F hneg | with_reducible replace hneg := bb_F hneg | skip
  obtain ⟨-, hl0, hl2⟩ := hs.resolve_left (by omega)
  have hl1 := hl0
  generalize hE : giveOf p = E
  have hEl : E.length ≤ 1048576 := by
    rw [← hE]
    unfold giveOf
    split
    · rw [giveTo_len]; exact hl0
    · simp
  refine WT_skip ?_
  refine WT_seq ?_
  refine WT_region ?_
  refine WL_v rfl (ov_move rfl) ?_
  refine WL_call rfl rfl cf_laws_toNodeS (toNodeS_ok hH1 hP hl1 hl2) ?_; rintro xv w2 ⟨O, Is, hO, hH2⟩
  obtain ⟨h1, hle1, hH3, hP1, _⟩ := hO.freeze hH2
  refine WL_call rfl rfl cf_spec_BufferGive (sBufferGive_ok hH3 hP1 (by omega)) ?_; rintro wv w4 ⟨W, hW, hH4⟩
  refine WL_v rfl (ov_assign rfl) ?_
  refine WL_nil ?_
  refine WT_seq ?_
  refine WT_region ?_
  refine WL_v rfl (ov_move rfl) ?_
  refine WL_call rfl rfl cf_laws_toNodeS (toNodeS_ok hH4 (hP.mono hle1) hl1 hl2) ?_; rintro yv w5 ⟨O2, Is2, hO2, hH5⟩
  refine WL_v rfl (ov_assign rfl) ?_
  refine WL_nil ?_
  refine WT_seq ?_
  refine WT_region ?_
  refine WL_v rfl (ov_move rfl) ?_
  rw [hE] at hW
  obtain ⟨h2, hle2, hH6, hP2, unf⟩ := hO2.freeze hH5
  refine WL_call rfl rfl cf_impl_BufferGive (bufferGive_ok hH6 hP2) ?_; rintro gv w7 ⟨G, hG, hH7⟩
  refine WL_v rfl (ov_assign rfl) ?_
  refine WL_nil ?_
  refine WT_seq ?_
  refine WT_seq ?_
  refine WT_region ?_
  refine WL_v rfl (ov_move rfl) ?_
  refine WL_v rfl (ov_move rfl) ?_
  rw [hE] at hG
  refine WL_call rfl rfl cf_laws_eqIntS (eqIntS_ok hH7 (hG.rdl (i := 0) rfl) (hW.rdl (i := 1) rfl)) ?_; rintro _ w8 ⟨rfl, hH8⟩
  refine WL_v rfl (ov_F (ov_not rfl) (by simp)) ?_
  refine WL_nil ?_
  refine WT_condF rfl ?_
  refine WT_skip ?_
  refine WT_seq ?_
  refine WT_seq ?_
  refine WT_region ?_
  refine WL_v rfl (ov_move rfl) ?_
  refine WL_v rfl (ov_move rfl) ?_
  refine WL_call rfl rfl cf_laws_toNodeS (toNodeS_ok hH8 (hP.mono (hle1.trans hle2)) hl1 hl2) ?_; rintro zv w9 ⟨O3, Is3, hO3, hH9⟩
  obtain ⟨h3, hle3, hH10, hP3, _⟩ := hO3.freeze hH9
  refine WL_call rfl rfl cf_laws_eqNodeS (eqNodeS_ok hH10 (hP2.mono hle3) hP3) ?_; rintro _ w11 ⟨rfl, hH11⟩
  refine WL_v rfl (ov_F (ov_not rfl) (by first | exact decide_eq_false rfl | exact nb_F rfl | exact mb_F rfl | exact rfl | (simp only [decide_eq_false_iff_not]; omega) | simpa using rfl)) ?_
  refine WL_nil ?_
  refine WT_condF rfl ?_
  have hH12 := unf (hH11.weak hle3)
  refine WT_skip ?_
  refine WT_seq ?_
  refine WT_region ?_
  refine WL_v rfl (ov_assign rfl) ?_
  refine WL_nil ?_
  refine WT_seq ?_
  refine WT_region ?_
  refine WL_v rfl (ov_move rfl) ?_
  refine WL_v rfl (ov_move rfl) ?_
  refine WL_call rfl rfl cf_laws_markNodeS (markNodeS_ok hO2 hH12 hl0 hl2 (show (0 : Int) ≤ 1 ∧ (1 : Int) ≤ 1000000000000 by omega)) ?_; rintro _ w13 ⟨k', rfl, hk1, hk2, hH13⟩
  refine WL_v rfl (ov_assign rfl) ?_
  refine WL_nil ?_
  refine WT_seq ?_
  refine WT_seq ?_
  refine WT_region ?_
  refine WL_v rfl (ov_move rfl) ?_
  refine WL_v rfl (ov_F (ov_lss rfl rfl) (decide_eq_false (by omega))) ?_
  refine WL_v rfl (ov_move rfl) ?_
  refine WL_guardOn rfl rfl ?_
  refine WL_v rfl (ov_move rfl) ?_
  refine WL_guardOn rfl rfl ?_
  refine WL_v rfl (ov_move rfl) ?_
  refine WL_guardOn rfl rfl ?_
  refine WL_call rfl rfl cf_laws_eqIntS (eqIntS_ok hH13 (hG.rdl (i := 0) rfl) (hW.rdl (i := 1) rfl)) ?_; rintro _ w14 ⟨rfl, hH14⟩
  refine WL_guardOn rfl rfl ?_
  refine WL_v rfl (ov_F (ov_not rfl) (by simp)) ?_
  refine WL_v rfl (ov_pickF rfl rfl) ?_
  refine WL_nil ?_
  refine WT_condF rfl ?_
  refine WT_skip ?_
  refine WT_seq ?_
  refine WT_region ?_
  refine WL_v rfl (ov_assign rfl) ?_
  refine WL_nil ?_
  refine WT_seq ?_
  refine WT_region ?_
  refine WL_v rfl (ov_move rfl) ?_
  refine WL_v rfl (ov_move rfl) ?_
  refine WL_call rfl rfl cf_laws_markIntS (markIntS_ok hH14 (i := 0) rfl hG (show (0 : Int) ≤ 1 ∧ (1 : Int) ≤ 4611686018427387904 by omega) (by omega)) ?_; rintro _ w15 ⟨rfl, G2, hG2, hH15⟩
  refine WL_v rfl (ov_assign rfl) ?_
  refine WL_nil ?_
  refine WT_seq ?_
  refine WT_region ?_
  refine WL_v rfl (ov_assign rfl) ?_
  refine WL_nil ?_
  refine WT_seq ?_
  refine WT_region ?_
  refine WL_v rfl (ov_move rfl) ?_
  refine WL_v rfl (ov_move rfl) ?_
  refine WL_call rfl rfl cf_laws_heldIntS (heldIntS_ok hH15 (hG2.rdl (i := 0) rfl) (show (0 : Int) ≤ 1 ∧ (1 : Int) ≤ 4611686018427387904 by omega) (by omega)) ?_; rintro _ w16 ⟨rfl, hH16⟩
  refine WL_v rfl (ov_assign rfl) ?_
  refine WL_nil ?_
  refine WT_seq ?_
  refine WT_seq ?_
  refine WT_region ?_
  refine WL_v rfl (ov_move rfl) ?_
  refine WL_v rfl (ov_F (ov_lss rfl rfl) (decide_eq_false (by omega))) ?_
  refine WL_nil ?_
  refine WT_condF rfl ?_
  refine WT_skip ?_
  refine WT_seq ?_
  refine WT_seq ?_
  refine WT_region ?_
  refine WL_v rfl (ov_move rfl) ?_
  refine WL_v rfl (ov_move rfl) ?_
  refine WL_v rfl (ov_F (ov_neq rfl rfl) (by simp)) ?_
  refine WL_nil ?_
  refine WT_condF rfl ?_
  refine WT_skip ?_
  refine WT_seq ?_
  refine WT_region ?_
  refine WL_v rfl (ov_move rfl) ?_
  refine WL_call rfl rfl cf_laws_toNodeS (toNodeS_ok hH16 (hP.mono hle1) hl1 hl2) ?_; rintro uv w17 ⟨O4, Is4, hO4, hH17⟩
  obtain ⟨h4, hle4, hH18, hP4, _⟩ := hO4.freeze hH17
  refine WL_call rfl rfl cf_impl_BufferGive (bufferGive_ok hH18 hP4) ?_; rintro gv2 w19 ⟨G3, hG3, hH19⟩
  refine WL_v rfl (ov_assign rfl) ?_
  refine WL_nil ?_
  refine WT_seq ?_
  refine WT_seq ?_
  refine WT_region ?_
  refine WL_v rfl (ov_move rfl) ?_
  refine WL_v rfl (ov_move rfl) ?_
  rw [hE] at hG3
  refine WL_call rfl rfl cf_laws_eqIntS (eqIntS_ok hH19 (hG3.rdl (i := 0) rfl) (hW.rdl (i := 2) rfl)) ?_; rintro _ w20 ⟨rfl, hH20⟩
  refine WL_v rfl (ov_F (ov_not rfl) (by simp)) ?_
  refine WL_nil ?_
  refine WT_condF rfl ?_
  refine WT_skip ?_
  refine WT_seq ?_
  refine WT_region ?_
  refine WL_v rfl (ov_assign rfl) ?_
  refine WL_nil ?_
  refine WT_seq ?_
  refine WT_region ?_
  refine WL_v rfl (ov_move rfl) ?_
  refine WL_v rfl (ov_move rfl) ?_
  refine WL_call rfl rfl cf_laws_heldIntS (heldIntS_ok hH20 (hG2.rdl (i := 1) rfl) (show (0 : Int) ≤ 1 ∧ (1 : Int) ≤ 4611686018427387904 by omega) (by omega)) ?_; rintro _ w21 ⟨rfl, hH21⟩
  refine WL_v rfl (ov_assign rfl) ?_
  refine WL_nil ?_
  refine WT_seq ?_
  refine WT_seq ?_
  refine WT_region ?_
  refine WL_v rfl (ov_move rfl) ?_
  refine WL_v rfl (ov_F (ov_lss rfl rfl) (decide_eq_false (by omega))) ?_
  refine WL_nil ?_
  refine WT_condF rfl ?_
  refine WT_skip ?_
  refine WT_seq ?_
  refine WT_seq ?_
  refine WT_region ?_
  refine WL_v rfl (ov_move rfl) ?_
  refine WL_v rfl (ov_move rfl) ?_
  refine WL_v rfl (ov_F (ov_neq rfl rfl) (by simp)) ?_
  refine WL_nil ?_
  refine WT_condF rfl ?_
  refine WT_skip ?_
  refine WT_seq ?_
  refine WT_region ?_
  refine WL_v rfl (ov_assign rfl) ?_
  refine WL_nil ?_
  exact WT_ret1 Try.func6 Try.results6 rfl ⟨rfl, (hH21.weak (hle1.trans hle4)).drop.drop.drop⟩

theorem levels_sum (p : List Nd) : sumLen (levelsOf p) ≤ 1000 := by
  unfold levelsOf
  split
  · rename_i hv
    have hlen := PlanOk.len hv
    have hcr := levCount_rg hv
    have key : ∀ n : Nat, sumLen ((List.range n).map fun i => toI (levRow p i)) ≤ 10 * n := by
      intro n
      induction n with
      | zero => simp [sumLen]
      | succ n ih =>
        rw [List.range_succ, List.map_append]
        simp only [List.map_cons, List.map_nil]
        rw [sumLen_snoc, toI_len]
        have : (levRow p n).length ≤ p.length := by
          have := List.length_filter_le (fun i => decide (lev p i = (n : Int))) (List.range p.length)
          simpa [levRow] using this
        omega
    have := key (levCount p).toNat
    unfold levelsL
    omega
  · simp [sumLen]

theorem fnExactLevelsOf_walk (hH : H w h Ls) {pv : Value} {p : List Nd} (hP : Plan h pv p) : Rets Try.prog 10 #[pv] w fun v w' => v = .bool true ∧ H w' h Ls := by
  refine rets_enter Try.func10 rfl Try.ntmps10 (by simp) ?_
  refine WT_seq ?_
  refine WT_region ?_
  refine WL_v rfl (ov_assign rfl) ?_
  refine WL_nil ?_
  refine WT_seq ?_
  refine WT_region ?_
  refine WL_v rfl (ov_assign rfl) ?_
  refine WL_nil ?_
  refine WT_seq ?_
  refine WT_region ?_
  refine WL_v rfl (ov_move rfl) ?_
  refine WL_v rfl (ov_move rfl) ?_
  refine WL_call rfl rfl cf_laws_szNodeS (szNodeS_ok hH hP) ?_; rintro _ w1 ⟨s, rfl, hs, hH1⟩
  refine WL_v rfl (ov_assign rfl) ?_
  refine WL_nil ?_
  refine WT_seq ?_
  refine WT_seq ?_
  refine WT_region ?_
  refine WL_v rfl (ov_move rfl) ?_
  refine WL_v rfl (ov_lss rfl rfl) ?_
  refine WL_nil ?_
  refine WT_cond rfl (fun hneg => ?_) (fun hneg => ?_)
  · skip
    first | with_reducible replace hneg := of_decide_eq_true hneg | with_reducible replace hneg := bn_T hneg | with_reducible replace hneg := bb_T hneg | skip
    refine WT_seq ?_
    refine WT_region ?_
    refine WL_v rfl (ov_assign rfl) ?_
    refine WL_nil ?_
    exact WT_ret1 Try.func10 Try.results10 rfl ⟨rfl, hH1⟩
  first | with_reducible replace hneg := of_decide_eq_false hneg | with_reducible replace hneg := bn_F hneg | with_reducible replace hneg := bb_F hneg | skip
  obtain ⟨-, hl0, hl2⟩ := hs.resolve_left (by omega)
  have hl1 := hl0
  have hEl : sumLen (levelsOf p) ≤ 1000 := levels_sum p
  generalize hE : levelsOf p = E at hEl
  refine WT_skip ?_
  refine WT_seq ?_
  refine WT_region ?_
  refine WL_v rfl (ov_move rfl) ?_
  refine WL_call rfl rfl cf_laws_toNodeS (toNodeS_ok hH1 hP hl1 hl2) ?_; rintro xv w2 ⟨O, Is, hO, hH2⟩
  obtain ⟨h1, hle1, hH3, hP1, _⟩ := hO.freeze hH2
  refine WL_call rfl rfl cf_spec_LevelsOf (sLevelsOf_ok hH3 hP1 (by omega)) ?_; rintro wv w4 ⟨WO, WI, hW, hH4⟩
  refine WL_v rfl (ov_assign rfl) ?_
  refine WL_nil ?_
  refine WT_seq ?_
  refine WT_region ?_
  refine WL_v rfl (ov_move rfl) ?_
  refine WL_call rfl rfl cf_laws_toNodeS (toNodeS_ok hH4 (hP.mono hle1) hl1 hl2) ?_; rintro yv w5 ⟨O2, Is2, hO2, hH5⟩
  refine WL_v rfl (ov_assign rfl) ?_
  refine WL_nil ?_
  refine WT_seq ?_
  refine WT_region ?_
  refine WL_v rfl (ov_move rfl) ?_
  rw [hE] at hW
  obtain ⟨h2, hle2, hH6, hP2, unf⟩ := hO2.freeze hH5
  refine WL_call rfl rfl cf_impl_LevelsOf (levelsOf_ok hH6 hP2) ?_; rintro gv w7 ⟨GO, GI, hG, hH7⟩
  refine WL_v rfl (ov_assign rfl) ?_
  refine WL_nil ?_
  refine WT_seq ?_
  refine WT_seq ?_
  refine WT_region ?_
  refine WL_v rfl (ov_move rfl) ?_
  refine WL_v rfl (ov_move rfl) ?_
  rw [hE] at hG
  refine WL_call rfl rfl cf_laws_eqIntSS (eqIntSS_ok hH7 (hG.rdll LAt.cons) (hW.rdll ((LAt.cons.skip GI).skip1))) ?_; rintro _ w8 ⟨rfl, hH8⟩
  refine WL_v rfl (ov_F (ov_not rfl) (by simp)) ?_
  refine WL_nil ?_
  refine WT_condF rfl ?_
  refine WT_skip ?_
  refine WT_seq ?_
  refine WT_seq ?_
  refine WT_region ?_
  refine WL_v rfl (ov_move rfl) ?_
  refine WL_v rfl (ov_move rfl) ?_
  refine WL_call rfl rfl cf_laws_toNodeS (toNodeS_ok hH8 (hP.mono (hle1.trans hle2)) hl1 hl2) ?_; rintro zv w9 ⟨O3, Is3, hO3, hH9⟩
  obtain ⟨h3, hle3, hH10, hP3, _⟩ := hO3.freeze hH9
  refine WL_call rfl rfl cf_laws_eqNodeS (eqNodeS_ok hH10 (hP2.mono hle3) hP3) ?_; rintro _ w11 ⟨rfl, hH11⟩
  refine WL_v rfl (ov_F (ov_not rfl) (by first | exact decide_eq_false rfl | exact nb_F rfl | exact mb_F rfl | exact rfl | (simp only [decide_eq_false_iff_not]; omega) | simpa using rfl)) ?_
  refine WL_nil ?_
  refine WT_condF rfl ?_
  have hH12 := unf (hH11.weak hle3)
  refine WT_skip ?_
  refine WT_seq ?_
  refine WT_region ?_
  refine WL_v rfl (ov_assign rfl) ?_
  refine WL_nil ?_
  refine WT_seq ?_
  refine WT_region ?_
  refine WL_v rfl (ov_move rfl) ?_
  refine WL_v rfl (ov_move rfl) ?_
  refine WL_call rfl rfl cf_laws_markNodeS (markNodeS_ok hO2 hH12 hl0 hl2 (show (0 : Int) ≤ 1 ∧ (1 : Int) ≤ 1000000000000 by omega)) ?_; rintro _ w13 ⟨k', rfl, hk1, hk2, hH13⟩
  refine WL_v rfl (ov_assign rfl) ?_
  refine WL_nil ?_
  refine WT_seq ?_
  refine WT_seq ?_
  refine WT_region ?_
  refine WL_v rfl (ov_move rfl) ?_
  refine WL_v rfl (ov_F (ov_lss rfl rfl) (decide_eq_false (by omega))) ?_
  refine WL_v rfl (ov_move rfl) ?_
  refine WL_guardOn rfl rfl ?_
  refine WL_v rfl (ov_move rfl) ?_
  refine WL_guardOn rfl rfl ?_
  refine WL_v rfl (ov_move rfl) ?_
  refine WL_guardOn rfl rfl ?_
  refine WL_call rfl rfl cf_laws_eqIntSS (eqIntSS_ok hH13 (hG.rdll LAt.cons) (hW.rdll ((LAt.cons.skip GI).skip1))) ?_; rintro _ w14 ⟨rfl, hH14⟩
  refine WL_guardOn rfl rfl ?_
  refine WL_v rfl (ov_F (ov_not rfl) (by simp)) ?_
  refine WL_v rfl (ov_pickF rfl rfl) ?_
  refine WL_nil ?_
  refine WT_condF rfl ?_
  refine WT_skip ?_
  refine WT_seq ?_
  refine WT_region ?_
  refine WL_v rfl (ov_assign rfl) ?_
  refine WL_nil ?_
  refine WT_seq ?_
  refine WT_region ?_
  refine WL_v rfl (ov_move rfl) ?_
  refine WL_v rfl (ov_move rfl) ?_
  refine WL_call rfl rfl cf_laws_markIntSS (markIntSS_ok hG hH14 (show (0 : Int) ≤ 1 ∧ (1 : Int) ≤ 1000000000000 by omega) (by omega)) ?_; rintro _ w15 ⟨rfl, GI2, hG2, hH15⟩
  refine WL_v rfl (ov_assign rfl) ?_
  refine WL_nil ?_
  refine WT_seq ?_
  refine WT_region ?_
  refine WL_v rfl (ov_assign rfl) ?_
  refine WL_nil ?_
  refine WT_seq ?_
  refine WT_region ?_
  refine WL_v rfl (ov_move rfl) ?_
  refine WL_v rfl (ov_move rfl) ?_
  refine WL_call rfl rfl cf_laws_heldIntSS (heldIntSS_ok hH15 (hG2.rdll LAt.cons) (show (0 : Int) ≤ 1 ∧ (1 : Int) ≤ 1000000000000 by omega) (by omega)) ?_; rintro _ w16 ⟨rfl, hH16⟩
  refine WL_v rfl (ov_assign rfl) ?_
  refine WL_nil ?_
  refine WT_seq ?_
  refine WT_seq ?_
  refine WT_region ?_
  refine WL_v rfl (ov_move rfl) ?_
  refine WL_v rfl (ov_F (ov_lss rfl rfl) (decide_eq_false (by omega))) ?_
  refine WL_nil ?_
  refine WT_condF rfl ?_
  refine WT_skip ?_
  refine WT_seq ?_
  refine WT_seq ?_
  refine WT_region ?_
  refine WL_v rfl (ov_move rfl) ?_
  refine WL_v rfl (ov_move rfl) ?_
  refine WL_v rfl (ov_F (ov_neq rfl rfl) (by simp)) ?_
  refine WL_nil ?_
  refine WT_condF rfl ?_
  refine WT_skip ?_
  refine WT_seq ?_
  refine WT_region ?_
  refine WL_v rfl (ov_move rfl) ?_
  refine WL_call rfl rfl cf_laws_toNodeS (toNodeS_ok hH16 (hP.mono hle1) hl1 hl2) ?_; rintro uv w17 ⟨O4, Is4, hO4, hH17⟩
  obtain ⟨h4, hle4, hH18, hP4, _⟩ := hO4.freeze hH17
  refine WL_call rfl rfl cf_impl_LevelsOf (levelsOf_ok hH18 hP4) ?_; rintro gv2 w19 ⟨G3, GI3, hG3, hH19⟩
  refine WL_v rfl (ov_assign rfl) ?_
  refine WL_nil ?_
  refine WT_seq ?_
  refine WT_seq ?_
  refine WT_region ?_
  refine WL_v rfl (ov_move rfl) ?_
  refine WL_v rfl (ov_move rfl) ?_
  rw [hE] at hG3
  refine WL_call rfl rfl cf_laws_eqIntSS (eqIntSS_ok hH19 (hG3.rdll LAt.cons) (hW.rdll ((((LAt.cons.skip GI2).skip1).skip GI3).skip1))) ?_; rintro _ w20 ⟨rfl, hH20⟩
  refine WL_v rfl (ov_F (ov_not rfl) (by simp)) ?_
  refine WL_nil ?_
  refine WT_condF rfl ?_
  refine WT_skip ?_
  refine WT_seq ?_
  refine WT_region ?_
  refine WL_v rfl (ov_assign rfl) ?_
  refine WL_nil ?_
  refine WT_seq ?_
  refine WT_region ?_
  refine WL_v rfl (ov_move rfl) ?_
  refine WL_v rfl (ov_move rfl) ?_
  refine WL_call rfl rfl cf_laws_heldIntSS (heldIntSS_ok hH20 (hG2.rdll ((LAt.cons.skip GI3).skip1)) (show (0 : Int) ≤ 1 ∧ (1 : Int) ≤ 1000000000000 by omega) (by omega)) ?_; rintro _ w21 ⟨rfl, hH21⟩
  refine WL_v rfl (ov_assign rfl) ?_
  refine WL_nil ?_
  refine WT_seq ?_
  refine WT_seq ?_
  refine WT_region ?_
  refine WL_v rfl (ov_move rfl) ?_
  refine WL_v rfl (ov_F (ov_lss rfl rfl) (decide_eq_false (by omega))) ?_
  refine WL_nil ?_
  refine WT_condF rfl ?_
  refine WT_skip ?_
  refine WT_seq ?_
  refine WT_seq ?_
  refine WT_region ?_
  refine WL_v rfl (ov_move rfl) ?_
  refine WL_v rfl (ov_move rfl) ?_
  refine WL_v rfl (ov_F (ov_neq rfl rfl) (by simp)) ?_
  refine WL_nil ?_
  refine WT_condF rfl ?_
  refine WT_skip ?_
  refine WT_seq ?_
  refine WT_region ?_
  refine WL_v rfl (ov_assign rfl) ?_
  refine WL_nil ?_
  exact WT_ret1 Try.func10 Try.results10 rfl ⟨rfl, H.drops _ (H.drops _ (H.drops _ (hH21.weak (hle1.trans hle4)).drop).drop).drop⟩
end
end Go.Proofs.Ytmcedghgincaaaa
