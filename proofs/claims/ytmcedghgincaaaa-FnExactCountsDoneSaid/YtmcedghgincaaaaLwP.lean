/- The law FnExactCountsDone. -/
import Derived.Test.YtmcedghgincaaaaWkFF
import Derived.Test.YtmcedghgincaaaaWkQ
import Derived.Test.YtmcedghgincaaaaSlF
namespace Go.Proofs.Ytmcedghgincaaaa
open Go.RowKit

section
variable {h : GH} {Ls : List Heaplet} {w : World}

theorem eqIntS_same (hH : H w h Ls) {av bv : Value} {xs : List Int} (hA : RdL h Ls av xs) (hB : RdL h Ls bv xs) : Rets Try.prog 36 #[av, bv] w fun v w' => v = .bool true ∧ H w' h Ls :=
  (eqIntS_ok hH hA hB).mono fun _ _ hh => ⟨by rw [hh.1]; simp, hh.2⟩
theorem doneCo_len (p : List Nd) (c : List Int) (a : Int) : (doneCo p c a).length ≤ p.length := by
  unfold doneCo
  split
  · rw [doneC_len]; omega
  · simp
theorem doneRo_len (p : List Nd) (c : List Int) (a : Int) : (doneRo p c a).length ≤ p.length := by
  unfold doneRo
  split
  · rw [toI_len]
    have := List.length_filter_le (fun i => decide (a ∈ (p.getD i default).frm) && decide (c.getD i 0 = 1)) (List.range p.length)
    simpa [doneR] using this
  · simp

set_option maxHeartbeats 1000000 in
theorem fnExactCountsDone_walk (hH : H w h Ls) {pv lv : Value} {p : List Nd} {c : List Int} (hP : Plan h pv p) (hL : Ints h lv c) {a : Int} (_ha : I64 a) : Rets Try.prog 14 #[pv, lv, .int .i64 a] w fun v w' => v = .bool true ∧ H w' h Ls := by
  refine rets_enter Try.func14 rfl Try.ntmps14 (by simp) ?_
  refine WT_seq ?_
  refine WT_region ?_
  refine WL_v rfl (ov_assign rfl) ?_
  refine WL_nil ?_
  refine WT_seq ?_
  refine WT_seq ?_
  refine WT_region ?_
  refine WL_v rfl (ov_move rfl) ?_
  refine WL_v rfl (ov_len rfl hL.sl st_sl_int) ?_
  refine WL_v rfl (ov_gtr rfl rfl) ?_
  refine WL_nil ?_
  refine WT_cond rfl (fun hbig => ?_) (fun hbig => ?_)
  · skip
    first | with_reducible replace hbig := of_decide_eq_true hbig | with_reducible replace hbig := bn_T hbig | with_reducible replace hbig := bb_T hbig | skip
    refine WT_seq ?_
    refine WT_region ?_
    refine WL_v rfl (ov_assign rfl) ?_
    refine WL_nil ?_
    exact WT_ret1 Try.func14 Try.results14 rfl ⟨rfl, hH⟩
  first | with_reducible replace hbig := of_decide_eq_false hbig | with_reducible replace hbig := bn_F hbig | with_reducible replace hbig := bb_F hbig | skip
  have hll : c.length ≤ 1048576 := by omega
  refine WT_skip ?_
  refine WT_seq ?_
  refine WT_region ?_
  refine WL_v rfl (ov_assign rfl) ?_
  refine WL_nil ?_
  refine WT_seq ?_
  refine WT_region ?_
  refine WL_v rfl (ov_move rfl) ?_
  refine WL_v rfl (ov_move rfl) ?_
  refine WL_call rfl rfl cf_laws_szNodeS (szNodeS_ok hH hP) ?_; rintro _ w1 ⟨s, rfl, hs, hH1⟩
  refine WL_v rfl (ov_assign rfl) ?_
  refine WL_nil ?_
  refine WT_seq ?_
  refine WT_seq ?_
  refine WT_region ?_
  refine WL_v rfl (ov_move rfl) ?_
  refine WL_v rfl (ov_lss rfl rfl) ?_
  refine WL_nil ?_
  refine WT_cond rfl (fun hneg => ?_) (fun hneg => ?_)
  · skip
    first | with_reducible replace hneg := of_decide_eq_true hneg | with_reducible replace hneg := bn_T hneg | with_reducible replace hneg := bb_T hneg | skip
    refine WT_seq ?_
    refine WT_region ?_
    refine WL_v rfl (ov_assign rfl) ?_
    refine WL_nil ?_
    exact WT_ret1 Try.func14 Try.results14 rfl ⟨rfl, hH1⟩
  first | with_reducible replace hneg := of_decide_eq_false hneg | with_reducible replace hneg := bn_F hneg | with_reducible replace hneg := bb_F hneg | skip
  obtain ⟨-, hl0, hl2⟩ := hs.resolve_left (by omega)
  have hl1 := hl0
  have hXl := doneCo_len p c a
  have hYl := doneRo_len p c a
  refine WT_skip ?_
  refine WT_seq ?_
  refine WT_region ?_
  refine WL_v rfl (ov_move rfl) ?_
  refine WL_call rfl rfl cf_laws_toNodeS (toNodeS_ok hH1 hP hl1 hl2) ?_; rintro xv w2 ⟨O, Is, hO, hH2⟩
  refine WL_v rfl (ov_move rfl) ?_
  obtain ⟨h1, hle1, hH3, hP1, _⟩ := hO.freeze hH2
  refine WL_call rfl rfl cf_laws_toIntS (toIntS_ok hH3 (hL.mono hle1) hll) ?_; rintro tv w4 ⟨T, hT, hH4⟩
  refine WL_v rfl (ov_move rfl) ?_
  refine WL_call rfl rfl cf_spec_CountsDone (sCountsDone_ok hH4 hP1 (hT.rdl (i := 0) rfl) (by omega) (by omega) a) ?_; rintro _ w5 ⟨W1, W2, wv1, wv2, rfl, hW1, hW2, hH5⟩
  refine WL_v rfl (ov_move rfl) ?_
  refine WL_v rfl (ov_extract rfl rfl) ?_
  refine WL_v rfl (ov_extract rfl rfl) ?_
  refine WL_v rfl (ov_extract rfl rfl) ?_
  refine WL_v rfl (ov_assign rfl) ?_
  refine WL_v rfl (ov_assign rfl) ?_
  refine WL_v rfl (ov_assign rfl) ?_
  refine WL_nil ?_
  refine WT_seq ?_
  refine WT_region ?_
  refine WL_v rfl (ov_move rfl) ?_
  refine WL_call rfl rfl cf_laws_toNodeS (toNodeS_ok hH5 (hP.mono hle1) hl1 hl2) ?_; rintro yv w6 ⟨O2, Is2, hO2, hH6⟩
  refine WL_v rfl (ov_assign rfl) ?_
  refine WL_nil ?_
  refine WT_seq ?_
  refine WT_region ?_
  refine WL_v rfl (ov_move rfl) ?_
  obtain ⟨h2, hle2, hH7, hP2, unf⟩ := hO2.freeze hH6
  refine WL_call rfl rfl cf_laws_toIntS (toIntS_ok hH7 (hL.mono (hle1.trans hle2)) hll) ?_; rintro cv w7 ⟨C, hC, hH8⟩
  refine WL_v rfl (ov_assign rfl) ?_
  refine WL_nil ?_
  refine WT_seq ?_
  refine WT_region ?_
  refine WL_v rfl (ov_move rfl) ?_
  refine WL_v rfl (ov_move rfl) ?_
  refine WL_v rfl (ov_move rfl) ?_
  refine WL_call rfl rfl cf_impl_CountsDone (countsDone_ok hH8 hP2 (hC.rdl (i := 0) rfl) (by omega) a) ?_; rintro _ w8 ⟨G1, G2, gv1, gv2, rfl, hG1, hG2, hH9⟩
  refine WL_v rfl (ov_move rfl) ?_
  refine WL_v rfl (ov_extract rfl rfl) ?_
  refine WL_v rfl (ov_extract rfl rfl) ?_
  refine WL_v rfl (ov_extract rfl rfl) ?_
  refine WL_v rfl (ov_assign rfl) ?_
  refine WL_v rfl (ov_assign rfl) ?_
  refine WL_v rfl (ov_assign rfl) ?_
  refine WL_nil ?_
  refine WT_seq ?_
  refine WT_seq ?_
  refine WT_region ?_
  refine WL_v rfl (ov_move rfl) ?_
  refine WL_v rfl (ov_move rfl) ?_
  refine WL_call rfl rfl cf_laws_eqIntS (eqIntS_same hH9 (hG1.rdl (i := 0) rfl) (hW1.rdl (i := 3) rfl)) ?_; rintro _ w9 ⟨rfl, hH10⟩
  refine WL_v rfl (ov_F (ov_not rfl) rfl) ?_
  refine WL_v rfl (ov_move rfl) ?_
  refine WL_guardOn rfl rfl ?_
  refine WL_v rfl (ov_move rfl) ?_
  refine WL_guardOn rfl rfl ?_
  refine WL_v rfl (ov_move rfl) ?_
  refine WL_guardOn rfl rfl ?_
  refine WL_call rfl rfl cf_laws_eqIntS (eqIntS_same hH10 (hG2.rdl (i := 1) rfl) (hW2.rdl (i := 4) rfl)) ?_; rintro _ w10 ⟨rfl, hH11⟩
  refine WL_guardOn rfl rfl ?_
  refine WL_v rfl (ov_F (ov_not rfl) rfl) ?_
  refine WL_v rfl (ov_pickF rfl rfl) ?_
  refine WL_v rfl (ov_move rfl) ?_
  refine WL_guardOn rfl rfl ?_
  refine WL_v rfl (ov_move rfl) ?_
  refine WL_guardOn rfl rfl ?_
  refine WL_v rfl (ov_move rfl) ?_
  refine WL_guardOn rfl rfl ?_
  refine WL_v rfl (ov_F (ov_neqB rfl rfl Try.underlying4) (by simp)) ?_
  refine WL_v rfl (ov_pickF rfl rfl) ?_
  refine WL_nil ?_
  refine WT_condF rfl ?_
  refine WT_skip ?_
  refine WT_seq ?_
  refine WT_seq ?_
  refine WT_region ?_
  refine WL_v rfl (ov_move rfl) ?_
  refine WL_v rfl (ov_move rfl) ?_
  refine WL_call rfl rfl cf_laws_toNodeS (toNodeS_ok hH11 (hP.mono (hle1.trans hle2)) hl1 hl2) ?_; rintro zv w11 ⟨O3, Is3, hO3, hH12⟩
  obtain ⟨h3, hle3, hH13, hP3, _⟩ := hO3.freeze hH12
  have hle13 := hle1.trans (hle2.trans hle3)
  refine WL_call rfl rfl cf_laws_eqNodeS (eqNodeS_ok hH13 (hP2.mono hle3) hP3) ?_; rintro _ w12 ⟨rfl, hH14⟩
  refine WL_v rfl (ov_F (ov_not rfl) (by first | exact decide_eq_false rfl | exact nb_F rfl | exact mb_F rfl | exact rfl | (simp only [decide_eq_false_iff_not]; omega) | simpa using rfl)) ?_
  refine WL_nil ?_
  refine WT_condF rfl ?_
  refine WT_skip ?_
  refine WT_seq ?_
  refine WT_seq ?_
  refine WT_region ?_
  refine WL_v rfl (ov_move rfl) ?_
  refine WL_v rfl (ov_move rfl) ?_
  refine WL_call rfl rfl cf_laws_toIntS (toIntS_ok hH14 (hL.mono hle13) hll) ?_; rintro c2v w13 ⟨C2, hC2, hH15⟩
  refine WL_call rfl rfl cf_laws_eqIntS (eqIntS_same hH15 (hC.rdl (i := 3) rfl) (hC2.rdl (i := 0) rfl)) ?_; rintro _ w14 ⟨rfl, hH16⟩
  refine WL_v rfl (ov_F (ov_not rfl) rfl) ?_
  refine WL_nil ?_
  refine WT_condF rfl ?_
  have hH17 := unf (hH16.drop.weak hle3)
  refine WT_skip ?_
  refine WT_seq ?_
  refine WT_region ?_
  refine WL_v rfl (ov_assign rfl) ?_
  refine WL_nil ?_
  refine WT_seq ?_
  refine WT_region ?_
  refine WL_v rfl (ov_move rfl) ?_
  refine WL_v rfl (ov_move rfl) ?_
  refine WL_call rfl rfl cf_laws_markNodeS (markNodeS_ok hO2 hH17 hl0 hl2 (show (0 : Int) ≤ 1 ∧ (1 : Int) ≤ 1000000000000 by omega)) ?_; rintro _ w15 ⟨k', rfl, hk1, hk2, hH18⟩
  refine WL_v rfl (ov_assign rfl) ?_
  refine WL_nil ?_
  refine WT_seq ?_
  refine WT_region ?_
  refine WL_v rfl (ov_move rfl) ?_
  refine WL_v rfl (ov_move rfl) ?_
  refine WL_call rfl rfl cf_laws_markIntS (markIntS_ok hH18 (i := 2) rfl hC (show (0 : Int) ≤ k' ∧ k' ≤ 4611686018427387904 by omega) (by omega)) ?_; rintro _ w16 ⟨rfl, C3, hC3, hH19⟩
  refine WL_v rfl (ov_assign rfl) ?_
  refine WL_nil ?_
  refine WT_seq ?_
  refine WT_seq ?_
  refine WT_region ?_
  refine WL_v rfl (ov_move rfl) ?_
  refine WL_v rfl (ov_F (ov_lss rfl rfl) (decide_eq_false (by omega))) ?_
  refine WL_v rfl (ov_move rfl) ?_
  refine WL_guardOn rfl rfl ?_
  refine WL_v rfl (ov_move rfl) ?_
  refine WL_guardOn rfl rfl ?_
  refine WL_v rfl (ov_move rfl) ?_
  refine WL_guardOn rfl rfl ?_
  refine WL_call rfl rfl cf_laws_eqIntS (eqIntS_same hH19 (hG1.rdl (i := 0) rfl) (hW1.rdl (i := 3) rfl)) ?_; rintro _ w17 ⟨rfl, hH20⟩
  refine WL_guardOn rfl rfl ?_
  refine WL_v rfl (ov_F (ov_not rfl) rfl) ?_
  refine WL_v rfl (ov_pickF rfl rfl) ?_
  refine WL_v rfl (ov_move rfl) ?_
  refine WL_guardOn rfl rfl ?_
  refine WL_v rfl (ov_move rfl) ?_
  refine WL_guardOn rfl rfl ?_
  refine WL_v rfl (ov_move rfl) ?_
  refine WL_guardOn rfl rfl ?_
  refine WL_call rfl rfl cf_laws_eqIntS (eqIntS_same hH20 (hG2.rdl (i := 1) rfl) (hW2.rdl (i := 4) rfl)) ?_; rintro _ w18 ⟨rfl, hH21⟩
  refine WL_guardOn rfl rfl ?_
  refine WL_v rfl (ov_F (ov_not rfl) rfl) ?_
  refine WL_v rfl (ov_pickF rfl rfl) ?_
  refine WL_v rfl (ov_move rfl) ?_
  refine WL_guardOn rfl rfl ?_
  refine WL_v rfl (ov_move rfl) ?_
  refine WL_guardOn rfl rfl ?_
  refine WL_v rfl (ov_move rfl) ?_
  refine WL_guardOn rfl rfl ?_
  refine WL_v rfl (ov_F (ov_neqB rfl rfl Try.underlying4) (by simp)) ?_
  refine WL_v rfl (ov_pickF rfl rfl) ?_
  refine WL_nil ?_
  refine WT_condF rfl ?_
  refine WT_skip ?_
  refine WT_seq ?_
  refine WT_region ?_
  refine WL_v rfl (ov_assign rfl) ?_
  refine WL_nil ?_
  refine WT_seq ?_
  refine WT_region ?_
  refine WL_v rfl (ov_move rfl) ?_
  refine WL_v rfl (ov_move rfl) ?_
  refine WL_call rfl rfl cf_laws_markIntS (markIntS_ok hH21 (i := 0) rfl hG1 (show (0 : Int) ≤ 1 ∧ (1 : Int) ≤ 4611686018427387904 by omega) (by omega)) ?_; rintro _ w19 ⟨rfl, G3, hG3, hH22⟩
  refine WL_v rfl (ov_assign rfl) ?_
  refine WL_nil ?_
  refine WT_seq ?_
  refine WT_region ?_
  refine WL_v rfl (ov_move rfl) ?_
  refine WL_v rfl (ov_move rfl) ?_
  refine WL_call rfl rfl cf_laws_markIntS (markIntS_ok hH22 (i := 1) rfl hG2 (show (0 : Int) ≤ 1 + (doneCo p c a).length ∧ 1 + ((doneCo p c a).length : Int) ≤ 4611686018427387904 by omega) (by omega)) ?_; rintro _ w20 ⟨rfl, G4, hG4, hH23⟩
  refine WL_v rfl (ov_assign rfl) ?_
  refine WL_nil ?_
  refine WT_seq ?_
  refine WT_region ?_
  refine WL_v rfl (ov_assign rfl) ?_
  refine WL_nil ?_
  refine WT_seq ?_
  refine WT_region ?_
  refine WL_v rfl (ov_move rfl) ?_
  refine WL_v rfl (ov_move rfl) ?_
  refine WL_call rfl rfl cf_laws_heldIntS (heldIntS_ok hH23 (hG3.rdl (i := 0) rfl) (show (0 : Int) ≤ 1 ∧ (1 : Int) ≤ 4611686018427387904 by omega) (by omega)) ?_; rintro _ w21 ⟨rfl, hH24⟩
  refine WL_v rfl (ov_assign rfl) ?_
  refine WL_nil ?_
  refine WT_seq ?_
  refine WT_seq ?_
  refine WT_region ?_
  refine WL_v rfl (ov_move rfl) ?_
  refine WL_v rfl (ov_F (ov_lss rfl rfl) (decide_eq_false (by omega))) ?_
  refine WL_nil ?_
  refine WT_condF rfl ?_
  refine WT_skip ?_
  refine WT_seq ?_
  refine WT_region ?_
  refine WL_v rfl (ov_move rfl) ?_
  refine WL_v rfl (ov_move rfl) ?_
  refine WL_call rfl rfl cf_laws_heldIntS (heldIntS_ok hH24 (hG4.rdl (i := 1) rfl) (show (0 : Int) ≤ 1 + (doneCo p c a).length ∧ 1 + ((doneCo p c a).length : Int) ≤ 4611686018427387904 by omega) (by omega)) ?_; rintro _ w22 ⟨rfl, hH25⟩
  refine WL_v rfl (ov_assign rfl) ?_
  refine WL_nil ?_
  refine WT_seq ?_
  refine WT_seq ?_
  refine WT_region ?_
  refine WL_v rfl (ov_move rfl) ?_
  refine WL_v rfl (ov_F (ov_lss rfl rfl) (decide_eq_false (by omega))) ?_
  refine WL_nil ?_
  refine WT_condF rfl ?_
  refine WT_skip ?_
  refine WT_seq ?_
  refine WT_seq ?_
  refine WT_region ?_
  refine WL_v rfl (ov_move rfl) ?_
  refine WL_v rfl (ov_move rfl) ?_
  refine WL_v rfl (ov_F (ov_neq rfl rfl) (by simp)) ?_
  refine WL_nil ?_
  refine WT_condF rfl ?_
  refine WT_skip ?_
  refine WT_seq ?_
  refine WT_region ?_
  refine WL_v rfl (ov_move rfl) ?_
  refine WL_call rfl rfl cf_laws_toNodeS (toNodeS_ok hH25 (hP.mono hle1) hl1 hl2) ?_; rintro uv w23 ⟨O4, Is4, hO4, hH26⟩
  refine WL_v rfl (ov_move rfl) ?_
  obtain ⟨h4, hle4, hH27, hP4, _⟩ := hO4.freeze hH26
  refine WL_call rfl rfl cf_laws_toIntS (toIntS_ok hH27 (hL.mono (hle1.trans hle4)) hll) ?_; rintro c4v w24 ⟨C4, hC4, hH28⟩
  refine WL_v rfl (ov_move rfl) ?_
  refine WL_call rfl rfl cf_impl_CountsDone (countsDone_ok hH28 hP4 (hC4.rdl (i := 0) rfl) (by omega) a) ?_; rintro _ w25 ⟨G5, G6, gv5, gv6, rfl, hG5, hG6, hH29⟩
  refine WL_v rfl (ov_move rfl) ?_
  refine WL_v rfl (ov_extract rfl rfl) ?_
  refine WL_v rfl (ov_extract rfl rfl) ?_
  refine WL_v rfl (ov_extract rfl rfl) ?_
  refine WL_v rfl (ov_assign rfl) ?_
  refine WL_v rfl (ov_assign rfl) ?_
  refine WL_v rfl (ov_assign rfl) ?_
  refine WL_nil ?_
  refine WT_seq ?_
  refine WT_seq ?_
  refine WT_region ?_
  refine WL_v rfl (ov_move rfl) ?_
  refine WL_v rfl (ov_move rfl) ?_
  refine WL_call rfl rfl cf_laws_eqIntS (eqIntS_same hH29 (hG5.rdl (i := 0) rfl) (hW1.rdl (i := 6) rfl)) ?_; rintro _ w26 ⟨rfl, hH30⟩
  refine WL_v rfl (ov_F (ov_not rfl) rfl) ?_
  refine WL_v rfl (ov_move rfl) ?_
  refine WL_guardOn rfl rfl ?_
  refine WL_v rfl (ov_move rfl) ?_
  refine WL_guardOn rfl rfl ?_
  refine WL_v rfl (ov_move rfl) ?_
  refine WL_guardOn rfl rfl ?_
  refine WL_call rfl rfl cf_laws_eqIntS (eqIntS_same hH30 (hG6.rdl (i := 1) rfl) (hW2.rdl (i := 7) rfl)) ?_; rintro _ w27 ⟨rfl, hH31⟩
  refine WL_guardOn rfl rfl ?_
  refine WL_v rfl (ov_F (ov_not rfl) rfl) ?_
  refine WL_v rfl (ov_pickF rfl rfl) ?_
  refine WL_v rfl (ov_move rfl) ?_
  refine WL_guardOn rfl rfl ?_
  refine WL_v rfl (ov_move rfl) ?_
  refine WL_guardOn rfl rfl ?_
  refine WL_v rfl (ov_move rfl) ?_
  refine WL_guardOn rfl rfl ?_
  refine WL_v rfl (ov_F (ov_neqB rfl rfl Try.underlying4) (by simp)) ?_
  refine WL_v rfl (ov_pickF rfl rfl) ?_
  refine WL_nil ?_
  refine WT_condF rfl ?_
  refine WT_skip ?_
  refine WT_seq ?_
  refine WT_region ?_
  refine WL_v rfl (ov_assign rfl) ?_
  refine WL_nil ?_
  refine WT_seq ?_
  refine WT_region ?_
  refine WL_v rfl (ov_move rfl) ?_
  refine WL_v rfl (ov_move rfl) ?_
  refine WL_call rfl rfl cf_laws_heldIntS (heldIntS_ok hH31 (hG3.rdl (i := 3) rfl) (show (0 : Int) ≤ 1 ∧ (1 : Int) ≤ 4611686018427387904 by omega) (by omega)) ?_; rintro _ w28 ⟨rfl, hH32⟩
  refine WL_v rfl (ov_assign rfl) ?_
  refine WL_nil ?_
  refine WT_seq ?_
  refine WT_seq ?_
  refine WT_region ?_
  refine WL_v rfl (ov_move rfl) ?_
  refine WL_v rfl (ov_F (ov_lss rfl rfl) (decide_eq_false (by omega))) ?_
  refine WL_nil ?_
  refine WT_condF rfl ?_
  refine WT_skip ?_
  refine WT_seq ?_
  refine WT_region ?_
  refine WL_v rfl (ov_move rfl) ?_
  refine WL_v rfl (ov_move rfl) ?_
  refine WL_call rfl rfl cf_laws_heldIntS (heldIntS_ok hH32 (hG4.rdl (i := 4) rfl) (show (0 : Int) ≤ 1 + (doneCo p c a).length ∧ 1 + ((doneCo p c a).length : Int) ≤ 4611686018427387904 by omega) (by omega)) ?_; rintro _ w29 ⟨rfl, hH33⟩
  refine WL_v rfl (ov_assign rfl) ?_
  refine WL_nil ?_
  refine WT_seq ?_
  refine WT_seq ?_
  refine WT_region ?_
  refine WL_v rfl (ov_move rfl) ?_
  refine WL_v rfl (ov_F (ov_lss rfl rfl) (decide_eq_false (by omega))) ?_
  refine WL_nil ?_
  refine WT_condF rfl ?_
  refine WT_skip ?_
  refine WT_seq ?_
  refine WT_seq ?_
  refine WT_region ?_
  refine WL_v rfl (ov_move rfl) ?_
  refine WL_v rfl (ov_move rfl) ?_
  refine WL_v rfl (ov_F (ov_neq rfl rfl) (by simp)) ?_
  refine WL_nil ?_
  refine WT_condF rfl ?_
  refine WT_skip ?_
  refine WT_seq ?_
  refine WT_region ?_
  refine WL_v rfl (ov_assign rfl) ?_
  refine WL_nil ?_
  exact WT_ret1 Try.func14 Try.results14 rfl ⟨rfl, (H.drops [_, _, _, _, _, _, _, _, _] hH33).weak (hle1.trans hle4)⟩
end
end Go.Proofs.Ytmcedghgincaaaa
