/- The law FnExactBufferFits. -/
import Derived.Test.YtolmmncjeebghaaWkJ
import Derived.Test.YtolmmncjeebghaaWkK
import Derived.Test.YtolmmncjeebghaaWkY
namespace Go.Proofs.Ytolmmncjeebghaa
open Go.RowKit

section
variable {h : GH} {Ls : List Heaplet} {w : World}

theorem IRow.freeze {X : Heaplet} {e : TypeId} {v : Value} {xs : List Int} (hX : IRow X e v xs) (hH : H w h (X :: Ls)) :
    ∃ h', h.Le h' ∧ H w h' Ls ∧ Ints h' v xs ∧ ∀ {w2 Ls2}, H w2 h' Ls2 → H w2 h (X :: Ls2) := by
  obtain ⟨h', hle, hH2, hX2, hnd, _⟩ := H.freeze hH
  exact ⟨h', hle, hH2, hX.ints fun q hq => (hX2 q hq).1, fun hH3 => hH3.unfreeze hle hX2 hnd⟩

theorem fnExactBufferFits_walk (hH : H w h Ls) {pv lv : Value} {p : List Nd} {pl : List Int} (hP : Plan h pv p) (hL : Ints h lv pl) : Rets Try.prog 13 #[pv, lv] w fun v w' => v = .bool true ∧ H w' h Ls := by
  refine rets_enter Try.func13 rfl Try.ntmps13 (by simp) ?_
  refine WT_seq ?_
  refine WT_region ?_
  refine WL_v rfl (ov_assign rfl) ?_
  refine WL_nil ?_
  refine WT_seq ?_
  refine WT_seq ?_
  refine WT_region ?_
  refine WL_v rfl (ov_move rfl) ?_
  refine WL_v rfl (ov_len rfl hL.sl st_sl_int) ?_
  refine WL_v rfl (ov_gtr rfl rfl) ?_
  refine WL_nil ?_
  refine WT_cond rfl (fun hbig => ?_) (fun hbig => ?_)
  · skip
    first | with_reducible replace hbig := of_decide_eq_true hbig | with_reducible replace hbig := bn_T hbig | with_reducible replace hbig := bb_T hbig | skip
    refine WT_seq ?_
    refine WT_region ?_
    refine WL_v rfl (ov_assign rfl) ?_
    refine WL_nil ?_
    exact WT_ret1 Try.func13 Try.results13 rfl ⟨rfl, hH⟩
  first | with_reducible replace hbig := of_decide_eq_false hbig | with_reducible replace hbig := bn_F hbig | with_reducible replace hbig := bb_F hbig | skip
  have hll : pl.length ≤ 1048576 := by omega
  refine WT_skip ?_
  refine WT_seq ?_
  refine WT_region ?_
  refine WL_v rfl (ov_assign rfl) ?_
  refine WL_nil ?_
  refine WT_seq ?_
  refine WT_region ?_
  refine WL_v rfl (ov_move rfl) ?_
  refine WL_v rfl (ov_move rfl) ?_
  refine WL_call rfl rfl cf_laws_szNodeS (szNodeS_ok hH hP) ?_; rintro _ w1 ⟨s, rfl, hs, hH1⟩
  refine WL_v rfl (ov_assign rfl) ?_
  refine WL_nil ?_
  refine WT_seq ?_
  refine WT_seq ?_
  refine WT_region ?_
  refine WL_v rfl (ov_move rfl) ?_
  refine WL_v rfl (ov_lss rfl rfl) ?_
  refine WL_nil ?_
  refine WT_cond rfl (fun hneg => ?_) (fun hneg => ?_)
  · skip
    first | with_reducible replace hneg := of_decide_eq_true hneg | with_reducible replace hneg := bn_T hneg | with_reducible replace hneg := bb_T hneg | skip
    refine WT_seq ?_
    refine WT_region ?_
    refine WL_v rfl (ov_assign rfl) ?_
    refine WL_nil ?_
    exact WT_ret1 Try.func13 Try.results13 rfl ⟨rfl, hH1⟩
  first | with_reducible replace hneg := of_decide_eq_false hneg | with_reducible replace hneg := bn_F hneg | with_reducible replace hneg := bb_F hneg | skip
  obtain ⟨-, hl1, hl2⟩ := hs.resolve_left (by omega)
  refine WT_skip ?_
  refine WT_seq ?_
  refine WT_region ?_
  refine WL_v rfl (ov_move rfl) ?_
  refine WL_call rfl rfl cf_laws_toNodeS (toNodeS_ok hH1 hP hl1 hl2) ?_; rintro xv w2 ⟨O, Is, hO, hH2⟩
  refine WL_v rfl (ov_move rfl) ?_
  obtain ⟨h1, hle1, hH3, hP1, _⟩ := hO.freeze hH2
  refine WL_call rfl rfl cf_laws_toIntS (toIntS_ok hH3 (hL.mono hle1) hll) ?_; rintro yv w4 ⟨X, hX, hH4⟩
  obtain ⟨h2, hle2, hH5, hX1, _⟩ := hX.freeze hH4
  refine WL_call rfl rfl cf_spec_BufferFits (sBufferFits_ok hH5 (hP1.mono hle2) hX1 (by omega)) ?_; rintro _ w6 ⟨rfl, hH6⟩
  refine WL_v rfl (ov_assign rfl) ?_
  refine WL_nil ?_
  refine WT_seq ?_
  refine WT_region ?_
  refine WL_v rfl (ov_move rfl) ?_
  refine WL_call rfl rfl cf_laws_toNodeS (toNodeS_ok hH6 (hP.mono (hle1.trans hle2)) hl1 hl2) ?_; rintro xv2 w7 ⟨O2, Is2, hO2, hH7⟩
  refine WL_v rfl (ov_assign rfl) ?_
  refine WL_nil ?_
  refine WT_seq ?_
  refine WT_region ?_
  refine WL_v rfl (ov_move rfl) ?_
  obtain ⟨h3, hle3, hH8, hP2, _⟩ := hO2.freeze hH7
  have hle13 := hle1.trans (hle2.trans hle3)
  refine WL_call rfl rfl cf_laws_toIntS (toIntS_ok hH8 (hL.mono hle13) hll) ?_; rintro yv2 w9 ⟨X2, hX2, hH9⟩
  refine WL_v rfl (ov_assign rfl) ?_
  refine WL_nil ?_
  refine WT_seq ?_
  refine WT_region ?_
  refine WL_v rfl (ov_move rfl) ?_
  refine WL_v rfl (ov_move rfl) ?_
  obtain ⟨h4, hle4, hH10, hX3, _⟩ := hX2.freeze hH9
  refine WL_call rfl rfl cf_impl_BufferFits (bufferFits_ok hH10 (hP2.mono hle4) hX3) ?_; rintro _ w11 ⟨rfl, hH11⟩
  refine WL_v rfl (ov_assign rfl) ?_
  refine WL_nil ?_
  refine WT_seq ?_
  refine WT_seq ?_
  refine WT_region ?_
  refine WL_v rfl (ov_move rfl) ?_
  refine WL_v rfl (ov_move rfl) ?_
  refine WL_v rfl (ov_F (ov_neqB rfl rfl Try.underlying4) (by simp)) ?_
  refine WL_nil ?_
  refine WT_condF rfl ?_
  refine WT_skip ?_
  refine WT_seq ?_
  refine WT_seq ?_
  refine WT_region ?_
  refine WL_v rfl (ov_move rfl) ?_
  refine WL_v rfl (ov_move rfl) ?_
  refine WL_call rfl rfl cf_laws_toNodeS (toNodeS_ok hH11 (hP.mono (hle13.trans hle4)) hl1 hl2) ?_; rintro zv w12 ⟨O3, Is3, hO3, hH12⟩
  obtain ⟨h5, hle5, hH13, hP3, _⟩ := hO3.freeze hH12
  refine WL_call rfl rfl cf_laws_eqNodeS (eqNodeS_ok hH13 (hP2.mono (hle4.trans hle5)) hP3) ?_; rintro _ w14 ⟨rfl, hH14⟩
  refine WL_v rfl (ov_F (ov_not rfl) (by first | exact decide_eq_false rfl | exact nb_F rfl | exact mb_F rfl | exact rfl | (simp only [decide_eq_false_iff_not]; omega) | simpa using rfl)) ?_
  refine WL_nil ?_
  refine WT_condF rfl ?_
  have hle15 := hle13.trans (hle4.trans hle5)
  refine WT_skip ?_
  refine WT_seq ?_
  refine WT_seq ?_
  refine WT_region ?_
  refine WL_v rfl (ov_move rfl) ?_
  refine WL_v rfl (ov_move rfl) ?_
  refine WL_call rfl rfl cf_laws_toIntS (toIntS_ok hH14 (hL.mono hle15) hll) ?_; rintro zv2 w15 ⟨X4, hX4, hH15⟩
  obtain ⟨h6, hle6, hH16, hX5, _⟩ := hX4.freeze hH15
  refine WL_call rfl rfl cf_laws_eqIntS (eqIntS_ok hH16 ((hX3.mono (hle5.trans hle6)).rdl _) (hX5.rdl _)) ?_; rintro _ w17 ⟨rfl, hH17⟩
  refine WL_v rfl (ov_F (ov_not rfl) (by first | exact decide_eq_false rfl | exact nb_F rfl | exact mb_F rfl | exact rfl | (simp only [decide_eq_false_iff_not]; omega) | simpa using rfl)) ?_
  refine WL_nil ?_
  refine WT_condF rfl ?_
  refine WT_skip ?_
  refine WT_seq ?_
  refine WT_region ?_
  refine WL_v rfl (ov_assign rfl) ?_
  refine WL_nil ?_
  exact WT_ret1 Try.func13 Try.results13 rfl ⟨rfl, hH17.weak (hle15.trans hle6)⟩
end
end Go.Proofs.Ytolmmncjeebghaa
