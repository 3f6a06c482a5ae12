/- The law FnExactBufferMost. -/
import Derived.Test.YtolmmncjeebghaaWkI
import Derived.Test.YtolmmncjeebghaaWkY
namespace Go.Proofs.Ytolmmncjeebghaa
open Go.RowKit

section
variable {h : GH} {Ls : List Heaplet} {w : World}

theorem fnExactBufferMost_walk (hH : H w h Ls) {pv : Value} {p : List Nd} (hP : Plan h pv p) : Rets Try.prog 14 #[pv] w fun v w' => v = .bool true ∧ H w' h Ls := by
  refine rets_enter Try.func14 rfl Try.ntmps14 (by simp) ?_
  refine WT_seq ?_
  refine WT_region ?_
  refine WL_v rfl (ov_assign rfl) ?_
  refine WL_nil ?_
  refine WT_seq ?_
  refine WT_region ?_
  refine WL_v rfl (ov_assign rfl) ?_
  refine WL_nil ?_
  refine WT_seq ?_
  refine WT_region ?_
  refine WL_v rfl (ov_move rfl) ?_
  refine WL_v rfl (ov_move rfl) ?_
  refine WL_call rfl rfl cf_laws_szNodeS (szNodeS_ok hH hP) ?_; rintro _ w1 ⟨s, rfl, hs, hH1⟩
  refine WL_v rfl (ov_assign rfl) ?_
  refine WL_nil ?_
  refine WT_seq ?_
  refine WT_seq ?_
  refine WT_region ?_
  refine WL_v rfl (ov_move rfl) ?_
  refine WL_v rfl (ov_lss rfl rfl) ?_
  refine WL_nil ?_
  refine WT_cond rfl (fun hneg => ?_) (fun hneg => ?_)
  · skip
    first | with_reducible replace hneg := of_decide_eq_true hneg | with_reducible replace hneg := bn_T hneg | with_reducible replace hneg := bb_T hneg | skip
    refine WT_seq ?_
    refine WT_region ?_
    refine WL_v rfl (ov_assign rfl) ?_
    refine WL_nil ?_
    exact WT_ret1 Try.func14 Try.results14 rfl ⟨rfl, hH1⟩
  first | with_reducible replace hneg := of_decide_eq_false hneg | with_reducible replace hneg := bn_F hneg | with_reducible replace hneg := bb_F hneg | skip
  obtain ⟨-, hl1, hl2⟩ := hs.resolve_left (by omega)
  refine WT_skip ?_
  refine WT_seq ?_
  refine WT_region ?_
  refine WL_v rfl (ov_move rfl) ?_
  refine WL_call rfl rfl cf_laws_toNodeS (toNodeS_ok hH1 hP hl1 hl2) ?_; rintro xv w2 ⟨O, Is, hO, hH2⟩
  obtain ⟨h1, hle1, hH3, hP1, _⟩ := hO.freeze hH2
  refine WL_call rfl rfl cf_spec_BufferMost (sBufferMost_ok hH3 hP1 (by omega)) ?_; rintro _ w4 ⟨rfl, hH4⟩
  refine WL_v rfl (ov_assign rfl) ?_
  refine WL_nil ?_
  refine WT_seq ?_
  refine WT_region ?_
  refine WL_v rfl (ov_move rfl) ?_
  refine WL_call rfl rfl cf_laws_toNodeS (toNodeS_ok hH4 (hP.mono hle1) hl1 hl2) ?_; rintro yv w5 ⟨O2, Is2, hO2, hH5⟩
  refine WL_v rfl (ov_assign rfl) ?_
  refine WL_nil ?_
  refine WT_seq ?_
  refine WT_region ?_
  refine WL_v rfl (ov_move rfl) ?_
  obtain ⟨h2, hle2, hH6, hP2, _⟩ := hO2.freeze hH5
  refine WL_call rfl rfl cf_impl_BufferMost (bufferMost_ok hH6 hP2) ?_; rintro _ w7 ⟨rfl, hH7⟩
  refine WL_v rfl (ov_assign rfl) ?_
  refine WL_nil ?_
  refine WT_seq ?_
  refine WT_seq ?_
  refine WT_region ?_
  refine WL_v rfl (ov_move rfl) ?_
  refine WL_v rfl (ov_move rfl) ?_
  refine WL_v rfl (ov_F (ov_neq rfl rfl) (by first | exact decide_eq_false rfl | exact nb_F rfl | exact mb_F rfl | exact rfl | (simp only [decide_eq_false_iff_not]; omega) | simpa using rfl)) ?_
  refine WL_nil ?_
  refine WT_condF rfl ?_
  refine WT_skip ?_
  refine WT_seq ?_
  refine WT_seq ?_
  refine WT_region ?_
  refine WL_v rfl (ov_move rfl) ?_
  refine WL_v rfl (ov_move rfl) ?_
  refine WL_call rfl rfl cf_laws_toNodeS (toNodeS_ok hH7 (hP.mono (hle1.trans hle2)) hl1 hl2) ?_; rintro zv w8 ⟨O3, Is3, hO3, hH8⟩
  obtain ⟨h3, hle3, hH9, hP3, _⟩ := hO3.freeze hH8
  refine WL_call rfl rfl cf_laws_eqNodeS (eqNodeS_ok hH9 (hP2.mono hle3) hP3) ?_; rintro _ w10 ⟨rfl, hH10⟩
  refine WL_v rfl (ov_F (ov_not rfl) (by first | exact decide_eq_false rfl | exact nb_F rfl | exact mb_F rfl | exact rfl | (simp only [decide_eq_false_iff_not]; omega) | simpa using rfl)) ?_
  refine WL_nil ?_
  refine WT_condF rfl ?_
  refine WT_skip ?_
  refine WT_seq ?_
  refine WT_region ?_
  refine WL_v rfl (ov_assign rfl) ?_
  refine WL_nil ?_
  exact WT_ret1 Try.func14 Try.results14 rfl ⟨rfl, hH10.weak (hle1.trans (hle2.trans hle3))⟩
end
end Go.Proofs.Ytolmmncjeebghaa
