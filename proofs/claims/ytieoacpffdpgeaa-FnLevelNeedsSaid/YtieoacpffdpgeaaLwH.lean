/- The laws on a node's level. -/
import Derived.Test.YtieoacpffdpgeaaWkU
import Derived.Test.YtieoacpffdpgeaaWkV
import Derived.Test.YtieoacpffdpgeaaSlF
namespace Go.Proofs.Ytieoacpffdpgeaa
open Go.RowKit

section
variable {h : GH} {Ls : List Heaplet} {w : World}

theorem drawLevelOf_ok (hH : H w h Ls) {cv : Value} {bs : List Int} (hB : Bytes h cv bs) : Rets Try.prog 20 #[cv] w (DrewAt h Ls) := by
  refine rets_enter Try.func20 rfl Try.ntmps20 (by simp) ?_
  refine WT_seq ?_
  refine WT_region ?_
  refine WL_v rfl (ov_assign rfl) ?_
  refine WL_v rfl (ov_assign rfl) ?_
  refine WL_nil ?_
  refine WT_seq ?_
  refine WT_region ?_
  refine WL_v rfl (ov_move rfl) ?_
  refine WL_call rfl rfl cf_spec_l6Open (l6Open_ok hH hB) ?_; rintro _ w1 ⟨g, bv, bs', rfl, hB', hH1⟩
  refine WL_call rfl rfl cf_spec_l91At (l91At_ok hH1 hB' (by omega)) ?_; rintro _ w2 ⟨pv, p, O, Is, p', a, rfl, ha1, ha2, hO, hl, hp', hH2⟩
  refine WL_v rfl (ov_extract rfl rfl) ?_
  refine WL_v rfl (ov_extract rfl rfl) ?_
  refine WL_v rfl (ov_assign rfl) ?_
  refine WL_v rfl (ov_assign rfl) ?_
  refine WL_nil ?_
  exact WT_ret2 Try.func20 Try.results20 rfl rfl ⟨pv, a, rfl, ha1, ha2, drew_of hO hl hH2⟩

/-- The greatest of some, or -1. -/
def topM (ps l : List Int) : Int := l.foldl (fun n f => max n (ps.getD f.toNat 0)) (-1)
theorem topM_snoc (ps l : List Int) (f : Int) : topM ps (l ++ [f]) = max (topM ps l) (ps.getD f.toNat 0) := by simp [topM]
theorem upOf_topM (ps l : List Int) : upOf 1 ps l = topM ps l + 1 := by
  unfold upOf topM
  have key : ∀ (l : List Int) (a : Int), l.foldl (fun n f => max n (ps.getD f.toNat 0 + 1)) (a + 1) = l.foldl (fun n f => max n (ps.getD f.toNat 0)) a + 1 := by
    intro l
    induction l with
    | nil => intro a; rfl
    | cons f l ih =>
      intro a
      simp only [List.foldl_cons]
      rw [show max (a + 1) (ps.getD f.toNat 0 + 1) = max a (ps.getD f.toNat 0) + 1 by omega]
      exact ih _
  exact key l (-1)

theorem level_valid {p : List Nd} {a : Int} (h : ¬ levelOf p a < 0) : planOk p = true ∧ 0 ≤ a ∧ a < (p.length : Int) := by
  unfold levelOf at h
  by_cases hc : planOk p = true ∧ 0 ≤ a ∧ a < (p.length : Int)
  · exact hc
  · rw [if_neg hc] at h; exact absurd (by decide) h
theorem levelOf_rg (p : List Nd) (a : Int) : -1 ≤ levelOf p a ∧ levelOf p a ≤ p.length := by
  unfold levelOf
  split
  · rcases getD_mem_or (levelsTo p p.length) a.toNat with h | h
    · omega
    · have := levelsTo_rg p p.length _ h; omega
  · omega

theorem fnExactLevelOf_walk (hH : H w h Ls) {pv : Value} {p : List Nd} (hP : Plan h pv p) {m : Int} (_hm : I64 m) : Rets Try.prog 3 #[pv, .int .i64 m] w fun v w' => v = .bool true ∧ H w' h Ls := by
  refine rets_enter Try.func3 rfl Try.ntmps3 (by simp) ?_
  refine WT_seq ?_
  refine WT_region ?_
  refine WL_v rfl (ov_assign rfl) ?_
  refine WL_nil ?_
  refine WT_seq ?_
  refine WT_region ?_
  refine WL_v rfl (ov_assign rfl) ?_
  refine WL_nil ?_
  refine WT_seq ?_
  refine WT_region ?_
  refine WL_v rfl (ov_move rfl) ?_
  refine WL_v rfl (ov_move rfl) ?_
  refine WL_call rfl rfl cf_laws_szNodeS (szNodeS_ok hH hP) ?_; rintro _ w1 ⟨s, rfl, hs, hH1⟩
  refine WL_v rfl (ov_assign rfl) ?_
  refine WL_nil ?_
  refine WT_seq ?_
  refine WT_seq ?_
  refine WT_region ?_
  refine WL_v rfl (ov_move rfl) ?_
  refine WL_v rfl (ov_lss rfl rfl) ?_
  refine WL_nil ?_
  refine WT_cond rfl (fun hneg => ?_) (fun hneg => ?_)
  · skip
    first | with_reducible replace hneg := of_decide_eq_true hneg | with_reducible replace hneg := bn_T hneg | with_reducible replace hneg := bb_T hneg | skip
    refine WT_seq ?_
    refine WT_region ?_
    refine WL_v rfl (ov_assign rfl) ?_
    refine WL_nil ?_
    exact WT_ret1 Try.func3 Try.results3 rfl ⟨rfl, hH1⟩
  first | with_reducible replace hneg := of_decide_eq_false hneg | with_reducible replace hneg := bn_F hneg | with_reducible replace hneg := bb_F hneg | skip
  obtain ⟨-, hl1, hl2⟩ := hs.resolve_left (by omega)
  refine WT_skip ?_
  refine WT_seq ?_
  refine WT_region ?_
  refine WL_v rfl (ov_move rfl) ?_
  refine WL_call rfl rfl cf_laws_toNodeS (toNodeS_ok hH1 hP hl1 hl2) ?_; rintro xv w2 ⟨O, Is, hO, hH2⟩
  refine WL_v rfl (ov_move rfl) ?_
  obtain ⟨h1, hle1, hH3, hP1, _⟩ := hO.freeze hH2
  refine WL_call rfl rfl cf_spec_LevelOf (sLevelOf_ok hH3 hP1 (by omega) m) ?_; rintro _ w4 ⟨rfl, hH4⟩
  refine WL_v rfl (ov_assign rfl) ?_
  refine WL_nil ?_
  refine WT_seq ?_
  refine WT_region ?_
  refine WL_v rfl (ov_move rfl) ?_
  refine WL_call rfl rfl cf_laws_toNodeS (toNodeS_ok hH4 (hP.mono hle1) hl1 hl2) ?_; rintro yv w5 ⟨O2, Is2, hO2, hH5⟩
  refine WL_v rfl (ov_assign rfl) ?_
  refine WL_nil ?_
  refine WT_seq ?_
  refine WT_region ?_
  refine WL_v rfl (ov_move rfl) ?_
  refine WL_v rfl (ov_move rfl) ?_
  obtain ⟨h2, hle2, hH6, hP2, _⟩ := hO2.freeze hH5
  refine WL_call rfl rfl cf_impl_LevelOf (levelOf_ok hH6 hP2 m) ?_; rintro _ w7 ⟨rfl, hH7⟩
  refine WL_v rfl (ov_assign rfl) ?_
  refine WL_nil ?_
  refine WT_seq ?_
  refine WT_seq ?_
  refine WT_region ?_
  refine WL_v rfl (ov_move rfl) ?_
  refine WL_v rfl (ov_move rfl) ?_
  refine WL_v rfl (ov_F (ov_neq rfl rfl) (by first | exact decide_eq_false rfl | exact nb_F rfl | exact mb_F rfl | exact rfl | (simp only [decide_eq_false_iff_not]; omega) | simpa using rfl)) ?_
  refine WL_nil ?_
  refine WT_condF rfl ?_
  refine WT_skip ?_
  refine WT_seq ?_
  refine WT_seq ?_
  refine WT_region ?_
  refine WL_v rfl (ov_move rfl) ?_
  refine WL_v rfl (ov_move rfl) ?_
  refine WL_call rfl rfl cf_laws_toNodeS (toNodeS_ok hH7 (hP.mono (hle1.trans hle2)) hl1 hl2) ?_; rintro zv w8 ⟨O3, Is3, hO3, hH8⟩
  obtain ⟨h3, hle3, hH9, hP3, _⟩ := hO3.freeze hH8
  refine WL_call rfl rfl cf_laws_eqNodeS (eqNodeS_ok hH9 (hP2.mono hle3) hP3) ?_; rintro _ w10 ⟨rfl, hH10⟩
  refine WL_v rfl (ov_F (ov_not rfl) (by first | exact decide_eq_false rfl | exact nb_F rfl | exact mb_F rfl | exact rfl | (simp only [decide_eq_false_iff_not]; omega) | simpa using rfl)) ?_
  refine WL_nil ?_
  refine WT_condF rfl ?_
  refine WT_skip ?_
  refine WT_seq ?_
  refine WT_region ?_
  refine WL_v rfl (ov_assign rfl) ?_
  refine WL_nil ?_
  exact WT_ret1 Try.func3 Try.results3 rfl ⟨rfl, hH10.weak (hle1.trans (hle2.trans hle3))⟩
end
end Go.Proofs.Ytieoacpffdpgeaa
