/- The laws FoldEnds and CostFold: their walks. -/
import Derived.Test.YtafljegjdanldaaBi4
namespace Go.Proofs.Ytafljegjdanldaa
open Go.RowKit

section
variable {h : GH} {Ls : List Heaplet} {w : World}

/-- A drawn plan and a number. -/
def DrewF (h : GH) (Ls : List Heaplet) (v : Value) (w' : World) : Prop := ∃ pv a, v = .tuple #[pv, .int .i64 a] ∧ -1 ≤ a ∧ a ≤ 11 ∧ Drew h Ls pv w'
theorem drawFoldNode_ok (hH : H w h Ls) {cv : Value} {bs : List Int} (hB : Bytes h cv bs) : Rets Try.prog 30 #[cv] w (DrewF h Ls) := by
  refine rets_enter Try.func30 rfl Try.ntmps30 (by simp) ?_
  refine WT_seq ?_
  refine WT_region ?_
  refine WL_v rfl (ov_assign rfl) ?_
  refine WL_v rfl (ov_assign rfl) ?_
  refine WL_nil ?_
  refine WT_seq ?_
  refine WT_region ?_
  refine WL_v rfl (ov_move rfl) ?_
  refine WL_call rfl rfl cf_spec_l6Open (l6Open_ok hH hB) ?_; rintro _ w1 ⟨g, bv, bs', rfl, hB', hH1⟩
  refine WL_call rfl rfl cf_spec_l91At (l91At_ok hH1 hB' (by omega)) ?_; rintro _ w2 ⟨pv, p, O, Is, p', a, rfl, ha1, ha2, hO, hl, hp', hH2⟩
  refine WL_v rfl (ov_extract rfl rfl) ?_
  refine WL_v rfl (ov_extract rfl rfl) ?_
  refine WL_v rfl (ov_assign rfl) ?_
  refine WL_v rfl (ov_assign rfl) ?_
  refine WL_nil ?_
  exact WT_ret2 Try.func30 Try.results30 rfl rfl ⟨pv, a, rfl, ha1, ha2, drew_of hO hl hH2⟩
theorem plan_nil (h : GH) : Plan h (.slice none 0 0) [] := (⟨rfl, [], Row.nil _ _, fun i hi => by simp at hi⟩ : OPlan [] [] (.slice none 0 0) []).plan (by simp)

theorem fnFoldEnds_walk (hH : H w h Ls) {cv : Value} {bs : List Int} (hB : Bytes h cv bs) : Rets Try.prog 10 #[cv] w fun v w' => v = .bool true ∧ H w' h Ls := by
  refine rets_enter Try.func10 rfl Try.ntmps10 (by simp) ?_
  refine WT_seq ?_
  refine WT_region ?_
  refine WL_v rfl (ov_assign rfl) ?_
  refine WL_nil ?_
  refine WT_seq ?_
  refine WT_seq ?_
  refine WT_region ?_
  refine WL_v rfl (ov_move rfl) ?_
  refine WL_v rfl (ov_len rfl hB.sl st_sl_uint8) ?_
  refine WL_v rfl (ov_gtr rfl rfl) ?_
  refine WL_nil ?_
  refine WT_cond rfl (fun hl => ?_) (fun hl => ?_)
  · skip
    first | with_reducible replace hl := of_decide_eq_true hl | with_reducible replace hl := bn_T hl | with_reducible replace hl := bb_T hl | skip
    refine WT_seq ?_
    refine WT_region ?_
    refine WL_v rfl (ov_assign rfl) ?_
    refine WL_nil ?_
    exact WT_ret1 Try.func10 Try.results10 rfl ⟨rfl, hH⟩
  first | with_reducible replace hl := of_decide_eq_false hl | with_reducible replace hl := bn_F hl | with_reducible replace hl := bb_F hl | skip
  refine WT_skip ?_
  refine WT_seq ?_
  refine WT_region ?_
  refine WL_v rfl (ov_move rfl) ?_
  refine WL_call rfl rfl cf_spec_DrawFoldNode (drawFoldNode_ok hH hB) ?_; rintro _ w1 ⟨pv, a, rfl, ha1, ha2, h', p, hle, hP, hpl, hH1⟩
  refine WL_v rfl (ov_move rfl) ?_
  refine WL_v rfl (ov_extract rfl rfl) ?_
  refine WL_v rfl (ov_extract rfl rfl) ?_
  refine WL_v rfl (ov_assign rfl) ?_
  refine WL_v rfl (ov_assign rfl) ?_
  refine WL_nil ?_
  refine WT_seq ?_
  refine WT_region ?_
  refine WL_v rfl (ov_move rfl) ?_
  refine WL_v rfl (ov_move rfl) ?_
  by_cases hb : planOk p = true ∧ 0 ≤ a ∧ a < (p.length : Int)
  case neg =>
    refine WL_call rfl rfl cf_impl_FoldNode (foldNode_no hH1 hP hb) ?_; rintro _ w2 ⟨rfl, hH2⟩
    refine WL_v rfl (ov_move rfl) ?_
    refine WL_v rfl (ov_extract rfl rfl) ?_
    refine WL_v rfl (ov_extract rfl rfl) ?_
    refine WL_v rfl (ov_assign rfl) ?_
    refine WL_v rfl (ov_assign rfl) ?_
    refine WL_nil ?_
    refine WT_seq ?_
    refine WT_region ?_
    refine WL_v rfl (ov_move rfl) ?_
    refine WL_v rfl (ov_move rfl) ?_
    refine WL_call rfl rfl cf_spec_FoldNode (sFoldNode_no hH2 hP (by omega) (by omega) hb) ?_; rintro _ w3 ⟨ov, O, rfl, hO, hH3⟩; obtain ⟨h1, hle1, hH4, hP1, _⟩ := hO.freeze (Ls := Ls) hH3
    refine WL_v rfl (ov_move rfl) ?_
    refine WL_v rfl (ov_extract rfl rfl) ?_
    refine WL_v rfl (ov_extract rfl rfl) ?_
    refine WL_v rfl (ov_assign rfl) ?_
    refine WL_v rfl (ov_assign rfl) ?_
    refine WL_nil ?_
    refine WT_seq ?_
    refine WT_seq ?_
    refine WT_region ?_
    refine WL_v rfl (ov_move rfl) ?_
    refine WL_v rfl (ov_move rfl) ?_
    refine WL_v rfl (ov_F (ov_neqB rfl rfl Try.underlying4) (by simp)) ?_
    refine WL_v rfl (ov_move rfl) ?_
    refine WL_guardOn rfl rfl ?_
    refine WL_v rfl (ov_move rfl) ?_
    refine WL_guardOn rfl rfl ?_
    refine WL_v rfl (ov_move rfl) ?_
    refine WL_guardOn rfl rfl ?_
    refine WL_call rfl rfl cf_laws_samePlan (samePlan_one hH4 (plan_nil _) hP1) ?_; rintro _ w4 ⟨rfl, hH5⟩
    refine WL_guardOn rfl rfl ?_
    refine WL_v rfl (ov_F (ov_not rfl) (by first | exact decide_eq_false rfl | exact nb_F rfl | exact mb_F rfl | exact rfl | (simp only [decide_eq_false_iff_not]; omega) | simpa using rfl)) ?_
    refine WL_v rfl (ov_pickF rfl rfl) ?_
    refine WL_v rfl (ov_move rfl) ?_
    refine WL_guardOn rfl rfl ?_
    refine WL_v rfl (ov_move rfl) ?_
    refine WL_guardOn rfl rfl ?_
    refine WL_v rfl (ov_T (ov_not rfl) (by first | exact decide_eq_true rfl | exact nb_T rfl | exact mb_T rfl | exact rfl | (simp only [decide_eq_true_eq]; omega) | simpa using rfl)) ?_
    refine WL_v rfl (ov_pickF rfl rfl) ?_
    refine WL_nil ?_
    refine WT_condT rfl ?_
    refine WT_seq ?_
    refine WT_region ?_
    refine WL_v rfl (ov_move rfl) ?_
    refine WL_v rfl (ov_move rfl) ?_
    refine WL_v rfl (ov_T (ov_eqlB rfl rfl Try.underlying4) (by simp)) ?_
    refine WL_v rfl (ov_move rfl) ?_
    refine WL_guardOn rfl rfl ?_
    refine WL_v rfl (ov_move rfl) ?_
    refine WL_guardOn rfl rfl ?_
    refine WL_v rfl (ov_move rfl) ?_
    refine WL_guardOn rfl rfl ?_
    refine WL_call rfl rfl cf_laws_samePlan (samePlan_one hH5 (plan_nil _) hP1) ?_; rintro _ w5 ⟨rfl, hH6⟩
    refine WL_v rfl (ov_pickT rfl rfl) ?_
    refine WL_v rfl (ov_assign rfl) ?_
    refine WL_nil ?_
    exact WT_ret1 Try.func10 Try.results10 rfl ⟨rfl, hH6.weak (hle.trans hle1)⟩
  obtain ⟨hv, ha3, ha4⟩ := hb
  obtain ⟨k, rfl⟩ := Int.eq_ofNat_of_zero_le ha3
  have hk : k < p.length := by omega
  have hue : usesOf (foldP p k) (k : Int) = usesOf p (k : Int) := by
    unfold usesOf
    rw [if_pos ⟨fold_ok hv hk, ha3, by rw [foldP_len]; exact ha4⟩, if_pos ⟨hv, ha3, ha4⟩, Int.toNat_natCast, fold_users hv hk]
  have hle0 : levelOf (foldP p k) (k : Int) = 0 := by
    unfold levelOf
    rw [if_pos ⟨fold_ok hv hk, ha3, by rw [foldP_len]; exact ha4⟩, Int.toNat_natCast, fold_level hk]
  refine WL_call rfl rfl cf_impl_FoldNode (foldNode_yes hH1 hP hv hk) ?_; rintro _ w2 ⟨ov, O, Is, rfl, hO, hH2⟩; obtain ⟨h1, hle1, hH3, hP1, _⟩ := hO.freeze hH2
  refine WL_v rfl (ov_move rfl) ?_
  refine WL_v rfl (ov_extract rfl rfl) ?_
  refine WL_v rfl (ov_extract rfl rfl) ?_
  refine WL_v rfl (ov_assign rfl) ?_
  refine WL_v rfl (ov_assign rfl) ?_
  refine WL_nil ?_
  refine WT_seq ?_
  refine WT_region ?_
  refine WL_v rfl (ov_move rfl) ?_
  refine WL_v rfl (ov_move rfl) ?_
  refine WL_call rfl rfl cf_spec_FoldNode (sFoldNode_yes hH3 (hP.mono hle1) hv hk) ?_; rintro _ w3 ⟨ov2, O2, Is2, rfl, hO2, hH4⟩; obtain ⟨h2, hle2, hH5, hP2, _⟩ := hO2.freeze hH4
  refine WL_v rfl (ov_move rfl) ?_
  refine WL_v rfl (ov_extract rfl rfl) ?_
  refine WL_v rfl (ov_extract rfl rfl) ?_
  refine WL_v rfl (ov_assign rfl) ?_
  refine WL_v rfl (ov_assign rfl) ?_
  refine WL_nil ?_
  refine WT_seq ?_
  refine WT_seq ?_
  refine WT_region ?_
  refine WL_v rfl (ov_move rfl) ?_
  refine WL_v rfl (ov_move rfl) ?_
  refine WL_v rfl (ov_F (ov_neqB rfl rfl Try.underlying4) (by simp)) ?_
  refine WL_v rfl (ov_move rfl) ?_
  refine WL_guardOn rfl rfl ?_
  refine WL_v rfl (ov_move rfl) ?_
  refine WL_guardOn rfl rfl ?_
  refine WL_v rfl (ov_move rfl) ?_
  refine WL_guardOn rfl rfl ?_
  refine WL_call rfl rfl cf_laws_samePlan (samePlan_one hH5 (hP1.mono hle2) hP2) ?_; rintro _ w4 ⟨rfl, hH6⟩
  refine WL_guardOn rfl rfl ?_
  refine WL_v rfl (ov_F (ov_not rfl) (by first | exact decide_eq_false rfl | exact nb_F rfl | exact mb_F rfl | exact rfl | (simp only [decide_eq_false_iff_not]; omega) | simpa using rfl)) ?_
  refine WL_v rfl (ov_pickF rfl rfl) ?_
  refine WL_v rfl (ov_move rfl) ?_
  refine WL_guardOn rfl rfl ?_
  refine WL_v rfl (ov_move rfl) ?_
  refine WL_guardOn rfl rfl ?_
  refine WL_v rfl (ov_F (ov_not rfl) (by first | exact decide_eq_false rfl | exact nb_F rfl | exact mb_F rfl | exact rfl | (simp only [decide_eq_false_iff_not]; omega) | simpa using rfl)) ?_
  refine WL_v rfl (ov_pickF rfl rfl) ?_
  refine WL_nil ?_
  refine WT_condF rfl ?_
  refine WT_skip ?_
  refine WT_seq ?_
  refine WT_region ?_
  refine WL_v rfl (ov_move rfl) ?_
  refine WL_v rfl (ov_move rfl) ?_
  refine WL_call rfl rfl cf_impl_PlanUses (planUses_ok hH6 (hP1.mono hle2) (k : Int)) ?_; rintro uv1 w5 ⟨X, hX, hH7⟩; rw [hue] at hX
  refine WL_v rfl (ov_move rfl) ?_
  refine WL_v rfl (ov_move rfl) ?_
  refine WL_call rfl rfl cf_impl_PlanUses (planUses_ok hH7 ((hP.mono hle1).mono hle2) (k : Int)) ?_; rintro uv2 w6 ⟨Y, hY, hH8⟩
  refine WL_call rfl rfl cf_laws_sameRow (sameRow_one hH8 (hX.rdl (i := 1) rfl) (hY.rdl (i := 0) rfl)) ?_; rintro _ w7 ⟨rfl, hH9⟩
  refine WL_v rfl (ov_move rfl) ?_
  refine WL_guardOn rfl rfl ?_
  refine WL_v rfl (ov_move rfl) ?_
  refine WL_guardOn rfl rfl ?_
  refine WL_v rfl (ov_move rfl) ?_
  refine WL_guardOn rfl rfl ?_
  refine WL_call rfl rfl cf_impl_LevelOf (levelOf_ok hH9 (hP1.mono hle2) (k : Int)) ?_; rintro _ w8 ⟨rfl, hH10⟩
  refine WL_guardOn rfl rfl ?_
  refine WL_v rfl (ov_T (ov_eql rfl rfl) (decide_eq_true hle0)) ?_
  refine WL_v rfl (ov_pickT rfl rfl) ?_
  refine WL_v rfl (ov_assign rfl) ?_
  refine WL_nil ?_
  exact WT_ret1 Try.func10 Try.results10 rfl ⟨rfl, hH10.drop.drop.weak (hle.trans (hle1.trans hle2))⟩

theorem fnCostFold_walk (hH : H w h Ls) {cv : Value} {bs : List Int} (hB : Bytes h cv bs) : Rets Try.prog 9 #[cv] w fun v w' => v = .bool true ∧ H w' h Ls := by
  refine rets_enter Try.func9 rfl Try.ntmps9 (by simp) ?_
  refine WT_seq ?_
  refine WT_region ?_
  refine WL_v rfl (ov_assign rfl) ?_
  refine WL_nil ?_
  refine WT_seq ?_
  refine WT_seq ?_
  refine WT_region ?_
  refine WL_v rfl (ov_move rfl) ?_
  refine WL_v rfl (ov_len rfl hB.sl st_sl_uint8) ?_
  refine WL_v rfl (ov_gtr rfl rfl) ?_
  refine WL_nil ?_
  refine WT_cond rfl (fun hl => ?_) (fun hl => ?_)
  · skip
    first | with_reducible replace hl := of_decide_eq_true hl | with_reducible replace hl := bn_T hl | with_reducible replace hl := bb_T hl | skip
    refine WT_seq ?_
    refine WT_region ?_
    refine WL_v rfl (ov_assign rfl) ?_
    refine WL_nil ?_
    exact WT_ret1 Try.func9 Try.results9 rfl ⟨rfl, hH⟩
  first | with_reducible replace hl := of_decide_eq_false hl | with_reducible replace hl := bn_F hl | with_reducible replace hl := bb_F hl | skip
  refine WT_skip ?_
  refine WT_seq ?_
  refine WT_region ?_
  refine WL_v rfl (ov_move rfl) ?_
  refine WL_call rfl rfl cf_spec_DrawFoldNode (drawFoldNode_ok hH hB) ?_; rintro _ w1 ⟨pv, a, rfl, ha1, ha2, h', p, hle, hP, hpl, hH1⟩
  refine WL_v rfl (ov_move rfl) ?_
  refine WL_v rfl (ov_extract rfl rfl) ?_
  refine WL_v rfl (ov_extract rfl rfl) ?_
  refine WL_v rfl (ov_assign rfl) ?_
  refine WL_v rfl (ov_assign rfl) ?_
  refine WL_nil ?_
  refine WT_seq ?_
  refine WT_region ?_
  refine WL_v rfl (ov_move rfl) ?_
  refine WL_v rfl (ov_move rfl) ?_
  by_cases hb : planOk p = true ∧ 0 ≤ a ∧ a < (p.length : Int)
  case neg =>
    refine WL_call rfl rfl cf_impl_FoldNode (foldNode_no hH1 hP hb) ?_; rintro _ w2 ⟨rfl, hH2⟩
    refine WL_v rfl (ov_move rfl) ?_
    refine WL_v rfl (ov_extract rfl rfl) ?_
    refine WL_v rfl (ov_extract rfl rfl) ?_
    refine WL_v rfl (ov_assign rfl) ?_
    refine WL_v rfl (ov_assign rfl) ?_
    refine WL_nil ?_
    refine WT_seq ?_
    refine WT_region ?_
    refine WL_v rfl (ov_move rfl) ?_
    refine WL_v rfl (ov_move rfl) ?_
    refine WL_call rfl rfl cf_spec_FoldNode (sFoldNode_no hH2 hP (by omega) (by omega) hb) ?_; rintro _ w3 ⟨ov, O, rfl, hO, hH3⟩; obtain ⟨h1, hle1, hH4, hP1, _⟩ := hO.freeze (Ls := Ls) hH3
    refine WL_v rfl (ov_move rfl) ?_
    refine WL_v rfl (ov_extract rfl rfl) ?_
    refine WL_v rfl (ov_extract rfl rfl) ?_
    refine WL_v rfl (ov_assign rfl) ?_
    refine WL_v rfl (ov_assign rfl) ?_
    refine WL_nil ?_
    refine WT_seq ?_
    refine WT_seq ?_
    refine WT_region ?_
    refine WL_v rfl (ov_move rfl) ?_
    refine WL_v rfl (ov_move rfl) ?_
    refine WL_v rfl (ov_F (ov_neqB rfl rfl Try.underlying4) (by simp)) ?_
    refine WL_v rfl (ov_move rfl) ?_
    refine WL_guardOn rfl rfl ?_
    refine WL_v rfl (ov_move rfl) ?_
    refine WL_guardOn rfl rfl ?_
    refine WL_v rfl (ov_move rfl) ?_
    refine WL_guardOn rfl rfl ?_
    refine WL_call rfl rfl cf_laws_samePlan (samePlan_one hH4 (plan_nil _) hP1) ?_; rintro _ w4 ⟨rfl, hH5⟩
    refine WL_guardOn rfl rfl ?_
    refine WL_v rfl (ov_F (ov_not rfl) (by first | exact decide_eq_false rfl | exact nb_F rfl | exact mb_F rfl | exact rfl | (simp only [decide_eq_false_iff_not]; omega) | simpa using rfl)) ?_
    refine WL_v rfl (ov_pickF rfl rfl) ?_
    refine WL_v rfl (ov_move rfl) ?_
    refine WL_guardOn rfl rfl ?_
    refine WL_v rfl (ov_move rfl) ?_
    refine WL_guardOn rfl rfl ?_
    refine WL_v rfl (ov_T (ov_not rfl) (by first | exact decide_eq_true rfl | exact nb_T rfl | exact mb_T rfl | exact rfl | (simp only [decide_eq_true_eq]; omega) | simpa using rfl)) ?_
    refine WL_v rfl (ov_pickF rfl rfl) ?_
    refine WL_nil ?_
    refine WT_condT rfl ?_
    refine WT_seq ?_
    refine WT_region ?_
    refine WL_v rfl (ov_move rfl) ?_
    refine WL_v rfl (ov_move rfl) ?_
    refine WL_v rfl (ov_T (ov_eqlB rfl rfl Try.underlying4) (by simp)) ?_
    refine WL_v rfl (ov_move rfl) ?_
    refine WL_guardOn rfl rfl ?_
    refine WL_v rfl (ov_move rfl) ?_
    refine WL_guardOn rfl rfl ?_
    refine WL_v rfl (ov_move rfl) ?_
    refine WL_guardOn rfl rfl ?_
    refine WL_call rfl rfl cf_laws_samePlan (samePlan_one hH5 (plan_nil _) hP1) ?_; rintro _ w5 ⟨rfl, hH6⟩
    refine WL_v rfl (ov_pickT rfl rfl) ?_
    refine WL_v rfl (ov_assign rfl) ?_
    refine WL_nil ?_
    exact WT_ret1 Try.func9 Try.results9 rfl ⟨rfl, hH6.weak (hle.trans hle1)⟩
  obtain ⟨hv, ha3, ha4⟩ := hb
  obtain ⟨k, rfl⟩ := Int.eq_ofNat_of_zero_le ha3
  have hk : k < p.length := by omega
  have hall : (if planOk (foldP p k) then sumTo (foldP p k) (foldP p k).length else -1) ≤ (if planOk p then sumTo p p.length else -1) := by
    rw [if_pos (fold_ok hv hk), if_pos hv, foldP_len]
    exact fold_sum p k _ (Nat.le_refl _)
  have hpath : (if planOk (foldP p k) then mostOf (pathsTo (foldP p k) (foldP p k).length) else -1) ≤ (if planOk p then mostOf (pathsTo p p.length) else -1) := by
    rw [if_pos (fold_ok hv hk), if_pos hv]
    exact fold_most hv k
  refine WL_call rfl rfl cf_impl_FoldNode (foldNode_yes hH1 hP hv hk) ?_; rintro _ w2 ⟨ov, O, Is, rfl, hO, hH2⟩; obtain ⟨h1, hle1, hH3, hP1, _⟩ := hO.freeze hH2
  refine WL_v rfl (ov_move rfl) ?_
  refine WL_v rfl (ov_extract rfl rfl) ?_
  refine WL_v rfl (ov_extract rfl rfl) ?_
  refine WL_v rfl (ov_assign rfl) ?_
  refine WL_v rfl (ov_assign rfl) ?_
  refine WL_nil ?_
  refine WT_seq ?_
  refine WT_region ?_
  refine WL_v rfl (ov_move rfl) ?_
  refine WL_v rfl (ov_move rfl) ?_
  refine WL_call rfl rfl cf_spec_FoldNode (sFoldNode_yes hH3 (hP.mono hle1) hv hk) ?_; rintro _ w3 ⟨ov2, O2, Is2, rfl, hO2, hH4⟩; obtain ⟨h2, hle2, hH5, hP2, _⟩ := hO2.freeze hH4
  refine WL_v rfl (ov_move rfl) ?_
  refine WL_v rfl (ov_extract rfl rfl) ?_
  refine WL_v rfl (ov_extract rfl rfl) ?_
  refine WL_v rfl (ov_assign rfl) ?_
  refine WL_v rfl (ov_assign rfl) ?_
  refine WL_nil ?_
  refine WT_seq ?_
  refine WT_seq ?_
  refine WT_region ?_
  refine WL_v rfl (ov_move rfl) ?_
  refine WL_v rfl (ov_move rfl) ?_
  refine WL_v rfl (ov_F (ov_neqB rfl rfl Try.underlying4) (by simp)) ?_
  refine WL_v rfl (ov_move rfl) ?_
  refine WL_guardOn rfl rfl ?_
  refine WL_v rfl (ov_move rfl) ?_
  refine WL_guardOn rfl rfl ?_
  refine WL_v rfl (ov_move rfl) ?_
  refine WL_guardOn rfl rfl ?_
  refine WL_call rfl rfl cf_laws_samePlan (samePlan_one hH5 (hP1.mono hle2) hP2) ?_; rintro _ w4 ⟨rfl, hH6⟩
  refine WL_guardOn rfl rfl ?_
  refine WL_v rfl (ov_F (ov_not rfl) (by first | exact decide_eq_false rfl | exact nb_F rfl | exact mb_F rfl | exact rfl | (simp only [decide_eq_false_iff_not]; omega) | simpa using rfl)) ?_
  refine WL_v rfl (ov_pickF rfl rfl) ?_
  refine WL_v rfl (ov_move rfl) ?_
  refine WL_guardOn rfl rfl ?_
  refine WL_v rfl (ov_move rfl) ?_
  refine WL_guardOn rfl rfl ?_
  refine WL_v rfl (ov_F (ov_not rfl) (by first | exact decide_eq_false rfl | exact nb_F rfl | exact mb_F rfl | exact rfl | (simp only [decide_eq_false_iff_not]; omega) | simpa using rfl)) ?_
  refine WL_v rfl (ov_pickF rfl rfl) ?_
  refine WL_nil ?_
  refine WT_condF rfl ?_
  refine WT_skip ?_
  refine WT_seq ?_
  refine WT_region ?_
  refine WL_v rfl (ov_move rfl) ?_
  refine WL_call rfl rfl cf_impl_CostAll (costAll_ok hH6 (hP1.mono hle2)) ?_; rintro _ w5 ⟨rfl, hH7⟩
  refine WL_v rfl (ov_move rfl) ?_
  refine WL_call rfl rfl cf_impl_CostAll (costAll_ok hH7 ((hP.mono hle1).mono hle2)) ?_; rintro _ w6 ⟨rfl, hH8⟩
  refine WL_v rfl (ov_T (ov_leq rfl rfl) (decide_eq_true hall)) ?_
  refine WL_v rfl (ov_move rfl) ?_
  refine WL_guardOn rfl rfl ?_
  refine WL_v rfl (ov_move rfl) ?_
  refine WL_guardOn rfl rfl ?_
  refine WL_call rfl rfl cf_impl_CostPath (costPath_ok hH8 (hP1.mono hle2)) ?_; rintro _ w7 ⟨rfl, hH9⟩
  refine WL_guardOn rfl rfl ?_
  refine WL_v rfl (ov_move rfl) ?_
  refine WL_guardOn rfl rfl ?_
  refine WL_call rfl rfl cf_impl_CostPath (costPath_ok hH9 ((hP.mono hle1).mono hle2)) ?_; rintro _ w8 ⟨rfl, hH10⟩
  refine WL_guardOn rfl rfl ?_
  refine WL_v rfl (ov_T (ov_leq rfl rfl) (decide_eq_true hpath)) ?_
  refine WL_v rfl (ov_pickT rfl rfl) ?_
  refine WL_v rfl (ov_assign rfl) ?_
  refine WL_nil ?_
  exact WT_ret1 Try.func9 Try.results9 rfl ⟨rfl, hH10.weak (hle.trans (hle1.trans hle2))⟩
end
end Go.Proofs.Ytafljegjdanldaa
