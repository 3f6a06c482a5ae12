/- The laws GreedyOne, GreedyMost, Greedy, ExactCostGreedy: their walks. -/
import Derived.Test.YtafljegjdanldaaBl4
import Derived.Test.YtafljegjdanldaaSlF
namespace Go.Proofs.Ytafljegjdanldaa
open Go.RowKit

/-- An end is there. -/
theorem end_ex {p : List Nd} (hv : planOk p = true) {wk : Nat} (hw : 0 < wk) : ∃ T, IsEnd p wk T := by
  rcases Classical.em (∃ T, IsEnd p wk T) with h1 | h1
  · exact h1
  · exfalso
    have hall : ∀ k : Nat, ∀ j, j < k → (stN p wk j).dn.length < p.length := by
      intro k
      induction k with
      | zero => intro j hj; omega
      | succ k ih =>
        intro j hj
        rcases Nat.lt_or_ge j k with h2 | h2
        · exact ih j h2
        · obtain rfl : j = k := by omega
          rcases Nat.lt_or_ge (stN p wk j).dn.length p.length with h3 | h3
          · exact h3
          · exact absurd ⟨j, h3, ih⟩ h1
    have h4 := st_le hv hw (hall (4 * p.length + 1))
    have h5 := sumTo_rg p p.length
    omega

section
variable {h : GH} {Ls : List Heaplet} {w : World}

theorem drawCrewG_ok (hH : H w h Ls) {cv : Value} {bs : List Int} (hB : Bytes h cv bs) : Rets Try.prog 47 #[cv] w fun v w' => ∃ pv m, v = .tuple #[pv, .int .i64 m] ∧ -10 ≤ m ∧ m ≤ 10 ∧ Drew h Ls pv w' := by
  refine rets_enter Try.func47 rfl Try.ntmps47 (by simp) ?_
  refine WT_seq ?_
  refine WT_region ?_
  refine WL_v rfl (ov_assign rfl) ?_
  refine WL_v rfl (ov_assign rfl) ?_
  refine WL_nil ?_
  refine WT_seq ?_
  refine WT_region ?_
  refine WL_v rfl (ov_move rfl) ?_
  refine WL_call rfl rfl cf_spec_l6Open (l6Open_ok hH hB) ?_; rintro _ w1 ⟨g, bv, bs', rfl, hB', hH1⟩
  refine WL_v rfl (ov_assign rfl) ?_
  refine WL_nil ?_
  refine WT_seq ?_
  refine WT_region ?_
  refine WL_v rfl (ov_move rfl) ?_
  refine WL_call rfl rfl cf_spec_l91Plan (l91Plan_ok hH1 hB' (by omega)) ?_; rintro pv w2 ⟨p, O, Is, p', hO, hl, hp', hH2⟩
  refine WL_v rfl (ov_assign rfl) ?_
  refine WL_nil ?_
  refine WT_seq ?_
  refine WT_region ?_
  refine WL_v rfl (ov_move rfl) ?_
  refine WL_v rfl (ov_move rfl) ?_
  refine WL_call rfl rfl cf_p_spec_l6Rd_pick (pick_ok hH2 hB' (by omega) 4) ?_; rintro _ w3 ⟨r1, rfl, hr1, hH3⟩
  refine WL_v rfl (ov_add rfl rfl (by have := hr1.1 (by omega); omega)) ?_
  refine WL_v rfl (ov_move rfl) ?_
  refine WL_call rfl rfl cf_p_spec_l6Rd_pick (pick_ok hH3 hB' (by omega) 20) ?_; rintro _ w4 ⟨r2, rfl, hr2, hH4⟩
  have hr14 := hr1.1 (by omega)
  have hr24 := hr2.1 (by omega)
  refine WL_v rfl (ov_quo rfl rfl (by omega) (by omega) (by omega)) ?_
  refine WL_v rfl (ov_mul rfl rfl (by omega)) ?_
  refine WL_v rfl (ov_sub rfl rfl (by omega)) ?_
  refine WL_v rfl (ov_assign rfl) ?_
  refine WL_v rfl (ov_assign rfl) ?_
  refine WL_nil ?_
  exact WT_ret2 Try.func47 Try.results47 rfl rfl ⟨pv, _, rfl, by omega, by omega, drew_of hO hl hH4⟩
theorem drawCostGreedy_ok (hH : H w h Ls) {cv : Value} {bs : List Int} (hB : Bytes h cv bs) : Rets Try.prog 16 #[cv] w fun v w' => ∃ pv m, v = .tuple #[pv, .int .i64 m] ∧ -10 ≤ m ∧ m ≤ 10 ∧ Drew h Ls pv w' := by
  refine rets_enter Try.func16 rfl Try.ntmps16 (by simp) ?_
  refine WT_seq ?_
  refine WT_region ?_
  refine WL_v rfl (ov_assign rfl) ?_
  refine WL_v rfl (ov_assign rfl) ?_
  refine WL_nil ?_
  refine WT_seq ?_
  refine WT_region ?_
  refine WL_v rfl (ov_move rfl) ?_
  refine WL_call rfl rfl cf_spec_DrawCrewNew (drawCrewG_ok hH hB) ?_; rintro _ w1 ⟨pv, m, rfl, h1, h2, hD⟩
  refine WL_v rfl (ov_extract rfl rfl) ?_
  refine WL_v rfl (ov_extract rfl rfl) ?_
  refine WL_v rfl (ov_assign rfl) ?_
  refine WL_v rfl (ov_assign rfl) ?_
  refine WL_nil ?_
  exact WT_ret2 Try.func16 Try.results16 rfl rfl ⟨pv, m, rfl, h1, h2, hD⟩

theorem fnGreedyOne_walk (hH : H w h Ls) {cv : Value} {bs : List Int} (hB : Bytes h cv bs) : Rets Try.prog 4 #[cv] w fun v w' => v = .bool true ∧ H w' h Ls := by
  refine rets_enter Try.func4 rfl Try.ntmps4 (by simp) ?_
  refine WT_seq ?_
  refine WT_region ?_
  refine WL_v rfl (ov_assign rfl) ?_
  refine WL_nil ?_
  refine WT_seq ?_
  refine WT_seq ?_
  refine WT_region ?_
  refine WL_v rfl (ov_move rfl) ?_
  refine WL_v rfl (ov_len rfl hB.sl st_sl_uint8) ?_
  refine WL_v rfl (ov_gtr rfl rfl) ?_
  refine WL_nil ?_
  refine WT_cond rfl (fun hl => ?_) (fun hl => ?_)
  · skip
    first | with_reducible replace hl := of_decide_eq_true hl | with_reducible replace hl := bn_T hl | with_reducible replace hl := bb_T hl | skip
    refine WT_seq ?_
    refine WT_region ?_
    refine WL_v rfl (ov_assign rfl) ?_
    refine WL_nil ?_
    exact WT_ret1 Try.func4 Try.results4 rfl ⟨rfl, hH⟩
  first | with_reducible replace hl := of_decide_eq_false hl | with_reducible replace hl := bn_F hl | with_reducible replace hl := bb_F hl | skip
  refine WT_skip ?_
  refine WT_seq ?_
  refine WT_region ?_
  refine WL_v rfl (ov_move rfl) ?_
  refine WL_call rfl rfl cf_spec_DrawCostGreedy (drawCostGreedy_ok hH hB) ?_; rintro _ w1 ⟨pv, n, rfl, hn1, hn2, h', p, hle, hP, hpl, hH1⟩
  refine WL_v rfl (ov_move rfl) ?_
  refine WL_v rfl (ov_extract rfl rfl) ?_
  refine WL_v rfl (ov_extract rfl rfl) ?_
  refine WL_v rfl (ov_assign rfl) ?_
  refine WL_v rfl (ov_assign rfl) ?_
  refine WL_nil ?_
  refine WT_seq ?_
  refine WT_region ?_
  refine WL_v rfl (ov_move rfl) ?_
  refine WL_v rfl (ov_move rfl) ?_
  by_cases hb : planOk p = true ∧ 1 ≤ n ∧ n ≤ 4
  case neg =>
    refine WL_call rfl rfl cf_impl_CostGreedy (costGreedy_no hH1 hP hb) ?_; rintro _ w2 ⟨rfl, hH2⟩
    refine WL_v rfl (ov_assign rfl) ?_
    refine WL_nil ?_
    refine WT_seq ?_
    refine WT_region ?_
    refine WL_v rfl (ov_move rfl) ?_
    refine WL_v rfl (ov_move rfl) ?_
    refine WL_call rfl rfl cf_spec_CostGreedy (sCostGreedy_no hH2 hP (by omega) hb) ?_; rintro _ w3 ⟨rfl, hH3⟩
    refine WL_v rfl (ov_assign rfl) ?_
    refine WL_nil ?_
    refine WT_seq ?_
    refine WT_seq ?_
    refine WT_region ?_
    refine WL_v rfl (ov_move rfl) ?_
    refine WL_v rfl (ov_move rfl) ?_
    refine WL_v rfl (ov_F (ov_neq rfl rfl) (by simp)) ?_
    refine WL_v rfl (ov_move rfl) ?_
    refine WL_guardOn rfl rfl ?_
    refine WL_v rfl (ov_move rfl) ?_
    refine WL_guardOn rfl rfl ?_
    refine WL_v rfl (ov_T (ov_lss rfl rfl) (by decide)) ?_
    refine WL_v rfl (ov_pickF rfl rfl) ?_
    refine WL_nil ?_
    refine WT_condT rfl ?_
    refine WT_seq ?_
    refine WT_region ?_
    refine WL_v rfl (ov_move rfl) ?_
    refine WL_v rfl (ov_move rfl) ?_
    refine WL_v rfl (ov_T (ov_eql rfl rfl) (by first | exact decide_eq_true rfl | exact nb_T rfl | exact mb_T rfl | exact rfl | (simp only [decide_eq_true_eq]; omega) | simpa using rfl)) ?_
    refine WL_v rfl (ov_assign rfl) ?_
    refine WL_nil ?_
    exact WT_ret1 Try.func4 Try.results4 rfl ⟨rfl, hH3.weak hle⟩
  obtain ⟨hv, h1, h4⟩ := hb
  obtain ⟨k, rfl⟩ := Int.eq_ofNat_of_zero_le (show 0 ≤ n by omega)
  have hca := fun {w : World} (hH : H w h' Ls) => costAll_ok hH hP
  rw [if_pos hv] at hca
  refine WL_call rfl rfl cf_impl_CostGreedy (costGreedy_yes hH1 hP hv (show 1 ≤ k by omega) (by omega)) ?_; rintro _ w2 ⟨⟨T, rfl, hT⟩, hH2⟩
  refine WL_v rfl (ov_assign rfl) ?_
  refine WL_nil ?_
  refine WT_seq ?_
  refine WT_region ?_
  refine WL_v rfl (ov_move rfl) ?_
  refine WL_v rfl (ov_move rfl) ?_
  refine WL_call rfl rfl cf_spec_CostGreedy (sCostGreedy_yes hH2 hP hv (show 1 ≤ k by omega) (by omega)) ?_; rintro _ w3 ⟨⟨T2, rfl, hT2⟩, hH3⟩; obtain rfl := hT.uniq hT2
  refine WL_v rfl (ov_assign rfl) ?_
  refine WL_nil ?_
  refine WT_seq ?_
  refine WT_seq ?_
  refine WT_region ?_
  refine WL_v rfl (ov_move rfl) ?_
  refine WL_v rfl (ov_move rfl) ?_
  refine WL_v rfl (ov_F (ov_neq rfl rfl) (by simp)) ?_
  refine WL_v rfl (ov_move rfl) ?_
  refine WL_guardOn rfl rfl ?_
  refine WL_v rfl (ov_move rfl) ?_
  refine WL_guardOn rfl rfl ?_
  refine WL_v rfl (ov_F (ov_lss rfl rfl) (decide_eq_false (by omega))) ?_
  refine WL_v rfl (ov_pickF rfl rfl) ?_
  refine WL_nil ?_
  refine WT_condF rfl ?_
  refine WT_skip ?_
  refine WT_seq ?_
  refine WT_region ?_
  refine WL_v rfl (ov_move rfl) ?_
  refine WL_call rfl rfl cf_impl_CostGreedy (costGreedy_yes (wk := 1) hH3 hP hv (by omega) (by omega)) ?_; rintro _ w4 ⟨⟨T1, rfl, hT1⟩, hH4⟩; have hlaw := end_laws hv (Nat.zero_lt_succ 0) hT1
  refine WL_v rfl (ov_move rfl) ?_
  refine WL_call rfl rfl cf_impl_CostAll (hca hH4) ?_; rintro _ w5 ⟨rfl, hH5⟩
  refine WL_v rfl (ov_T (ov_eql rfl rfl) (decide_eq_true (by simp at hlaw; omega))) ?_
  refine WL_v rfl (ov_assign rfl) ?_
  refine WL_nil ?_
  exact WT_ret1 Try.func4 Try.results4 rfl ⟨rfl, hH5.weak hle⟩

theorem fnGreedyMost_walk (hH : H w h Ls) {cv : Value} {bs : List Int} (hB : Bytes h cv bs) : Rets Try.prog 7 #[cv] w fun v w' => v = .bool true ∧ H w' h Ls := by
  refine rets_enter Try.func7 rfl Try.ntmps7 (by simp) ?_
  refine WT_seq ?_
  refine WT_region ?_
  refine WL_v rfl (ov_assign rfl) ?_
  refine WL_nil ?_
  refine WT_seq ?_
  refine WT_seq ?_
  refine WT_region ?_
  refine WL_v rfl (ov_move rfl) ?_
  refine WL_v rfl (ov_len rfl hB.sl st_sl_uint8) ?_
  refine WL_v rfl (ov_gtr rfl rfl) ?_
  refine WL_nil ?_
  refine WT_cond rfl (fun hl => ?_) (fun hl => ?_)
  · skip
    first | with_reducible replace hl := of_decide_eq_true hl | with_reducible replace hl := bn_T hl | with_reducible replace hl := bb_T hl | skip
    refine WT_seq ?_
    refine WT_region ?_
    refine WL_v rfl (ov_assign rfl) ?_
    refine WL_nil ?_
    exact WT_ret1 Try.func7 Try.results7 rfl ⟨rfl, hH⟩
  first | with_reducible replace hl := of_decide_eq_false hl | with_reducible replace hl := bn_F hl | with_reducible replace hl := bb_F hl | skip
  refine WT_skip ?_
  refine WT_seq ?_
  refine WT_region ?_
  refine WL_v rfl (ov_move rfl) ?_
  refine WL_call rfl rfl cf_spec_DrawCostGreedy (drawCostGreedy_ok hH hB) ?_; rintro _ w1 ⟨pv, n, rfl, hn1, hn2, h', p, hle, hP, hpl, hH1⟩
  refine WL_v rfl (ov_move rfl) ?_
  refine WL_v rfl (ov_extract rfl rfl) ?_
  refine WL_v rfl (ov_extract rfl rfl) ?_
  refine WL_v rfl (ov_assign rfl) ?_
  refine WL_v rfl (ov_assign rfl) ?_
  refine WL_nil ?_
  refine WT_seq ?_
  refine WT_region ?_
  refine WL_v rfl (ov_move rfl) ?_
  refine WL_v rfl (ov_move rfl) ?_
  by_cases hb : planOk p = true ∧ 1 ≤ n ∧ n ≤ 4
  case neg =>
    refine WL_call rfl rfl cf_impl_CostGreedy (costGreedy_no hH1 hP hb) ?_; rintro _ w2 ⟨rfl, hH2⟩
    refine WL_v rfl (ov_assign rfl) ?_
    refine WL_nil ?_
    refine WT_seq ?_
    refine WT_region ?_
    refine WL_v rfl (ov_move rfl) ?_
    refine WL_v rfl (ov_move rfl) ?_
    refine WL_call rfl rfl cf_spec_CostGreedy (sCostGreedy_no hH2 hP (by omega) hb) ?_; rintro _ w3 ⟨rfl, hH3⟩
    refine WL_v rfl (ov_assign rfl) ?_
    refine WL_nil ?_
    refine WT_seq ?_
    refine WT_seq ?_
    refine WT_region ?_
    refine WL_v rfl (ov_move rfl) ?_
    refine WL_v rfl (ov_move rfl) ?_
    refine WL_v rfl (ov_F (ov_neq rfl rfl) (by simp)) ?_
    refine WL_v rfl (ov_move rfl) ?_
    refine WL_guardOn rfl rfl ?_
    refine WL_v rfl (ov_move rfl) ?_
    refine WL_guardOn rfl rfl ?_
    refine WL_v rfl (ov_T (ov_lss rfl rfl) (by decide)) ?_
    refine WL_v rfl (ov_pickF rfl rfl) ?_
    refine WL_nil ?_
    refine WT_condT rfl ?_
    refine WT_seq ?_
    refine WT_region ?_
    refine WL_v rfl (ov_move rfl) ?_
    refine WL_v rfl (ov_move rfl) ?_
    refine WL_v rfl (ov_T (ov_eql rfl rfl) (by first | exact decide_eq_true rfl | exact nb_T rfl | exact mb_T rfl | exact rfl | (simp only [decide_eq_true_eq]; omega) | simpa using rfl)) ?_
    refine WL_v rfl (ov_assign rfl) ?_
    refine WL_nil ?_
    exact WT_ret1 Try.func7 Try.results7 rfl ⟨rfl, hH3.weak hle⟩
  obtain ⟨hv, h1, h4⟩ := hb
  obtain ⟨k, rfl⟩ := Int.eq_ofNat_of_zero_le (show 0 ≤ n by omega)
  have hca := fun {w : World} (hH : H w h' Ls) => costAll_ok hH hP
  rw [if_pos hv] at hca
  have hcp := fun {w : World} (hH : H w h' Ls) => costPath_ok hH hP
  rw [if_pos hv] at hcp
  have hlen := PlanOk.len hv
  have hsr := sumTo_rg p p.length
  have hpa := path_le_all p
  have hpn := mostOf_nonneg (pathsTo p p.length)
  have hmul : ∀ a b : Int, 0 ≤ a → a ≤ 4 → 0 ≤ b → b ≤ 1000 → 0 ≤ a * b ∧ a * b ≤ 4000 := fun a b ha1 ha2 hb1 hb2 => by
    have e : a = 0 ∨ a = 1 ∨ a = 2 ∨ a = 3 ∨ a = 4 := by omega
    rcases e with rfl | rfl | rfl | rfl | rfl <;> omega
  have hm1 := hmul ((k : Int) - 1) (mostOf (pathsTo p p.length)) (by omega) (by omega) hpn (by omega)
  refine WL_call rfl rfl cf_impl_CostGreedy (costGreedy_yes hH1 hP hv (show 1 ≤ k by omega) (by omega)) ?_; rintro _ w2 ⟨⟨T, rfl, hT⟩, hH2⟩; have hlaw := end_laws hv (show 0 < k by omega) hT; have hm2 := hmul (k : Int) (T : Int) (by omega) (by omega) (by omega) (by omega); rw [Int.mul_comm (k : Int) (T : Int)] at hm2 hlaw
  refine WL_v rfl (ov_assign rfl) ?_
  refine WL_nil ?_
  refine WT_seq ?_
  refine WT_region ?_
  refine WL_v rfl (ov_move rfl) ?_
  refine WL_v rfl (ov_move rfl) ?_
  refine WL_call rfl rfl cf_spec_CostGreedy (sCostGreedy_yes hH2 hP hv (show 1 ≤ k by omega) (by omega)) ?_; rintro _ w3 ⟨⟨T2, rfl, hT2⟩, hH3⟩; obtain rfl := hT.uniq hT2
  refine WL_v rfl (ov_assign rfl) ?_
  refine WL_nil ?_
  refine WT_seq ?_
  refine WT_seq ?_
  refine WT_region ?_
  refine WL_v rfl (ov_move rfl) ?_
  refine WL_v rfl (ov_move rfl) ?_
  refine WL_v rfl (ov_F (ov_neq rfl rfl) (by simp)) ?_
  refine WL_v rfl (ov_move rfl) ?_
  refine WL_guardOn rfl rfl ?_
  refine WL_v rfl (ov_move rfl) ?_
  refine WL_guardOn rfl rfl ?_
  refine WL_v rfl (ov_F (ov_lss rfl rfl) (decide_eq_false (by omega))) ?_
  refine WL_v rfl (ov_pickF rfl rfl) ?_
  refine WL_nil ?_
  refine WT_condF rfl ?_
  refine WT_skip ?_
  refine WT_seq ?_
  refine WT_region ?_
  refine WL_v rfl (ov_move rfl) ?_
  refine WL_v rfl (ov_move rfl) ?_
  refine WL_v rfl (ov_mul rfl rfl (by omega)) ?_
  refine WL_v rfl (ov_move rfl) ?_
  refine WL_call rfl rfl cf_impl_CostAll (hca hH3) ?_; rintro _ w4 ⟨rfl, hH4⟩
  refine WL_v rfl (ov_move rfl) ?_
  refine WL_v rfl (ov_sub rfl rfl (by omega)) ?_
  refine WL_v rfl (ov_move rfl) ?_
  refine WL_call rfl rfl cf_impl_CostPath (hcp hH4) ?_; rintro _ w5 ⟨rfl, hH5⟩
  refine WL_v rfl (ov_mul rfl rfl (by omega)) ?_
  refine WL_v rfl (ov_add rfl rfl (by omega)) ?_
  refine WL_v rfl (ov_T (ov_leq rfl rfl) (decide_eq_true (by omega))) ?_
  refine WL_v rfl (ov_assign rfl) ?_
  refine WL_nil ?_
  exact WT_ret1 Try.func7 Try.results7 rfl ⟨rfl, hH5.weak hle⟩

theorem fnGreedy_walk (hH : H w h Ls) {cv : Value} {bs : List Int} (hB : Bytes h cv bs) : Rets Try.prog 8 #[cv] w fun v w' => v = .bool true ∧ H w' h Ls := by
  refine rets_enter Try.func8 rfl Try.ntmps8 (by simp) ?_
  refine WT_seq ?_
  refine WT_region ?_
  refine WL_v rfl (ov_assign rfl) ?_
  refine WL_nil ?_
  refine WT_seq ?_
  refine WT_seq ?_
  refine WT_region ?_
  refine WL_v rfl (ov_move rfl) ?_
  refine WL_v rfl (ov_len rfl hB.sl st_sl_uint8) ?_
  refine WL_v rfl (ov_gtr rfl rfl) ?_
  refine WL_nil ?_
  refine WT_cond rfl (fun hl => ?_) (fun hl => ?_)
  · skip
    first | with_reducible replace hl := of_decide_eq_true hl | with_reducible replace hl := bn_T hl | with_reducible replace hl := bb_T hl | skip
    refine WT_seq ?_
    refine WT_region ?_
    refine WL_v rfl (ov_assign rfl) ?_
    refine WL_nil ?_
    exact WT_ret1 Try.func8 Try.results8 rfl ⟨rfl, hH⟩
  first | with_reducible replace hl := of_decide_eq_false hl | with_reducible replace hl := bn_F hl | with_reducible replace hl := bb_F hl | skip
  refine WT_skip ?_
  refine WT_seq ?_
  refine WT_region ?_
  refine WL_v rfl (ov_move rfl) ?_
  refine WL_call rfl rfl cf_spec_DrawCostGreedy (drawCostGreedy_ok hH hB) ?_; rintro _ w1 ⟨pv, n, rfl, hn1, hn2, h', p, hle, hP, hpl, hH1⟩
  refine WL_v rfl (ov_move rfl) ?_
  refine WL_v rfl (ov_extract rfl rfl) ?_
  refine WL_v rfl (ov_extract rfl rfl) ?_
  refine WL_v rfl (ov_assign rfl) ?_
  refine WL_v rfl (ov_assign rfl) ?_
  refine WL_nil ?_
  refine WT_seq ?_
  refine WT_region ?_
  refine WL_v rfl (ov_move rfl) ?_
  refine WL_v rfl (ov_move rfl) ?_
  by_cases hb : planOk p = true ∧ 1 ≤ n ∧ n ≤ 4
  case neg =>
    refine WL_call rfl rfl cf_impl_CostGreedy (costGreedy_no hH1 hP hb) ?_; rintro _ w2 ⟨rfl, hH2⟩
    refine WL_v rfl (ov_assign rfl) ?_
    refine WL_nil ?_
    refine WT_seq ?_
    refine WT_region ?_
    refine WL_v rfl (ov_move rfl) ?_
    refine WL_v rfl (ov_move rfl) ?_
    refine WL_call rfl rfl cf_spec_CostGreedy (sCostGreedy_no hH2 hP (by omega) hb) ?_; rintro _ w3 ⟨rfl, hH3⟩
    refine WL_v rfl (ov_assign rfl) ?_
    refine WL_nil ?_
    refine WT_seq ?_
    refine WT_seq ?_
    refine WT_region ?_
    refine WL_v rfl (ov_move rfl) ?_
    refine WL_v rfl (ov_move rfl) ?_
    refine WL_v rfl (ov_F (ov_neq rfl rfl) (by simp)) ?_
    refine WL_v rfl (ov_move rfl) ?_
    refine WL_guardOn rfl rfl ?_
    refine WL_v rfl (ov_move rfl) ?_
    refine WL_guardOn rfl rfl ?_
    refine WL_v rfl (ov_T (ov_lss rfl rfl) (by decide)) ?_
    refine WL_v rfl (ov_pickF rfl rfl) ?_
    refine WL_nil ?_
    refine WT_condT rfl ?_
    refine WT_seq ?_
    refine WT_region ?_
    refine WL_v rfl (ov_move rfl) ?_
    refine WL_v rfl (ov_move rfl) ?_
    refine WL_v rfl (ov_T (ov_eql rfl rfl) (by first | exact decide_eq_true rfl | exact nb_T rfl | exact mb_T rfl | exact rfl | (simp only [decide_eq_true_eq]; omega) | simpa using rfl)) ?_
    refine WL_v rfl (ov_assign rfl) ?_
    refine WL_nil ?_
    exact WT_ret1 Try.func8 Try.results8 rfl ⟨rfl, hH3.weak hle⟩
  obtain ⟨hv, h1, h4⟩ := hb
  obtain ⟨k, rfl⟩ := Int.eq_ofNat_of_zero_le (show 0 ≤ n by omega)
  have hca := fun {w : World} (hH : H w h' Ls) => costAll_ok hH hP
  rw [if_pos hv] at hca
  have hleast : ∀ T : Nat, IsEnd p k T → costLeast p (k : Int) ≤ (T : Int) := fun T hT => by
    have hlaw := end_laws hv (show 0 < k by omega) hT
    unfold costLeast leastOf
    rw [if_pos ⟨hv, h1, h4⟩]
    have e : k = 1 ∨ k = 2 ∨ k = 3 ∨ k = 4 := by omega
    rcases e with rfl | rfl | rfl | rfl
    · rw [show ((1 : Nat) : Int) = 1 from rfl] at hlaw ⊢; omega
    · rw [show ((2 : Nat) : Int) = 2 from rfl] at hlaw ⊢; omega
    · rw [show ((3 : Nat) : Int) = 3 from rfl] at hlaw ⊢; omega
    · rw [show ((4 : Nat) : Int) = 4 from rfl] at hlaw ⊢; omega
  refine WL_call rfl rfl cf_impl_CostGreedy (costGreedy_yes hH1 hP hv (show 1 ≤ k by omega) (by omega)) ?_; rintro _ w2 ⟨⟨T, rfl, hT⟩, hH2⟩; have hlaw := end_laws hv (show 0 < k by omega) hT; have hlst := hleast T hT
  refine WL_v rfl (ov_assign rfl) ?_
  refine WL_nil ?_
  refine WT_seq ?_
  refine WT_region ?_
  refine WL_v rfl (ov_move rfl) ?_
  refine WL_v rfl (ov_move rfl) ?_
  refine WL_call rfl rfl cf_spec_CostGreedy (sCostGreedy_yes hH2 hP hv (show 1 ≤ k by omega) (by omega)) ?_; rintro _ w3 ⟨⟨T2, rfl, hT2⟩, hH3⟩; obtain rfl := hT.uniq hT2
  refine WL_v rfl (ov_assign rfl) ?_
  refine WL_nil ?_
  refine WT_seq ?_
  refine WT_seq ?_
  refine WT_region ?_
  refine WL_v rfl (ov_move rfl) ?_
  refine WL_v rfl (ov_move rfl) ?_
  refine WL_v rfl (ov_F (ov_neq rfl rfl) (by simp)) ?_
  refine WL_v rfl (ov_move rfl) ?_
  refine WL_guardOn rfl rfl ?_
  refine WL_v rfl (ov_move rfl) ?_
  refine WL_guardOn rfl rfl ?_
  refine WL_v rfl (ov_F (ov_lss rfl rfl) (decide_eq_false (by omega))) ?_
  refine WL_v rfl (ov_pickF rfl rfl) ?_
  refine WL_nil ?_
  refine WT_condF rfl ?_
  refine WT_skip ?_
  refine WT_seq ?_
  refine WT_region ?_
  refine WL_v rfl (ov_move rfl) ?_
  refine WL_v rfl (ov_move rfl) ?_
  refine WL_v rfl (ov_move rfl) ?_
  refine WL_call rfl rfl cf_impl_CostLeast (costLeast_ok hH3 hP (k : Int)) ?_; rintro _ w4 ⟨rfl, hH4⟩
  refine WL_v rfl (ov_T (ov_geq rfl rfl) (decide_eq_true hlst)) ?_
  refine WL_v rfl (ov_move rfl) ?_
  refine WL_guardOn rfl rfl ?_
  refine WL_v rfl (ov_move rfl) ?_
  refine WL_guardOn rfl rfl ?_
  refine WL_v rfl (ov_move rfl) ?_
  refine WL_guardOn rfl rfl ?_
  refine WL_call rfl rfl cf_impl_CostAll (hca hH4) ?_; rintro _ w5 ⟨rfl, hH5⟩
  refine WL_guardOn rfl rfl ?_
  refine WL_v rfl (ov_T (ov_leq rfl rfl) (decide_eq_true hlaw.1)) ?_
  refine WL_v rfl (ov_pickT rfl rfl) ?_
  refine WL_v rfl (ov_assign rfl) ?_
  refine WL_nil ?_
  exact WT_ret1 Try.func8 Try.results8 rfl ⟨rfl, hH5.weak hle⟩

theorem fnExactCostGreedy_walk (hH : H w h Ls) {pv : Value} {p : List Nd} (hP : Plan h pv p) {n : Int} (_hn : I64 n) : Rets Try.prog 5 #[pv, .int .i64 n] w fun v w' => v = .bool true ∧ H w' h Ls := by
  refine rets_enter Try.func5 rfl Try.ntmps5 (by simp) ?_
  refine WT_seq ?_
  refine WT_region ?_
  refine WL_v rfl (ov_assign rfl) ?_
  refine WL_nil ?_
  refine WT_seq ?_
  refine WT_region ?_
  refine WL_v rfl (ov_assign rfl) ?_
  refine WL_nil ?_
  refine WT_seq ?_
  refine WT_region ?_
  refine WL_v rfl (ov_move rfl) ?_
  refine WL_v rfl (ov_move rfl) ?_
  refine WL_call rfl rfl cf_laws_szNodeS (szNodeS_ok hH hP) ?_; rintro _ w1 ⟨s, rfl, hs, hH1⟩
  refine WL_v rfl (ov_assign rfl) ?_
  refine WL_nil ?_
  refine WT_seq ?_
  refine WT_seq ?_
  refine WT_region ?_
  refine WL_v rfl (ov_move rfl) ?_
  refine WL_v rfl (ov_lss rfl rfl) ?_
  refine WL_nil ?_
  refine WT_cond rfl (fun hneg => ?_) (fun hneg => ?_)
  · skip
    first | with_reducible replace hneg := of_decide_eq_true hneg | with_reducible replace hneg := bn_T hneg | with_reducible replace hneg := bb_T hneg | skip
    refine WT_seq ?_
    refine WT_region ?_
    refine WL_v rfl (ov_assign rfl) ?_
    refine WL_nil ?_
    exact WT_ret1 Try.func5 Try.results5 rfl ⟨rfl, hH1⟩
  first | with_reducible replace hneg := of_decide_eq_false hneg | with_reducible replace hneg := bn_F hneg | with_reducible replace hneg := bb_F hneg | skip
  obtain ⟨-, hl1, hl2⟩ := hs.resolve_left (by omega)
  have hsame : ∀ {w : World} {g : GH} {Ms : List Heaplet} {xv : Value}, H w g Ms → Plan g xv p → ∃ r : Int, (∀ {w : World} {g : GH} {Ms : List Heaplet} {xv : Value}, H w g Ms → Plan g xv p → Rets Try.prog 18 #[xv, .int .i64 n] w fun v w' => v = .int .i64 r ∧ H w' g Ms) ∧ (∀ {w : World} {g : GH} {Ms : List Heaplet} {xv : Value}, H w g Ms → Plan g xv p → Rets Try.prog 17 #[xv, .int .i64 n] w fun v w' => v = .int .i64 r ∧ H w' g Ms) := fun _ _ => by
    by_cases hb : planOk p = true ∧ 1 ≤ n ∧ n ≤ 4
    · obtain ⟨hv, h1, h4⟩ := hb
      obtain ⟨k, rfl⟩ := Int.eq_ofNat_of_zero_le (show 0 ≤ n by omega)
      obtain ⟨T, hT⟩ := end_ex hv (show 0 < k by omega)
      refine ⟨T, fun hH hP => (sCostGreedy_yes hH hP hv (by omega) (by omega)).mono ?_, fun hH hP => (costGreedy_yes hH hP hv (by omega) (by omega)).mono ?_⟩
      · rintro v w' ⟨⟨T2, rfl, hT2⟩, hH2⟩
        obtain rfl := hT.uniq hT2
        exact ⟨rfl, hH2⟩
      · rintro v w' ⟨⟨T2, rfl, hT2⟩, hH2⟩
        obtain rfl := hT.uniq hT2
        exact ⟨rfl, hH2⟩
    · exact ⟨-1, fun hH hP => sCostGreedy_no hH hP (by omega) hb, fun hH hP => costGreedy_no hH hP hb⟩
  obtain ⟨r, hsp, him⟩ := hsame hH1 hP
  refine WT_skip ?_
  refine WT_seq ?_
  refine WT_region ?_
  refine WL_v rfl (ov_move rfl) ?_
  refine WL_call rfl rfl cf_laws_toNodeS (toNodeS_ok hH1 hP hl1 hl2) ?_; rintro xv w2 ⟨O, Is, hO, hH2⟩
  refine WL_v rfl (ov_move rfl) ?_
  obtain ⟨h1, hle1, hH3, hP1, _⟩ := hO.freeze hH2
  refine WL_call rfl rfl cf_spec_CostGreedy (hsp hH3 hP1) ?_; rintro _ w4 ⟨rfl, hH4⟩
  refine WL_v rfl (ov_assign rfl) ?_
  refine WL_nil ?_
  refine WT_seq ?_
  refine WT_region ?_
  refine WL_v rfl (ov_move rfl) ?_
  refine WL_call rfl rfl cf_laws_toNodeS (toNodeS_ok hH4 (hP.mono hle1) hl1 hl2) ?_; rintro yv w5 ⟨O2, Is2, hO2, hH5⟩
  refine WL_v rfl (ov_assign rfl) ?_
  refine WL_nil ?_
  refine WT_seq ?_
  refine WT_region ?_
  refine WL_v rfl (ov_move rfl) ?_
  refine WL_v rfl (ov_move rfl) ?_
  obtain ⟨h2, hle2, hH6, hP2, _⟩ := hO2.freeze hH5
  refine WL_call rfl rfl cf_impl_CostGreedy (him hH6 hP2) ?_; rintro _ w7 ⟨rfl, hH7⟩
  refine WL_v rfl (ov_assign rfl) ?_
  refine WL_nil ?_
  refine WT_seq ?_
  refine WT_seq ?_
  refine WT_region ?_
  refine WL_v rfl (ov_move rfl) ?_
  refine WL_v rfl (ov_move rfl) ?_
  refine WL_v rfl (ov_F (ov_neq rfl rfl) (by first | exact decide_eq_false rfl | exact nb_F rfl | exact mb_F rfl | exact rfl | (simp only [decide_eq_false_iff_not]; omega) | simpa using rfl)) ?_
  refine WL_nil ?_
  refine WT_condF rfl ?_
  refine WT_skip ?_
  refine WT_seq ?_
  refine WT_seq ?_
  refine WT_region ?_
  refine WL_v rfl (ov_move rfl) ?_
  refine WL_v rfl (ov_move rfl) ?_
  refine WL_call rfl rfl cf_laws_toNodeS (toNodeS_ok hH7 (hP.mono (hle1.trans hle2)) hl1 hl2) ?_; rintro zv w8 ⟨O3, Is3, hO3, hH8⟩
  obtain ⟨h3, hle3, hH9, hP3, _⟩ := hO3.freeze hH8
  refine WL_call rfl rfl cf_laws_eqNodeS (eqNodeS_ok hH9 (hP2.mono hle3) hP3) ?_; rintro _ w10 ⟨rfl, hH10⟩
  refine WL_v rfl (ov_F (ov_not rfl) (by first | exact decide_eq_false rfl | exact nb_F rfl | exact mb_F rfl | exact rfl | (simp only [decide_eq_false_iff_not]; omega) | simpa using rfl)) ?_
  refine WL_nil ?_
  refine WT_condF rfl ?_
  refine WT_skip ?_
  refine WT_seq ?_
  refine WT_region ?_
  refine WL_v rfl (ov_assign rfl) ?_
  refine WL_nil ?_
  exact WT_ret1 Try.func5 Try.results5 rfl ⟨rfl, hH10.weak (hle1.trans (hle2.trans hle3))⟩
end
end Go.Proofs.Ytafljegjdanldaa
