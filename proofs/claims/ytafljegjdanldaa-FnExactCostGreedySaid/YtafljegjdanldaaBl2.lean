/- Walks: kinds and what they cost. -/
import Derived.Test.YtafljegjdanldaaBl1
namespace Go.Proofs.Ytafljegjdanldaa
open Go.RowKit

section
variable {h : GH} {Ls : List Heaplet} {w : World}

/-- What a kind does, as a value: nil if there is no such kind. -/
def workV (k : Int) : Value :=
  if k = 0 then .iface 128 (.agg #[])
  else if k = 1 then .iface 103 (.agg #[.func (.func 103) #[] #[]])
  else if k = 2 then .iface 103 (.agg #[.func (.func 104) #[] #[]])
  else if k = 3 then .iface 107 (.agg #[.func (.func 105) #[] #[]])
  else if k = 4 then .iface 107 (.agg #[.func (.func 106) #[] #[]])
  else if k = 5 then .iface 107 (.agg #[.func (.func 107) #[] #[]])
  else .nilIface

theorem run_build_given (W : World) : (Instr.build 128 #[]).run Try.prog W = .ok (.agg #[]) W := by kernel_rfl
theorem run_build_pair (f : Nat) (W : World) : (Instr.build 103 #[(0, .func (.func f) #[] #[])]).run Try.prog W = .ok (.agg #[.func (.func f) #[] #[]]) W := by kernel_rfl
theorem run_build_lone (f : Nat) (W : World) : (Instr.build 107 #[(0, .func (.func f) #[] #[])]).run Try.prog W = .ok (.agg #[.func (.func f) #[] #[]]) W := by kernel_rfl
theorem mi_given (u : Value) (W : World) : (Instr.makeInterface 128 u).run Try.prog W = .ok (.iface 128 u) W := by kernel_rfl
theorem mi_pair (u : Value) (W : World) : (Instr.makeInterface 103 u).run Try.prog W = .ok (.iface 103 u) W := by kernel_rfl
theorem mi_lone (u : Value) (W : World) : (Instr.makeInterface 107 u).run Try.prog W = .ok (.iface 107 u) W := by kernel_rfl

theorem workOf_ok (hH : H w h Ls) (k : Int) : Rets Try.prog 75 #[.int .i64 k] w fun v w' => v = workV k ∧ H w' h Ls := by
  refine rets_enter Try.func75 rfl Try.ntmps75 (by simp) ?_
  refine WT_seq ?_
  refine WT_region ?_
  refine WL_v rfl (ov_assign rfl) ?_
  refine WL_nil ?_
  refine WT_seq ?_
  refine WT_seq ?_
  refine WT_region ?_
  refine WL_v rfl (ov_move rfl) ?_
  refine WL_nil ?_
  refine WT_block ?_
  refine WT_seq ?_
  refine WT_region ?_
  refine WL_v rfl (ov_eql rfl rfl) ?_
  refine WL_v rfl (ov_assign rfl) ?_
  refine WL_nil ?_
  refine WT_cond rfl (fun h0 => ?_) (fun h0 => ?_)
  · skip
    first | with_reducible replace h0 := of_decide_eq_true h0 | with_reducible replace h0 := bn_T h0 | with_reducible replace h0 := bb_T h0 | skip
    refine WT_seq ?_
    refine WT_region ?_
    refine WL_v rfl (ov_build rfl run_build_given) ?_
    refine WL_v rfl (ov_iface rfl mi_given) ?_
    refine WL_v rfl (ov_assign rfl) ?_
    refine WL_nil ?_
    exact WT_ret1 Try.func75 Try.results75 rfl ⟨by simp [workV, h0], hH⟩
  first | with_reducible replace h0 := of_decide_eq_false h0 | with_reducible replace h0 := bn_F h0 | with_reducible replace h0 := bb_F h0 | skip
  refine WT_seq ?_
  refine WT_region ?_
  refine WL_v rfl (ov_eql rfl rfl) ?_
  refine WL_v rfl (ov_assign rfl) ?_
  refine WL_nil ?_
  refine WT_cond rfl (fun h1 => ?_) (fun h1 => ?_)
  · skip
    first | with_reducible replace h1 := of_decide_eq_true h1 | with_reducible replace h1 := bn_T h1 | with_reducible replace h1 := bb_T h1 | skip
    refine WT_seq ?_
    refine WT_region ?_
    refine WL_v rfl (ov_build rfl (run_build_pair _)) ?_
    refine WL_v rfl (ov_iface rfl mi_pair) ?_
    refine WL_v rfl (ov_assign rfl) ?_
    refine WL_nil ?_
    exact WT_ret1 Try.func75 Try.results75 rfl ⟨by simp [workV, h1], hH⟩
  first | with_reducible replace h1 := of_decide_eq_false h1 | with_reducible replace h1 := bn_F h1 | with_reducible replace h1 := bb_F h1 | skip
  refine WT_seq ?_
  refine WT_region ?_
  refine WL_v rfl (ov_eql rfl rfl) ?_
  refine WL_v rfl (ov_assign rfl) ?_
  refine WL_nil ?_
  refine WT_cond rfl (fun h2 => ?_) (fun h2 => ?_)
  · skip
    first | with_reducible replace h2 := of_decide_eq_true h2 | with_reducible replace h2 := bn_T h2 | with_reducible replace h2 := bb_T h2 | skip
    refine WT_seq ?_
    refine WT_region ?_
    refine WL_v rfl (ov_build rfl (run_build_pair _)) ?_
    refine WL_v rfl (ov_iface rfl mi_pair) ?_
    refine WL_v rfl (ov_assign rfl) ?_
    refine WL_nil ?_
    exact WT_ret1 Try.func75 Try.results75 rfl ⟨by simp [workV, h2], hH⟩
  first | with_reducible replace h2 := of_decide_eq_false h2 | with_reducible replace h2 := bn_F h2 | with_reducible replace h2 := bb_F h2 | skip
  refine WT_seq ?_
  refine WT_region ?_
  refine WL_v rfl (ov_eql rfl rfl) ?_
  refine WL_v rfl (ov_assign rfl) ?_
  refine WL_nil ?_
  refine WT_cond rfl (fun h3 => ?_) (fun h3 => ?_)
  · skip
    first | with_reducible replace h3 := of_decide_eq_true h3 | with_reducible replace h3 := bn_T h3 | with_reducible replace h3 := bb_T h3 | skip
    refine WT_seq ?_
    refine WT_region ?_
    refine WL_v rfl (ov_build rfl (run_build_lone _)) ?_
    refine WL_v rfl (ov_iface rfl mi_lone) ?_
    refine WL_v rfl (ov_assign rfl) ?_
    refine WL_nil ?_
    exact WT_ret1 Try.func75 Try.results75 rfl ⟨by simp [workV, h3], hH⟩
  first | with_reducible replace h3 := of_decide_eq_false h3 | with_reducible replace h3 := bn_F h3 | with_reducible replace h3 := bb_F h3 | skip
  refine WT_seq ?_
  refine WT_region ?_
  refine WL_v rfl (ov_eql rfl rfl) ?_
  refine WL_v rfl (ov_assign rfl) ?_
  refine WL_nil ?_
  refine WT_cond rfl (fun h4 => ?_) (fun h4 => ?_)
  · skip
    first | with_reducible replace h4 := of_decide_eq_true h4 | with_reducible replace h4 := bn_T h4 | with_reducible replace h4 := bb_T h4 | skip
    refine WT_seq ?_
    refine WT_region ?_
    refine WL_v rfl (ov_build rfl (run_build_lone _)) ?_
    refine WL_v rfl (ov_iface rfl mi_lone) ?_
    refine WL_v rfl (ov_assign rfl) ?_
    refine WL_nil ?_
    exact WT_ret1 Try.func75 Try.results75 rfl ⟨by simp [workV, h4], hH⟩
  first | with_reducible replace h4 := of_decide_eq_false h4 | with_reducible replace h4 := bn_F h4 | with_reducible replace h4 := bb_F h4 | skip
  refine WT_seq ?_
  refine WT_region ?_
  refine WL_v rfl (ov_eql rfl rfl) ?_
  refine WL_v rfl (ov_assign rfl) ?_
  refine WL_nil ?_
  refine WT_cond rfl (fun h5 => ?_) (fun h5 => ?_)
  · skip
    first | with_reducible replace h5 := of_decide_eq_true h5 | with_reducible replace h5 := bn_T h5 | with_reducible replace h5 := bb_T h5 | skip
    refine WT_seq ?_
    refine WT_region ?_
    refine WL_v rfl (ov_build rfl (run_build_lone _)) ?_
    refine WL_v rfl (ov_iface rfl mi_lone) ?_
    refine WL_v rfl (ov_assign rfl) ?_
    refine WL_nil ?_
    exact WT_ret1 Try.func75 Try.results75 rfl ⟨by simp [workV, h5], hH⟩
  first | with_reducible replace h5 := of_decide_eq_false h5 | with_reducible replace h5 := bn_F h5 | with_reducible replace h5 := bb_F h5 | skip
  refine WT_skip ?_
  refine WT_inBlock ?_
  refine WT_seq ?_
  refine WT_region ?_
  refine WL_v rfl (ov_assign rfl) ?_
  refine WL_nil ?_
  exact WT_ret1 Try.func75 Try.results75 rfl ⟨by simp [workV, h0, h1, h2, h3, h4, h5], hH⟩

theorem workV_nil (k : Int) : ((!kindOk k) = true ∧ workV k = .nilIface) ∨ ((!kindOk k) = false ∧ ∃ u z, workV k = .iface u z) := by
  rcases kindCases k with rfl | rfl | rfl | rfl | rfl | rfl | hk
  · exact .inr ⟨by decide, _, _, rfl⟩
  · exact .inr ⟨by decide, _, _, rfl⟩
  · exact .inr ⟨by decide, _, _, rfl⟩
  · exact .inr ⟨by decide, _, _, rfl⟩
  · exact .inr ⟨by decide, _, _, rfl⟩
  · exact .inr ⟨by decide, _, _, rfl⟩
  · refine .inl ⟨by simp [hk], ?_⟩
    have : ¬ (0 ≤ k ∧ k ≤ 5) := by simpa [kindOk] using hk
    unfold workV
    rw [if_neg (by omega), if_neg (by omega), if_neg (by omega), if_neg (by omega), if_neg (by omega), if_neg (by omega)]

theorem kindValid_ok (hH : H w h Ls) (k : Int) : Rets Try.prog 85 #[.int .i64 k] w fun v w' => v = .bool (kindOk k) ∧ H w' h Ls := by
  refine rets_enter Try.func85 rfl Try.ntmps85 (by simp) ?_
  refine WT_seq ?_
  refine WT_region ?_
  refine WL_v rfl (ov_assign rfl) ?_
  refine WL_nil ?_
  refine WT_seq ?_
  refine WT_region ?_
  refine WL_v rfl (ov_move rfl) ?_
  refine WL_call rfl rfl cf_impl_workOf (workOf_ok hH k) ?_; rintro _ w1 ⟨rfl, hH1⟩
  refine WL_v rfl (ov_neqNil rfl rfl Try.underlying99 (workV_nil k)) ?_
  refine WL_v rfl (ov_assign rfl) ?_
  refine WL_nil ?_
  exact WT_ret1 Try.func85 Try.results85 rfl ⟨by simp, hH1⟩

theorem cm_given (W : World) : (callMethod (.iface 128 (.agg #[])) "loop.example/workplans/impl.needs" #[]).run Try.prog W = .ok (.enter 176 #[.agg #[]]) W := by kernel_rfl
theorem cm_pair (f : Nat) (W : World) : (callMethod (.iface 103 (.agg #[.func (.func f) #[] #[]])) "loop.example/workplans/impl.needs" #[]).run Try.prog W = .ok (.enter 76 #[.agg #[.func (.func f) #[] #[]]]) W := by kernel_rfl
theorem cm_lone (f : Nat) (W : World) : (callMethod (.iface 107 (.agg #[.func (.func f) #[] #[]])) "loop.example/workplans/impl.needs" #[]).run Try.prog W = .ok (.enter 77 #[.agg #[.func (.func f) #[] #[]]]) W := by kernel_rfl

theorem needs_given (hH : H w h Ls) (u : Value) : Rets Try.prog 176 #[u] w fun v w' => v = .int .i64 0 ∧ H w' h Ls := by
  refine rets_enter Try.func176 rfl Try.ntmps176 (by simp) ?_
  refine WT_seq ?_
  refine WT_region ?_
  refine WL_box _ rfl hH rfl rfl ?_; rintro g w1 hH1
  refine WL_v rfl (ov_assign rfl) ?_
  refine WL_nil ?_
  refine WT_seq ?_
  refine WT_region ?_
  refine WL_v rfl (ov_assign rfl) ?_
  refine WL_nil ?_
  exact WT_ret1 Try.func176 Try.results176 rfl ⟨rfl, hH1.drop⟩
theorem needs_pair (hH : H w h Ls) (u : Value) : Rets Try.prog 76 #[u] w fun v w' => v = .int .i64 2 ∧ H w' h Ls := by
  refine rets_enter Try.func76 rfl Try.ntmps76 (by simp) ?_
  refine WT_seq ?_
  refine WT_region ?_
  refine WL_box _ rfl hH rfl rfl ?_; rintro g w1 hH1
  refine WL_v rfl (ov_assign rfl) ?_
  refine WL_nil ?_
  refine WT_seq ?_
  refine WT_region ?_
  refine WL_v rfl (ov_assign rfl) ?_
  refine WL_nil ?_
  exact WT_ret1 Try.func76 Try.results76 rfl ⟨rfl, hH1.drop⟩
theorem needs_lone (hH : H w h Ls) (u : Value) : Rets Try.prog 77 #[u] w fun v w' => v = .int .i64 1 ∧ H w' h Ls := by
  refine rets_enter Try.func77 rfl Try.ntmps77 (by simp) ?_
  refine WT_seq ?_
  refine WT_region ?_
  refine WL_box _ rfl hH rfl rfl ?_; rintro g w1 hH1
  refine WL_v rfl (ov_assign rfl) ?_
  refine WL_nil ?_
  refine WT_seq ?_
  refine WT_region ?_
  refine WL_v rfl (ov_assign rfl) ?_
  refine WL_nil ?_
  exact WT_ret1 Try.func77 Try.results77 rfl ⟨rfl, hH1.drop⟩

theorem needs_of (k : Int) (hk : kindOk k = true) : ∃ (f : Nat) (ws : List Value), (∀ W, (callMethod (workV k) "loop.example/workplans/impl.needs" #[]).run Try.prog W = .ok (.enter f ws.toArray) W) ∧
    ∀ {h : GH} {Ls : List Heaplet} {w : World}, H w h Ls → Rets Try.prog f ws.toArray w fun v w' => v = .int .i64 (kindNeeds k) ∧ H w' h Ls := by
  rcases (kindOk_iff k).1 hk with rfl | rfl | rfl | rfl | rfl | rfl
  · exact ⟨_, [_], fun W => cm_given W, fun hH => needs_given hH _⟩
  · exact ⟨_, [_], fun W => cm_pair _ W, fun hH => needs_pair hH _⟩
  · exact ⟨_, [_], fun W => cm_pair _ W, fun hH => needs_pair hH _⟩
  · exact ⟨_, [_], fun W => cm_lone _ W, fun hH => needs_lone hH _⟩
  · exact ⟨_, [_], fun W => cm_lone _ W, fun hH => needs_lone hH _⟩
  · exact ⟨_, [_], fun W => cm_lone _ W, fun hH => needs_lone hH _⟩

theorem kindNeeds_bad {k : Int} (hk : kindOk k = false) : kindNeeds k = -1 := by
  have : ¬ (0 ≤ k ∧ k ≤ 5) := by simpa [kindOk] using hk
  unfold kindNeeds
  rw [if_neg (by omega), if_neg (by omega), if_neg (by omega)]

theorem kindNeeds_ok (hH : H w h Ls) (k : Int) : Rets Try.prog 114 #[.int .i64 k] w fun v w' => v = .int .i64 (kindNeeds k) ∧ H w' h Ls := by
  refine rets_enter Try.func114 rfl Try.ntmps114 (by simp) ?_
  refine WT_seq ?_
  refine WT_region ?_
  refine WL_v rfl (ov_assign rfl) ?_
  refine WL_nil ?_
  refine WT_seq ?_
  refine WT_region ?_
  refine WL_v rfl (ov_move rfl) ?_
  refine WL_call rfl rfl cf_impl_workOf (workOf_ok hH k) ?_; rintro _ w1 ⟨rfl, hH1⟩
  refine WL_v rfl (ov_assign rfl) ?_
  refine WL_nil ?_
  refine WT_seq ?_
  refine WT_seq ?_
  refine WT_region ?_
  refine WL_v rfl (ov_move rfl) ?_
  refine WL_v rfl (ov_eqlNil rfl rfl Try.underlying99 (workV_nil k)) ?_
  refine WL_nil ?_
  refine WT_cond rfl (fun hk => ?_) (fun hk => ?_)
  · skip
    first | with_reducible replace hk := of_decide_eq_true hk | with_reducible replace hk := bn_T hk | with_reducible replace hk := bb_T hk | skip
    refine WT_seq ?_
    refine WT_region ?_
    refine WL_v rfl (ov_assign rfl) ?_
    refine WL_nil ?_
    exact WT_ret1 Try.func114 Try.results114 rfl ⟨by rw [kindNeeds_bad hk], hH1⟩
  first | with_reducible replace hk := of_decide_eq_false hk | with_reducible replace hk := bn_F hk | with_reducible replace hk := bb_F hk | skip
  obtain ⟨f, ws, hcm, hcall⟩ := needs_of k hk
  refine WT_skip ?_
  refine WT_seq ?_
  refine WT_region ?_
  refine WL_v rfl (ov_move rfl) ?_
  refine WL_invoke rfl rfl rfl (hcm) (hcall hH1) ?_; rintro _ w2 ⟨rfl, hH2⟩
  refine WL_v rfl (ov_assign rfl) ?_
  refine WL_nil ?_
  exact WT_ret1 Try.func114 Try.results114 rfl ⟨rfl, hH2⟩

theorem costKind_ok (hH : H w h Ls) (k : Int) : Rets Try.prog 53 #[.int .i64 k] w fun v w' => v = .int .i64 (costKind k) ∧ H w' h Ls := by
  refine rets_enter Try.func53 rfl Try.ntmps53 (by simp) ?_
  refine WT_seq ?_
  refine WT_region ?_
  refine WL_v rfl (ov_assign rfl) ?_
  refine WL_nil ?_
  refine WT_seq ?_
  refine WT_block ?_
  refine WT_seq ?_
  refine WT_region ?_
  refine WL_v rfl (ov_move rfl) ?_
  refine WL_call rfl rfl cf_impl_KindValid (kindValid_ok hH k) ?_; rintro _ w1 ⟨rfl, hH1⟩
  refine WL_v rfl (ov_not rfl) ?_
  refine WL_v rfl (ov_assign rfl) ?_
  refine WL_nil ?_
  refine WT_cond rfl (fun hk => ?_) (fun hk => ?_)
  · skip
    first | with_reducible replace hk := of_decide_eq_true hk | with_reducible replace hk := bn_T hk | with_reducible replace hk := bb_T hk | skip
    refine WT_seq ?_
    refine WT_region ?_
    refine WL_v rfl (ov_assign rfl) ?_
    refine WL_nil ?_
    exact WT_ret1 Try.func53 Try.results53 rfl ⟨by simp [costKind, hk], hH1⟩
  first | with_reducible replace hk := of_decide_eq_false hk | with_reducible replace hk := bn_F hk | with_reducible replace hk := bb_F hk | skip
  by_cases h0 : k = 0
  · skip
    refine WT_seq ?_
    refine WT_region ?_
    refine WL_v rfl (ov_move rfl) ?_
    refine WL_v rfl (ov_T (ov_eql rfl rfl) (by first | exact decide_eq_true h0 | exact nb_T h0 | exact mb_T h0 | exact h0 | (simp only [decide_eq_true_eq]; omega) | simpa using h0)) ?_
    refine WL_v rfl (ov_move rfl) ?_
    refine WL_guardOff rfl rfl rfl rfl ?_
    refine WL_guardOff rfl rfl rfl rfl ?_
    refine WL_v rfl (ov_pickT rfl rfl) ?_
    refine WL_v rfl (ov_assign rfl) ?_
    refine WL_nil ?_
    refine WT_condT rfl ?_
    refine WT_seq ?_
    refine WT_region ?_
    refine WL_v rfl (ov_assign rfl) ?_
    refine WL_nil ?_
    exact WT_ret1 Try.func53 Try.results53 rfl ⟨by rw [costKind, if_pos hk]; simp [kindCost, h0], hH1⟩
  by_cases h5 : k = 5
  · skip
    refine WT_seq ?_
    refine WT_region ?_
    refine WL_v rfl (ov_move rfl) ?_
    refine WL_v rfl (ov_F (ov_eql rfl rfl) (by first | exact decide_eq_false h0 | exact nb_F h0 | exact mb_F h0 | exact h0 | (simp only [decide_eq_false_iff_not]; omega) | simpa using h0)) ?_
    refine WL_v rfl (ov_move rfl) ?_
    refine WL_guardOn rfl rfl ?_
    refine WL_v rfl (ov_move rfl) ?_
    refine WL_guardOn rfl rfl ?_
    refine WL_v rfl (ov_T (ov_eql rfl rfl) (by first | exact decide_eq_true h5 | exact nb_T h5 | exact mb_T h5 | exact h5 | (simp only [decide_eq_true_eq]; omega) | simpa using h5)) ?_
    refine WL_v rfl (ov_pickF rfl rfl) ?_
    refine WL_v rfl (ov_assign rfl) ?_
    refine WL_nil ?_
    refine WT_condT rfl ?_
    refine WT_seq ?_
    refine WT_region ?_
    refine WL_v rfl (ov_assign rfl) ?_
    refine WL_nil ?_
    exact WT_ret1 Try.func53 Try.results53 rfl ⟨by rw [costKind, if_pos hk]; simp [kindCost, h5], hH1⟩
  refine WT_seq ?_
  refine WT_region ?_
  refine WL_v rfl (ov_move rfl) ?_
  refine WL_v rfl (ov_F (ov_eql rfl rfl) (by first | exact decide_eq_false h0 | exact nb_F h0 | exact mb_F h0 | exact h0 | (simp only [decide_eq_false_iff_not]; omega) | simpa using h0)) ?_
  refine WL_v rfl (ov_move rfl) ?_
  refine WL_guardOn rfl rfl ?_
  refine WL_v rfl (ov_move rfl) ?_
  refine WL_guardOn rfl rfl ?_
  refine WL_v rfl (ov_F (ov_eql rfl rfl) (by first | exact decide_eq_false h5 | exact nb_F h5 | exact mb_F h5 | exact h5 | (simp only [decide_eq_false_iff_not]; omega) | simpa using h5)) ?_
  refine WL_v rfl (ov_pickF rfl rfl) ?_
  refine WL_v rfl (ov_assign rfl) ?_
  refine WL_nil ?_
  refine WT_condF rfl ?_
  refine WT_seq ?_
  refine WT_region ?_
  refine WL_v rfl (ov_move rfl) ?_
  refine WL_v rfl (ov_eql rfl rfl) ?_
  refine WL_v rfl (ov_assign rfl) ?_
  refine WL_nil ?_
  refine WT_cond rfl (fun h4 => ?_) (fun h4 => ?_)
  · skip
    first | with_reducible replace h4 := of_decide_eq_true h4 | with_reducible replace h4 := bn_T h4 | with_reducible replace h4 := bb_T h4 | skip
    refine WT_seq ?_
    refine WT_region ?_
    refine WL_v rfl (ov_assign rfl) ?_
    refine WL_nil ?_
    exact WT_ret1 Try.func53 Try.results53 rfl ⟨by rw [costKind, if_pos hk]; simp [kindCost, h4], hH1⟩
  first | with_reducible replace h4 := of_decide_eq_false h4 | with_reducible replace h4 := bn_F h4 | with_reducible replace h4 := bb_F h4 | skip
  refine WT_skip ?_
  refine WT_inBlock ?_
  refine WT_seq ?_
  refine WT_region ?_
  refine WL_v rfl (ov_assign rfl) ?_
  refine WL_nil ?_
  exact WT_ret1 Try.func53 Try.results53 rfl ⟨by rw [costKind, if_pos hk]; simp [kindCost, h0, h4, h5], hH1⟩

theorem l6In_ok (hH : H w h Ls) (n lo hi : Int) : Rets Try.prog 51 #[.int .i64 n, .int .i64 lo, .int .i64 hi] w fun v w' => v = .bool (decide (lo ≤ n ∧ n ≤ hi)) ∧ H w' h Ls := by
  refine rets_enter Try.func51 rfl Try.ntmps51 (by simp) ?_
  by_cases h0 : lo ≤ n
  · skip
    refine WT_seq ?_
    refine WT_region ?_
    refine WL_v rfl (ov_assign rfl) ?_
    refine WL_nil ?_
    refine WT_seq ?_
    refine WT_region ?_
    refine WL_v rfl (ov_move rfl) ?_
    refine WL_v rfl (ov_move rfl) ?_
    refine WL_v rfl (ov_T (ov_geq rfl rfl) (by first | exact decide_eq_true h0 | exact nb_T h0 | exact mb_T h0 | exact h0 | (simp only [decide_eq_true_eq]; omega) | simpa using h0)) ?_
    refine WL_v rfl (ov_move rfl) ?_
    refine WL_guardOn rfl rfl ?_
    refine WL_v rfl (ov_move rfl) ?_
    refine WL_guardOn rfl rfl ?_
    refine WL_v rfl (ov_move rfl) ?_
    refine WL_guardOn rfl rfl ?_
    refine WL_v rfl (ov_leq rfl rfl) ?_
    refine WL_v rfl (ov_pickT rfl rfl) ?_
    refine WL_v rfl (ov_assign rfl) ?_
    refine WL_nil ?_
    exact WT_ret1 Try.func51 Try.results51 rfl ⟨by simp [h0], hH⟩
  refine WT_seq ?_
  refine WT_region ?_
  refine WL_v rfl (ov_assign rfl) ?_
  refine WL_nil ?_
  refine WT_seq ?_
  refine WT_region ?_
  refine WL_v rfl (ov_move rfl) ?_
  refine WL_v rfl (ov_move rfl) ?_
  refine WL_v rfl (ov_F (ov_geq rfl rfl) (by first | exact decide_eq_false h0 | exact nb_F h0 | exact mb_F h0 | exact h0 | (simp only [decide_eq_false_iff_not]; omega) | simpa using h0)) ?_
  refine WL_v rfl (ov_move rfl) ?_
  refine WL_guardOff rfl rfl rfl rfl ?_
  refine WL_guardOff rfl rfl rfl rfl ?_
  refine WL_guardOff rfl rfl rfl rfl ?_
  refine WL_v rfl (ov_pickF rfl rfl) ?_
  refine WL_v rfl (ov_assign rfl) ?_
  refine WL_nil ?_
  exact WT_ret1 Try.func51 Try.results51 rfl ⟨by simp [h0], hH⟩

theorem sKindValid_ok (hH : H w h Ls) (k : Int) : Rets Try.prog 117 #[.int .i64 k] w fun v w' => v = .bool (kindOk k) ∧ H w' h Ls := by
  refine rets_enter Try.func117 rfl Try.ntmps117 (by simp) ?_
  refine WT_seq ?_
  refine WT_region ?_
  refine WL_v rfl (ov_assign rfl) ?_
  refine WL_nil ?_
  refine WT_seq ?_
  refine WT_region ?_
  refine WL_v rfl (ov_move rfl) ?_
  refine WL_call rfl rfl cf_spec_l6In (l6In_ok hH k 0 5) ?_; rintro _ w1 ⟨rfl, hH1⟩
  refine WL_v rfl (ov_assign rfl) ?_
  refine WL_nil ?_
  exact WT_ret1 Try.func117 Try.results117 rfl ⟨rfl, hH1⟩

theorem sKindNeeds_ok (hH : H w h Ls) (k : Int) : Rets Try.prog 101 #[.int .i64 k] w fun v w' => v = .int .i64 (kindNeeds k) ∧ H w' h Ls := by
  refine rets_enter Try.func101 rfl Try.ntmps101 (by simp) ?_
  refine WT_seq ?_
  refine WT_region ?_
  refine WL_v rfl (ov_assign rfl) ?_
  refine WL_nil ?_
  refine WT_seq ?_
  refine WT_block ?_
  refine WT_seq ?_
  refine WT_region ?_
  refine WL_v rfl (ov_move rfl) ?_
  refine WL_call rfl rfl cf_spec_KindValid (sKindValid_ok hH k) ?_; rintro _ w1 ⟨rfl, hH1⟩
  refine WL_v rfl (ov_not rfl) ?_
  refine WL_v rfl (ov_assign rfl) ?_
  refine WL_nil ?_
  refine WT_cond rfl (fun hk => ?_) (fun hk => ?_)
  · skip
    first | with_reducible replace hk := of_decide_eq_true hk | with_reducible replace hk := bn_T hk | with_reducible replace hk := bb_T hk | skip
    refine WT_seq ?_
    refine WT_region ?_
    refine WL_v rfl (ov_assign rfl) ?_
    refine WL_nil ?_
    exact WT_ret1 Try.func101 Try.results101 rfl ⟨by rw [kindNeeds_bad hk], hH1⟩
  first | with_reducible replace hk := of_decide_eq_false hk | with_reducible replace hk := bn_F hk | with_reducible replace hk := bb_F hk | skip
  have hk' := (kindOk_iff k).1 hk
  refine WT_seq ?_
  refine WT_region ?_
  refine WL_v rfl (ov_move rfl) ?_
  refine WL_v rfl (ov_eql rfl rfl) ?_
  refine WL_v rfl (ov_assign rfl) ?_
  refine WL_nil ?_
  refine WT_cond rfl (fun h0 => ?_) (fun h0 => ?_)
  · skip
    first | with_reducible replace h0 := of_decide_eq_true h0 | with_reducible replace h0 := bn_T h0 | with_reducible replace h0 := bb_T h0 | skip
    refine WT_seq ?_
    refine WT_region ?_
    refine WL_v rfl (ov_assign rfl) ?_
    refine WL_nil ?_
    exact WT_ret1 Try.func101 Try.results101 rfl ⟨by simp [kindNeeds, h0], hH1⟩
  first | with_reducible replace h0 := of_decide_eq_false h0 | with_reducible replace h0 := bn_F h0 | with_reducible replace h0 := bb_F h0 | skip
  by_cases h1 : k = 1
  · skip
    refine WT_seq ?_
    refine WT_region ?_
    refine WL_v rfl (ov_move rfl) ?_
    refine WL_v rfl (ov_T (ov_eql rfl rfl) (by first | exact decide_eq_true h1 | exact nb_T h1 | exact mb_T h1 | exact h1 | (simp only [decide_eq_true_eq]; omega) | simpa using h1)) ?_
    refine WL_v rfl (ov_move rfl) ?_
    refine WL_guardOff rfl rfl rfl rfl ?_
    refine WL_guardOff rfl rfl rfl rfl ?_
    refine WL_v rfl (ov_pickT rfl rfl) ?_
    refine WL_v rfl (ov_assign rfl) ?_
    refine WL_nil ?_
    refine WT_condT rfl ?_
    refine WT_seq ?_
    refine WT_region ?_
    refine WL_v rfl (ov_assign rfl) ?_
    refine WL_nil ?_
    exact WT_ret1 Try.func101 Try.results101 rfl ⟨by simp [kindNeeds, h1], hH1⟩
  refine WT_seq ?_
  refine WT_region ?_
  refine WL_v rfl (ov_move rfl) ?_
  refine WL_v rfl (ov_F (ov_eql rfl rfl) (by first | exact decide_eq_false h1 | exact nb_F h1 | exact mb_F h1 | exact h1 | (simp only [decide_eq_false_iff_not]; omega) | simpa using h1)) ?_
  refine WL_v rfl (ov_move rfl) ?_
  refine WL_guardOn rfl rfl ?_
  refine WL_v rfl (ov_move rfl) ?_
  refine WL_guardOn rfl rfl ?_
  refine WL_v rfl (ov_eql rfl rfl) ?_
  refine WL_v rfl (ov_pickF rfl rfl) ?_
  refine WL_v rfl (ov_assign rfl) ?_
  refine WL_nil ?_
  refine WT_cond rfl (fun h2 => ?_) (fun h2 => ?_)
  · skip
    first | with_reducible replace h2 := of_decide_eq_true h2 | with_reducible replace h2 := bn_T h2 | with_reducible replace h2 := bb_T h2 | skip
    refine WT_seq ?_
    refine WT_region ?_
    refine WL_v rfl (ov_assign rfl) ?_
    refine WL_nil ?_
    exact WT_ret1 Try.func101 Try.results101 rfl ⟨by simp [kindNeeds, h2], hH1⟩
  first | with_reducible replace h2 := of_decide_eq_false h2 | with_reducible replace h2 := bn_F h2 | with_reducible replace h2 := bb_F h2 | skip
  refine WT_skip ?_
  refine WT_inBlock ?_
  refine WT_seq ?_
  refine WT_region ?_
  refine WL_v rfl (ov_assign rfl) ?_
  refine WL_nil ?_
  exact WT_ret1 Try.func101 Try.results101 rfl ⟨by rw [kindNeeds, if_neg h0, if_neg (by omega), if_pos (by omega)], hH1⟩

theorem l31Cost_ok (hH : H w h Ls) (k : Int) : Rets Try.prog 84 #[.int .i64 k] w fun v w' => v = .int .i64 (kindCost k) ∧ H w' h Ls := by
  refine rets_enter Try.func84 rfl Try.ntmps84 (by simp) ?_
  by_cases h0 : k = 0
  · skip
    refine WT_seq ?_
    refine WT_region ?_
    refine WL_v rfl (ov_assign rfl) ?_
    refine WL_nil ?_
    refine WT_seq ?_
    refine WT_seq ?_
    refine WT_region ?_
    refine WL_v rfl (ov_move rfl) ?_
    refine WL_nil ?_
    refine WT_block ?_
    refine WT_seq ?_
    refine WT_seq ?_
    refine WT_region ?_
    refine WL_v rfl (ov_T (ov_eql rfl rfl) (by first | exact decide_eq_true h0 | exact nb_T h0 | exact mb_T h0 | exact h0 | (simp only [decide_eq_true_eq]; omega) | simpa using h0)) ?_
    refine WL_v rfl (ov_assign rfl) ?_
    refine WL_nil ?_
    refine WT_condT rfl ?_
    refine WT_skip ?_
    refine WT_condT rfl ?_
    refine WT_seq ?_
    refine WT_region ?_
    refine WL_v rfl (ov_assign rfl) ?_
    refine WL_nil ?_
    exact WT_ret1 Try.func84 Try.results84 rfl ⟨by simp [kindCost, h0], hH⟩
  by_cases h5 : k = 5
  · skip
    refine WT_seq ?_
    refine WT_region ?_
    refine WL_v rfl (ov_assign rfl) ?_
    refine WL_nil ?_
    refine WT_seq ?_
    refine WT_seq ?_
    refine WT_region ?_
    refine WL_v rfl (ov_move rfl) ?_
    refine WL_nil ?_
    refine WT_block ?_
    refine WT_seq ?_
    refine WT_seq ?_
    refine WT_region ?_
    refine WL_v rfl (ov_F (ov_eql rfl rfl) (by first | exact decide_eq_false h0 | exact nb_F h0 | exact mb_F h0 | exact h0 | (simp only [decide_eq_false_iff_not]; omega) | simpa using h0)) ?_
    refine WL_v rfl (ov_assign rfl) ?_
    refine WL_nil ?_
    refine WT_condF rfl ?_
    refine WT_region ?_
    refine WL_v rfl (ov_T (ov_eql rfl rfl) (by first | exact decide_eq_true h5 | exact nb_T h5 | exact mb_T h5 | exact h5 | (simp only [decide_eq_true_eq]; omega) | simpa using h5)) ?_
    refine WL_v rfl (ov_assign rfl) ?_
    refine WL_nil ?_
    refine WT_condT rfl ?_
    refine WT_seq ?_
    refine WT_region ?_
    refine WL_v rfl (ov_assign rfl) ?_
    refine WL_nil ?_
    exact WT_ret1 Try.func84 Try.results84 rfl ⟨by simp [kindCost, h5], hH⟩
  refine WT_seq ?_
  refine WT_region ?_
  refine WL_v rfl (ov_assign rfl) ?_
  refine WL_nil ?_
  refine WT_seq ?_
  refine WT_seq ?_
  refine WT_region ?_
  refine WL_v rfl (ov_move rfl) ?_
  refine WL_nil ?_
  refine WT_block ?_
  refine WT_seq ?_
  refine WT_seq ?_
  refine WT_region ?_
  refine WL_v rfl (ov_F (ov_eql rfl rfl) (by first | exact decide_eq_false h0 | exact nb_F h0 | exact mb_F h0 | exact h0 | (simp only [decide_eq_false_iff_not]; omega) | simpa using h0)) ?_
  refine WL_v rfl (ov_assign rfl) ?_
  refine WL_nil ?_
  refine WT_condF rfl ?_
  refine WT_region ?_
  refine WL_v rfl (ov_F (ov_eql rfl rfl) (by first | exact decide_eq_false h5 | exact nb_F h5 | exact mb_F h5 | exact h5 | (simp only [decide_eq_false_iff_not]; omega) | simpa using h5)) ?_
  refine WL_v rfl (ov_assign rfl) ?_
  refine WL_nil ?_
  refine WT_condF rfl ?_
  refine WT_seq ?_
  refine WT_region ?_
  refine WL_v rfl (ov_eql rfl rfl) ?_
  refine WL_v rfl (ov_assign rfl) ?_
  refine WL_nil ?_
  refine WT_cond rfl (fun h4 => ?_) (fun h4 => ?_)
  · skip
    first | with_reducible replace h4 := of_decide_eq_true h4 | with_reducible replace h4 := bn_T h4 | with_reducible replace h4 := bb_T h4 | skip
    refine WT_seq ?_
    refine WT_region ?_
    refine WL_v rfl (ov_assign rfl) ?_
    refine WL_nil ?_
    exact WT_ret1 Try.func84 Try.results84 rfl ⟨by simp [kindCost, h4], hH⟩
  first | with_reducible replace h4 := of_decide_eq_false h4 | with_reducible replace h4 := bn_F h4 | with_reducible replace h4 := bb_F h4 | skip
  refine WT_skip ?_
  refine WT_inBlock ?_
  refine WT_seq ?_
  refine WT_region ?_
  refine WL_v rfl (ov_assign rfl) ?_
  refine WL_nil ?_
  exact WT_ret1 Try.func84 Try.results84 rfl ⟨by simp [kindCost, h0, h4, h5], hH⟩

end
end Go.Proofs.Ytafljegjdanldaa

/- Walks: rows, nodes and plans that are valid: the reference. -/
namespace Go.Proofs.Ytafljegjdanldaa
open Go.RowKit

section
variable {h : GH} {Ls : List Heaplet} {w : World}

theorem sRowValid_ok (hH : H w h Ls) {rv : Value} {r : List Int} (hR : Ints h rv r) : Rets Try.prog 102 #[rv] w fun v w' => v = .bool (rowOk r) ∧ H w' h Ls := by
  have hlim := hR.sl.lim
  refine rets_enter Try.func102 rfl Try.ntmps102 (by simp) ?_
  refine WT_seq ?_
  refine WT_region ?_
  refine WL_v rfl (ov_assign rfl) ?_
  refine WL_nil ?_
  refine WT_seq ?_
  refine WT_seq ?_
  refine WT_region ?_
  refine WL_v rfl (ov_assign rfl) ?_
  refine WL_nil ?_
  refine WT_block ?_
  refine WT_while (fun s : Nat => [(0, rv), (3, .int .i64 (s : Int))]) (fun k w => k ≤ r.length ∧ (∀ j (hj : j < k) (hjr : j < r.length), 0 ≤ r[j] ∧ r[j] ≤ 1008) ∧ H w h Ls) (fun k => r.length - k) 0 (by repeat (first | exact trivial | refine ⟨rfl, ?_⟩)) ⟨by omega, by omega, hH⟩ ?_
  clear hH
  rintro k w1 ⟨hk, hall, hH⟩ again
  refine WT_seq ?_
  refine WT_seq ?_
  refine WT_region ?_
  refine WL_v rfl (ov_move rfl) ?_
  refine WL_v rfl (ov_move rfl) ?_
  refine WL_v rfl (ov_len rfl hR.sl st_sl_int) ?_
  refine WL_v rfl (ov_lss rfl rfl) ?_
  refine WL_nil ?_
  refine WT_cond rfl (fun hc => ?_) (fun hc => ?_)
  · skip
    first | with_reducible replace hc := of_decide_eq_true hc | with_reducible replace hc := bn_T hc | with_reducible replace hc := bb_T hc | skip
    have hkr : k < r.length := by omega
    refine WT_skip ?_
    refine WT_seq ?_
    refine WT_block ?_
    refine WT_seq ?_
    refine WT_region ?_
    refine WL_v rfl (ov_move rfl) ?_
    refine WL_v rfl (ov_move rfl) ?_
    refine WL_v rfl (ov_index rfl rfl st_sl_int hR.sl hkr) ?_
    refine WL_v rfl (ov_load rfl one_int (hR.cell hH hkr)) ?_
    refine WL_call rfl rfl cf_spec_l6In (l6In_ok hH _ _ _) ?_; rintro _ w2 ⟨rfl, hH2⟩
    refine WL_v rfl (ov_not rfl) ?_
    refine WL_nil ?_
    refine WT_cond rfl (fun hin => ?_) (fun hin => ?_)
    · skip
      first | with_reducible replace hin := of_decide_eq_true hin | with_reducible replace hin := bn_T hin | with_reducible replace hin := bb_T hin | skip
      refine WT_seq ?_
      refine WT_region ?_
      refine WL_v rfl (ov_assign rfl) ?_
      refine WL_nil ?_
      exact WT_ret1 Try.func102 Try.results102 rfl ⟨congrArg Value.bool (by rw [rowOk, List.all_eq_false.2 ⟨_, List.getElem_mem hkr, by simpa using hin⟩, Bool.false_and]), hH2⟩
    first | with_reducible replace hin := of_decide_eq_false hin | with_reducible replace hin := bn_F hin | with_reducible replace hin := bb_F hin | skip
    refine WT_skip ?_
    refine WT_inBlock ?_
    refine WT_region ?_
    refine WL_v rfl (ov_move rfl) ?_
    refine WL_v rfl (ov_add rfl rfl (by omega)) ?_
    refine WL_v rfl (ov_assign rfl) ?_
    refine WL_nil ?_
    refine again (k + 1) _ _ (by omega) (by repeat (first | exact trivial | refine ⟨rfl, ?_⟩)) ⟨by omega, fun j hj hjr => ?_, hH2⟩
    rcases Nat.lt_or_ge j k with h1 | h1
    · exact hall j h1 hjr
    · obtain rfl : j = k := by omega
      exact hin
  first | with_reducible replace hc := of_decide_eq_false hc | with_reducible replace hc := bn_F hc | with_reducible replace hc := bb_F hc | skip
  obtain rfl : k = r.length := by omega
  refine WT_exit rfl ?_
  refine WT_seq ?_
  refine WT_region ?_
  refine WL_v rfl (ov_move rfl) ?_
  refine WL_v rfl (ov_len rfl hR.sl st_sl_int) ?_
  refine WL_v rfl (ov_leq rfl rfl) ?_
  refine WL_v rfl (ov_assign rfl) ?_
  refine WL_nil ?_
  exact WT_ret1 Try.func102 Try.results102 rfl ⟨congrArg Value.bool (by rw [rowOk, List.all_eq_true.2 (fun x hx => by obtain ⟨j, hj, rfl⟩ := List.mem_iff_getElem.1 hx; simpa using hall j hj hj), Bool.true_and]; exact decide_eq_decide.2 (by omega)), hH⟩

theorem l3Wide_ok (hH : H w h Ls) {pv : Value} {p : List Nd} (hP : Plan h pv p) : Rets Try.prog 74 #[pv] w fun v w' => v = .int .i64 (wideOf p : Int) ∧ H w' h Ls := by
  have hlim := hP.sl.lim
  refine rets_enter Try.func74 rfl Try.ntmps74 (by simp) ?_
  refine WT_seq ?_
  refine WT_region ?_
  refine WL_v rfl (ov_assign rfl) ?_
  refine WL_nil ?_
  refine WT_seq ?_
  refine WT_seq ?_
  refine WT_region ?_
  refine WL_v rfl (ov_assign rfl) ?_
  refine WL_nil ?_
  refine WT_block ?_
  refine WT_while (fun s : Nat => [(0, pv), (3, .int .i64 (s : Int))]) (fun k w => k ≤ p.length ∧ wideOf p = wideOf (p.drop k) ∧ H w h Ls) (fun k => p.length - k) 0 (by repeat (first | exact trivial | refine ⟨rfl, ?_⟩)) ⟨by omega, rfl, hH⟩ ?_
  clear hH
  rintro k w1 ⟨hk, hw, hH⟩ again
  refine WT_seq ?_
  refine WT_seq ?_
  refine WT_region ?_
  refine WL_v rfl (ov_move rfl) ?_
  refine WL_v rfl (ov_move rfl) ?_
  refine WL_v rfl (ov_len rfl hP.sl st_sl_impl_Node) ?_
  refine WL_v rfl (ov_lss rfl rfl) ?_
  refine WL_nil ?_
  refine WT_cond rfl (fun hc => ?_) (fun hc => ?_)
  · skip
    first | with_reducible replace hc := of_decide_eq_true hc | with_reducible replace hc := bn_T hc | with_reducible replace hc := bb_T hc | skip
    have hkp : k < p.length := by omega
    have hdrop := List.drop_eq_getElem_cons hkp
    obtain ⟨fv, rv, hf, hr, hcell⟩ := hP.node hkp
    refine WT_skip ?_
    refine WT_seq ?_
    refine WT_block ?_
    refine WT_seq ?_
    refine WT_region ?_
    refine WL_v rfl (ov_move rfl) ?_
    refine WL_v rfl (ov_move rfl) ?_
    refine WL_v rfl (ov_index rfl rfl st_sl_impl_Node hP.sl hkp) ?_
    refine WL_v rfl (ov_field rfl fo_impl_Node_0) ?_
    refine WL_v rfl (ov_load rfl one_int (hcell _ _ hH 0 _ rfl)) ?_
    refine WL_v rfl (ov_eql rfl rfl) ?_
    refine WL_nil ?_
    refine WT_cond rfl (fun h0 => ?_) (fun h0 => ?_)
    · skip
      first | with_reducible replace h0 := of_decide_eq_true h0 | with_reducible replace h0 := bn_T h0 | with_reducible replace h0 := bb_T h0 | skip
      refine WT_seq ?_
      refine WT_region ?_
      refine WL_v rfl (ov_move rfl) ?_
      refine WL_v rfl (ov_move rfl) ?_
      refine WL_v rfl (ov_index rfl rfl st_sl_impl_Node hP.sl hkp) ?_
      refine WL_v rfl (ov_field rfl fo_impl_Node_2) ?_
      refine WL_v rfl (ov_load rfl one_sl_int (hcell _ _ hH 2 _ rfl)) ?_
      refine WL_v rfl (ov_len rfl hr.sl st_sl_int) ?_
      refine WL_v rfl (ov_assign rfl) ?_
      refine WL_nil ?_
      exact WT_ret1 Try.func74 Try.results74 rfl ⟨by rw [hw, hdrop, wideOf, if_pos h0], hH⟩
    first | with_reducible replace h0 := of_decide_eq_false h0 | with_reducible replace h0 := bn_F h0 | with_reducible replace h0 := bb_F h0 | skip
    refine WT_skip ?_
    refine WT_inBlock ?_
    refine WT_region ?_
    refine WL_v rfl (ov_move rfl) ?_
    refine WL_v rfl (ov_add rfl rfl (by omega)) ?_
    refine WL_v rfl (ov_assign rfl) ?_
    refine WL_nil ?_
    exact again (k + 1) _ _ (by omega) (by repeat (first | exact trivial | refine ⟨rfl, ?_⟩)) ⟨by omega, by rw [hw, hdrop, wideOf, if_neg h0], hH⟩
  first | with_reducible replace hc := of_decide_eq_false hc | with_reducible replace hc := bn_F hc | with_reducible replace hc := bb_F hc | skip
  obtain rfl : k = p.length := by omega
  refine WT_exit rfl ?_
  refine WT_seq ?_
  refine WT_region ?_
  refine WL_v rfl (ov_assign rfl) ?_
  refine WL_nil ?_
  exact WT_ret1 Try.func74 Try.results74 rfl ⟨by rw [hw, List.drop_length]; rfl, hH⟩

/-- A node as a value. -/
def NdV (h : GH) (v : Value) (x : Nd) : Prop := ∃ f r, v = .agg #[.int .i64 x.kind, f, r] ∧ Ints h f x.frm ∧ Ints h r x.row

theorem l3Node_ok (hH : H w h Ls) {xv : Value} {x : Nd} (hx : NdV h xv x) (i wide : Nat) (hi : i ≤ 1000000000) : Rets Try.prog 73 #[xv, .int .i64 (i : Int), .int .i64 (wide : Int)] w fun v w' => v = .bool (nodeOk x i wide) ∧ H w' h Ls := by
  obtain ⟨fv, rv, rfl, hf, hr⟩ := hx
  have hlf := hf.sl.lim
  refine rets_enter Try.func73 rfl Try.ntmps73 (by simp) ?_
  refine WT_seq ?_
  refine WT_region ?_
  refine WL_box _ rfl hH rfl rfl ?_; rintro g w1 hH1
  refine WL_v rfl (ov_assign rfl) ?_
  refine WL_nil ?_
  refine WT_seq ?_
  refine WT_seq ?_
  by_cases hn : kindNeeds x.kind = (x.frm.length : Int)
  · skip
    refine WT_join (ι := Unit) (fun _ => [(3, .pointer (some ⟨g, 0, none⟩)), (1, .int .i64 (i : Int)), (2, .int .i64 (wide : Int)), (20, .bool (!rowOk x.row))]) (fun _ w => H w h ([(g, .cells #[.int .i64 x.kind, fv, rv] 32 (0, 0))] :: Ls)) (fun joined => ?_) ?_
    · skip
      refine WT_quiet mixed (by kernel_rfl) hH1 ?_
      clear hH1
      refine WQ_v rfl (fun _ _ => ov_field rfl fo_impl_Node_0) ?_
      refine WQ_v rfl (fun _ hH => ov_load rfl one_int (hH.cb 0 rfl 0)) ?_
      refine WQ_call rfl rfl cf_spec_KindNeeds (fun _ hH => (sKindNeeds_ok hH _).mono fun _ _ hh => hh) ?_
      refine WQ_v rfl (fun _ _ => ov_field rfl fo_impl_Node_1) ?_
      refine WQ_v rfl (fun _ hH => ov_load rfl one_sl_int (hH.cb 0 rfl 1)) ?_
      refine WQ_v rfl (fun _ _ => ov_len rfl hf.sl st_sl_int) ?_
      refine WQ_v rfl (fun _ _ => ov_F (ov_neq rfl rfl) (by first | exact decide_eq_false hn | exact nb_F hn | exact mb_F hn | exact hn | (simp only [decide_eq_false_iff_not]; omega) | simpa using hn)) ?_
      refine WQ_v rfl (fun _ _ => ov_move rfl) ?_
      refine WQ_guardOn rfl rfl ?_
      refine WQ_v rfl (fun _ _ => ov_field rfl fo_impl_Node_2) ?_
      refine WQ_guardOn rfl rfl ?_
      refine WQ_v rfl (fun _ hH => ov_load rfl one_sl_int (hH.cb 0 rfl 2)) ?_
      refine WQ_guardOn rfl rfl ?_
      refine WQ_call rfl rfl cf_spec_RowValid (fun _ hH => (sRowValid_ok hH hr).mono fun _ _ hh => hh) ?_
      refine WQ_guardOn rfl rfl ?_
      refine WQ_v rfl (fun _ _ => ov_not rfl) ?_
      refine WQ_v rfl (fun _ _ => ov_pickF rfl rfl) ?_
      refine WQ_nil ?_
      intro w2 hH1
      exact joined () _ _ (by repeat (first | exact trivial | refine ⟨rfl, ?_⟩)) hH1
    clear hH1
    rintro _ w2 hH1
    refine WT_cond rfl (fun hrow => ?_) (fun hrow => ?_)
    · skip
      first | with_reducible replace hrow := of_decide_eq_true hrow | with_reducible replace hrow := bn_T hrow | with_reducible replace hrow := bb_T hrow | skip
      refine WT_seq ?_
      refine WT_region ?_
      refine WL_v rfl (ov_assign rfl) ?_
      refine WL_nil ?_
      exact WT_ret1 Try.func73 Try.results73 rfl ⟨congrArg Value.bool (by simp [nodeOk, hrow]), hH1.drop⟩
    first | with_reducible replace hrow := of_decide_eq_false hrow | with_reducible replace hrow := bn_F hrow | with_reducible replace hrow := bb_F hrow | skip
    refine WT_skip ?_
    refine WT_seq ?_
    refine WT_seq ?_
    refine WT_region ?_
    refine WL_v rfl (ov_assign rfl) ?_
    refine WL_nil ?_
    refine WT_block ?_
    refine WT_while (fun s : Nat => [(3, .pointer (some ⟨g, 0, none⟩)), (1, .int .i64 (i : Int)), (2, .int .i64 (wide : Int)), (7, .int .i64 (s : Int))]) (fun k w => k ≤ x.frm.length ∧ (∀ j (_ : j < k) (hjr : j < x.frm.length), 0 ≤ x.frm[j] ∧ x.frm[j] ≤ (i : Int) - 1) ∧ H w h ([(g, .cells #[.int .i64 x.kind, fv, rv] 32 (0, 0))] :: Ls)) (fun k => x.frm.length - k) 0 (by repeat (first | exact trivial | refine ⟨rfl, ?_⟩)) ⟨by omega, by omega, hH1⟩ ?_
    clear hH1
    rintro k w3 ⟨hk, hall, hH1⟩ again
    refine WT_seq ?_
    refine WT_seq ?_
    refine WT_region ?_
    refine WL_v rfl (ov_move rfl) ?_
    refine WL_v rfl (ov_field rfl fo_impl_Node_1) ?_
    refine WL_v rfl (ov_load rfl one_sl_int (hH1.cb 0 rfl 1)) ?_
    refine WL_v rfl (ov_len rfl hf.sl st_sl_int) ?_
    refine WL_v rfl (ov_lss rfl rfl) ?_
    refine WL_nil ?_
    refine WT_cond rfl (fun hc => ?_) (fun hc => ?_)
    · skip
      first | with_reducible replace hc := of_decide_eq_true hc | with_reducible replace hc := bn_T hc | with_reducible replace hc := bb_T hc | skip
      have hkr : k < x.frm.length := by omega
      refine WT_skip ?_
      refine WT_seq ?_
      refine WT_block ?_
      refine WT_seq ?_
      refine WT_region ?_
      refine WL_v rfl (ov_field rfl fo_impl_Node_1) ?_
      refine WL_v rfl (ov_load rfl one_sl_int (hH1.cb 0 rfl 1)) ?_
      refine WL_v rfl (ov_move rfl) ?_
      refine WL_v rfl (ov_index rfl rfl st_sl_int hf.sl hkr) ?_
      refine WL_v rfl (ov_load rfl one_int (hf.cell hH1 hkr)) ?_
      refine WL_v rfl (ov_move rfl) ?_
      refine WL_v rfl (ov_sub rfl rfl (by omega)) ?_
      refine WL_call rfl rfl cf_spec_l6In (l6In_ok hH1 _ _ _) ?_; rintro _ w4 ⟨rfl, hH2⟩
      refine WL_v rfl (ov_not rfl) ?_
      refine WL_nil ?_
      refine WT_cond rfl (fun hin => ?_) (fun hin => ?_)
      · skip
        first | with_reducible replace hin := of_decide_eq_true hin | with_reducible replace hin := bn_T hin | with_reducible replace hin := bb_T hin | skip
        refine WT_seq ?_
        refine WT_region ?_
        refine WL_v rfl (ov_assign rfl) ?_
        refine WL_nil ?_
        exact WT_ret1 Try.func73 Try.results73 rfl ⟨congrArg Value.bool (by rw [nodeOk, List.all_eq_false.2 ⟨_, List.getElem_mem hkr, by simpa using hin⟩]; simp), hH2.drop⟩
      first | with_reducible replace hin := of_decide_eq_false hin | with_reducible replace hin := bn_F hin | with_reducible replace hin := bb_F hin | skip
      refine WT_skip ?_
      refine WT_inBlock ?_
      refine WT_region ?_
      refine WL_v rfl (ov_move rfl) ?_
      refine WL_v rfl (ov_add rfl rfl (by omega)) ?_
      refine WL_v rfl (ov_assign rfl) ?_
      refine WL_nil ?_
      refine again (k + 1) _ _ (by omega) (by repeat (first | exact trivial | refine ⟨rfl, ?_⟩)) ⟨by omega, fun j hj hjr => ?_, hH2⟩
      rcases Nat.lt_or_ge j k with h1 | h1
      · exact hall j h1 hjr
      · obtain rfl : j = k := by omega
        exact hin
    first | with_reducible replace hc := of_decide_eq_false hc | with_reducible replace hc := bn_F hc | with_reducible replace hc := bb_F hc | skip
    obtain rfl : k = x.frm.length := by omega
    have hallB : x.frm.all (fun f => decide (0 ≤ f ∧ f ≤ (i : Int) - 1)) = true := List.all_eq_true.2 (fun y hy => by obtain ⟨j, hj, rfl⟩ := List.mem_iff_getElem.1 hy; simpa using hall j hj hj)
    refine WT_exit rfl ?_
    refine WT_seq ?_
    refine WT_seq ?_
    refine WT_region ?_
    refine WL_v rfl (ov_field rfl fo_impl_Node_0) ?_
    refine WL_v rfl (ov_load rfl one_int (hH1.cb 0 rfl 0)) ?_
    refine WL_v rfl (ov_eql rfl rfl) ?_
    refine WL_nil ?_
    refine WT_cond rfl (fun h0 => ?_) (fun h0 => ?_)
    · skip
      first | with_reducible replace h0 := of_decide_eq_true h0 | with_reducible replace h0 := bn_T h0 | with_reducible replace h0 := bb_T h0 | skip
      refine WT_seq ?_
      refine WT_region ?_
      refine WL_v rfl (ov_field rfl fo_impl_Node_2) ?_
      refine WL_v rfl (ov_load rfl one_sl_int (hH1.cb 0 rfl 2)) ?_
      refine WL_v rfl (ov_len rfl hr.sl st_sl_int) ?_
      refine WL_v rfl (ov_move rfl) ?_
      refine WL_v rfl (ov_eql rfl rfl) ?_
      refine WL_v rfl (ov_assign rfl) ?_
      refine WL_nil ?_
      exact WT_ret1 Try.func73 Try.results73 rfl ⟨congrArg Value.bool (by rw [nodeOk, hallB, hrow, if_pos h0, decide_eq_true hn]; simp only [Bool.true_and]; exact decide_eq_decide.2 (by omega)), hH1.drop⟩
    first | with_reducible replace h0 := of_decide_eq_false h0 | with_reducible replace h0 := bn_F h0 | with_reducible replace h0 := bb_F h0 | skip
    refine WT_skip ?_
    refine WT_seq ?_
    refine WT_region ?_
    refine WL_v rfl (ov_field rfl fo_impl_Node_2) ?_
    refine WL_v rfl (ov_load rfl one_sl_int (hH1.cb 0 rfl 2)) ?_
    refine WL_v rfl (ov_len rfl hr.sl st_sl_int) ?_
    refine WL_v rfl (ov_eql rfl rfl) ?_
    refine WL_v rfl (ov_assign rfl) ?_
    refine WL_nil ?_
    exact WT_ret1 Try.func73 Try.results73 rfl ⟨congrArg Value.bool (by rw [nodeOk, hallB, hrow, if_neg h0, decide_eq_true hn]; simp only [Bool.true_and]; exact decide_eq_decide.2 (by omega)), hH1.drop⟩
  · skip
    refine WT_quiet mixed (by kernel_rfl) hH1 ?_
    clear hH1
    refine WQ_v rfl (fun _ _ => ov_field rfl fo_impl_Node_0) ?_
    refine WQ_v rfl (fun _ hH => ov_load rfl one_int (hH.cb 0 rfl 0)) ?_
    refine WQ_call rfl rfl cf_spec_KindNeeds (fun _ hH => (sKindNeeds_ok hH _).mono fun _ _ hh => hh) ?_
    refine WQ_v rfl (fun _ _ => ov_field rfl fo_impl_Node_1) ?_
    refine WQ_v rfl (fun _ hH => ov_load rfl one_sl_int (hH.cb 0 rfl 1)) ?_
    refine WQ_v rfl (fun _ _ => ov_len rfl hf.sl st_sl_int) ?_
    refine WQ_v rfl (fun _ _ => ov_T (ov_neq rfl rfl) (by first | exact decide_eq_true hn | exact nb_T hn | exact mb_T hn | exact hn | (simp only [decide_eq_true_eq]; omega) | simpa using hn)) ?_
    refine WQ_v rfl (fun _ _ => ov_move rfl) ?_
    refine WQ_guardOff rfl rfl rfl rfl ?_
    refine WQ_guardOff rfl rfl rfl rfl ?_
    refine WQ_guardOff rfl rfl rfl rfl ?_
    refine WQ_guardOff rfl rfl rfl rfl ?_
    refine WQ_v rfl (fun _ _ => ov_pickT rfl rfl) ?_
    refine WQ_nil ?_
    intro w2 hH1
    refine WT_condT rfl ?_
    refine WT_seq ?_
    refine WT_region ?_
    refine WL_v rfl (ov_assign rfl) ?_
    refine WL_nil ?_
    exact WT_ret1 Try.func73 Try.results73 rfl ⟨congrArg Value.bool (by simp [nodeOk, hn]), hH1.drop⟩

theorem Plan.ndV {pv : Value} {p : List Nd} (hP : Plan h pv p) {i : Nat} (hi : i < p.length) : ∃ v, NdV h v p[i] ∧ ∃ f r, v = .agg [.int .i64 p[i].kind, f, r].toArray ∧ ∀ w Ls, H w h Ls → ∀ j u, [Value.int .i64 p[i].kind, f, r][j]? = some u → w.cell? (((slA pv).add (i * 3)).add j) = some u := by
  obtain ⟨f, r, h1, h2, h3⟩ := hP.node hi
  exact ⟨_, ⟨f, r, rfl, h1, h2⟩, f, r, rfl, h3⟩

theorem sPlanValid_ok (hH : H w h Ls) {pv : Value} {p : List Nd} (hP : Plan h pv p) (hl : p.length ≤ 1000000000) : Rets Try.prog 41 #[pv] w fun v w' => v = .bool (planOk p) ∧ H w' h Ls := by
  refine rets_enter Try.func41 rfl Try.ntmps41 (by simp) ?_
  refine WT_seq ?_
  refine WT_region ?_
  refine WL_v rfl (ov_assign rfl) ?_
  refine WL_nil ?_
  refine WT_seq ?_
  refine WT_seq ?_
  refine WT_region ?_
  refine WL_v rfl (ov_assign rfl) ?_
  refine WL_nil ?_
  refine WT_block ?_
  refine WT_while (fun s : Nat => [(0, pv), (3, .int .i64 (s : Int))]) (fun k w => k ≤ p.length ∧ (∀ j (_ : j < k) (hjr : j < p.length), nodeOk p[j] j (wideOf p) = true) ∧ H w h Ls) (fun k => p.length - k) 0 (by repeat (first | exact trivial | refine ⟨rfl, ?_⟩)) ⟨by omega, by omega, hH⟩ ?_
  clear hH
  rintro k w3 ⟨hk, hall, hH1⟩ again
  refine WT_seq ?_
  refine WT_seq ?_
  refine WT_region ?_
  refine WL_v rfl (ov_move rfl) ?_
  refine WL_v rfl (ov_move rfl) ?_
  refine WL_v rfl (ov_len rfl hP.sl st_sl_impl_Node) ?_
  refine WL_v rfl (ov_lss rfl rfl) ?_
  refine WL_nil ?_
  refine WT_cond rfl (fun hc => ?_) (fun hc => ?_)
  · skip
    first | with_reducible replace hc := of_decide_eq_true hc | with_reducible replace hc := bn_T hc | with_reducible replace hc := bb_T hc | skip
    have hkr : k < p.length := by omega
    obtain ⟨xv, hx, f, r, rfl, hcell⟩ := hP.ndV hkr
    refine WT_skip ?_
    refine WT_seq ?_
    refine WT_block ?_
    refine WT_seq ?_
    refine WT_quiet mixed (by kernel_rfl) hH1 ?_
    clear hH1
    refine WQ_v rfl (fun _ _ => ov_move rfl) ?_
    refine WQ_v rfl (fun _ _ => ov_move rfl) ?_
    refine WQ_v rfl (fun _ _ => ov_index rfl rfl st_sl_impl_Node hP.sl hkr) ?_
    refine WQ_v rfl (fun _ hH => ov_loadN [.int .i64 p[k].kind, f, r] rfl agg_impl_Node rfl ((hcell _ _ hH))) ?_
    refine WQ_v rfl (fun _ _ => ov_move rfl) ?_
    refine WQ_v rfl (fun _ _ => ov_move rfl) ?_
    refine WQ_call rfl rfl cf_spec_l3Wide (fun _ hH => l3Wide_ok hH hP) ?_
    refine WQ_call rfl rfl cf_spec_l3Node (fun _ hH => l3Node_ok hH hx k (wideOf p) (by omega)) ?_
    refine WQ_v rfl (fun _ _ => ov_not rfl) ?_
    refine WQ_nil ?_
    intro w2 hH1
    refine WT_cond rfl (fun hin => ?_) (fun hin => ?_)
    · skip
      first | with_reducible replace hin := of_decide_eq_true hin | with_reducible replace hin := bn_T hin | with_reducible replace hin := bb_T hin | skip
      refine WT_seq ?_
      refine WT_region ?_
      refine WL_v rfl (ov_assign rfl) ?_
      refine WL_nil ?_
      exact WT_ret1 Try.func41 Try.results41 rfl ⟨congrArg Value.bool (planOk_bad hkr hin).symm, hH1⟩
    first | with_reducible replace hin := of_decide_eq_false hin | with_reducible replace hin := bn_F hin | with_reducible replace hin := bb_F hin | skip
    refine WT_skip ?_
    refine WT_inBlock ?_
    refine WT_region ?_
    refine WL_v rfl (ov_move rfl) ?_
    refine WL_v rfl (ov_add rfl rfl (by omega)) ?_
    refine WL_v rfl (ov_assign rfl) ?_
    refine WL_nil ?_
    refine again (k + 1) _ _ (by omega) (by repeat (first | exact trivial | refine ⟨rfl, ?_⟩)) ⟨by omega, fun j hj hjr => ?_, hH1⟩
    rcases Nat.lt_or_ge j k with h1 | h1
    · exact hall j h1 hjr
    · obtain rfl : j = k := by omega
      exact hin
  first | with_reducible replace hc := of_decide_eq_false hc | with_reducible replace hc := bn_F hc | with_reducible replace hc := bb_F hc | skip
  obtain rfl : k = p.length := by omega
  refine WT_exit rfl ?_
  refine WT_seq ?_
  refine WT_region ?_
  refine WL_v rfl (ov_move rfl) ?_
  refine WL_v rfl (ov_len rfl hP.sl st_sl_impl_Node) ?_
  refine WL_v rfl (ov_leq rfl rfl) ?_
  refine WL_v rfl (ov_assign rfl) ?_
  refine WL_nil ?_
  exact WT_ret1 Try.func41 Try.results41 rfl ⟨congrArg Value.bool (by rw [planOk, List.all_eq_true.2 (fun j hj => by rw [List.mem_range] at hj; rw [getD_of hj]; exact hall j hj hj), Bool.true_and]; exact decide_eq_decide.2 (by omega)), hH1⟩
end
end Go.Proofs.Ytafljegjdanldaa

/- Walks: the program's validity of rows and nodes; the graph of a plan. -/
namespace Go.Proofs.Ytafljegjdanldaa
open Go.RowKit

section
variable {h : GH} {Ls : List Heaplet} {w : World}

theorem rowOk_len {r : List Int} (h : 6 < r.length) : rowOk r = false := by
  unfold rowOk
  rw [decide_eq_false (by omega), Bool.and_false]
theorem rowOk_bad {r : List Int} {k : Nat} (hk : k < r.length) (h : ¬ (0 ≤ r[k] ∧ r[k] ≤ 1008)) : rowOk r = false := by
  unfold rowOk
  rw [List.all_eq_false.2 ⟨_, List.getElem_mem hk, by simpa using h⟩, Bool.false_and]
theorem rowOk_good {r : List Int} (hl : r.length ≤ 6) (h : ∀ j (_ : j < r.length), 0 ≤ r[j] ∧ r[j] ≤ 1008) : rowOk r = true := by
  unfold rowOk
  rw [List.all_eq_true.2 (fun x hx => by obtain ⟨j, hj, rfl⟩ := List.mem_iff_getElem.1 hx; simpa using h j hj), decide_eq_true hl]; rfl

theorem rvValid_ok (hH : H w h Ls) {rv : Value} {r : List Int} (hR : Ints h rv r) : Rets Try.prog 121 #[rv] w fun v w' => v = .bool (rowOk r) ∧ H w' h Ls := by
  refine rets_enter Try.func121 rfl Try.ntmps121 (by simp) ?_
  refine WT_seq ?_
  refine WT_region ?_
  refine WL_v rfl (ov_assign rfl) ?_
  refine WL_nil ?_
  refine WT_seq ?_
  refine WT_seq ?_
  refine WT_region ?_
  refine WL_v rfl (ov_move rfl) ?_
  refine WL_v rfl (ov_len rfl hR.sl st_impl_rowValues) ?_
  refine WL_v rfl (ov_gtr rfl rfl) ?_
  refine WL_nil ?_
  refine WT_cond rfl (fun hl => ?_) (fun hl => ?_)
  · skip
    first | with_reducible replace hl := of_decide_eq_true hl | with_reducible replace hl := bn_T hl | with_reducible replace hl := bb_T hl | skip
    refine WT_seq ?_
    refine WT_region ?_
    refine WL_v rfl (ov_assign rfl) ?_
    refine WL_nil ?_
    exact WT_ret1 Try.func121 Try.results121 rfl ⟨by rw [rowOk_len (by omega)], hH⟩
  first | with_reducible replace hl := of_decide_eq_false hl | with_reducible replace hl := bn_F hl | with_reducible replace hl := bb_F hl | skip
  refine WT_skip ?_
  refine WT_seq ?_
  refine WT_seq ?_
  refine WT_region ?_
  refine WL_v rfl (ov_move rfl) ?_
  refine WL_v rfl (ov_len rfl hR.sl st_impl_rowValues) ?_
  refine WL_v rfl (ov_move rfl) ?_
  refine WL_nil ?_
  refine WT_block ?_
  refine WT_while (fun s : Nat => [(0, rv), (8, rv), (9, .int .i64 (r.length : Int)), (10, .int .i64 (s : Int))]) (fun k w => k ≤ r.length ∧ (∀ j (_ : j < k) (hjr : j < r.length), 0 ≤ r[j] ∧ r[j] ≤ 1008) ∧ H w h Ls) (fun k => r.length - k) 0 (by repeat (first | exact trivial | refine ⟨rfl, ?_⟩)) ⟨by omega, by omega, hH⟩ ?_
  clear hH
  rintro k w1 ⟨hk, hall, hH⟩ again
  refine WT_seq ?_
  refine WT_region ?_
  refine WL_v rfl (ov_lss rfl rfl) ?_
  refine WL_nil ?_
  refine WT_seq ?_
  refine WT_cond rfl (fun hc => ?_) (fun hc => ?_)
  · skip
    first | with_reducible replace hc := of_decide_eq_true hc | with_reducible replace hc := bn_T hc | with_reducible replace hc := bb_T hc | skip
    have hkr : k < r.length := by omega
    by_cases h1 : r[k] < 0
    · skip
      refine WT_skip ?_
      refine WT_seq ?_
      refine WT_block ?_
      refine WT_seq ?_
      refine WT_region ?_
      refine WL_v rfl (ov_index rfl rfl st_impl_rowValues hR.sl hkr) ?_
      refine WL_v rfl (ov_load rfl one_int (hR.cell hH hkr)) ?_
      refine WL_v rfl (ov_assign rfl) ?_
      refine WL_nil ?_
      refine WT_seq ?_
      refine WT_region ?_
      refine WL_v rfl (ov_move rfl) ?_
      refine WL_v rfl (ov_T (ov_lss rfl rfl) (by first | exact decide_eq_true h1 | exact nb_T h1 | exact mb_T h1 | exact h1 | (simp only [decide_eq_true_eq]; omega) | simpa using h1)) ?_
      refine WL_v rfl (ov_move rfl) ?_
      refine WL_guardOff rfl rfl rfl rfl ?_
      refine WL_guardOff rfl rfl rfl rfl ?_
      refine WL_v rfl (ov_pickT rfl rfl) ?_
      refine WL_nil ?_
      refine WT_condT rfl ?_
      refine WT_seq ?_
      refine WT_region ?_
      refine WL_v rfl (ov_assign rfl) ?_
      refine WL_nil ?_
      exact WT_ret1 Try.func121 Try.results121 rfl ⟨by rw [rowOk_bad hkr (by omega)], hH⟩
    refine WT_skip ?_
    refine WT_seq ?_
    refine WT_block ?_
    refine WT_seq ?_
    refine WT_region ?_
    refine WL_v rfl (ov_index rfl rfl st_impl_rowValues hR.sl hkr) ?_
    refine WL_v rfl (ov_load rfl one_int (hR.cell hH hkr)) ?_
    refine WL_v rfl (ov_assign rfl) ?_
    refine WL_nil ?_
    refine WT_seq ?_
    refine WT_region ?_
    refine WL_v rfl (ov_move rfl) ?_
    refine WL_v rfl (ov_F (ov_lss rfl rfl) (by first | exact decide_eq_false h1 | exact nb_F h1 | exact mb_F h1 | exact h1 | (simp only [decide_eq_false_iff_not]; omega) | simpa using h1)) ?_
    refine WL_v rfl (ov_move rfl) ?_
    refine WL_guardOn rfl rfl ?_
    refine WL_v rfl (ov_move rfl) ?_
    refine WL_guardOn rfl rfl ?_
    refine WL_v rfl (ov_geq rfl rfl) ?_
    refine WL_v rfl (ov_pickF rfl rfl) ?_
    refine WL_nil ?_
    refine WT_cond rfl (fun h2 => ?_) (fun h2 => ?_)
    · skip
      first | with_reducible replace h2 := of_decide_eq_true h2 | with_reducible replace h2 := bn_T h2 | with_reducible replace h2 := bb_T h2 | skip
      refine WT_seq ?_
      refine WT_region ?_
      refine WL_v rfl (ov_assign rfl) ?_
      refine WL_nil ?_
      exact WT_ret1 Try.func121 Try.results121 rfl ⟨by rw [rowOk_bad hkr (by omega)], hH⟩
    first | with_reducible replace h2 := of_decide_eq_false h2 | with_reducible replace h2 := bn_F h2 | with_reducible replace h2 := bb_F h2 | skip
    refine WT_skip ?_
    refine WT_inBlock ?_
    refine WT_region ?_
    refine WL_v rfl (ov_add rfl rfl (by omega)) ?_
    refine WL_v rfl (ov_move rfl) ?_
    refine WL_nil ?_
    refine again (k + 1) _ _ (by omega) (by repeat (first | exact trivial | refine ⟨rfl, ?_⟩)) ⟨by omega, fun j hj hjr => ?_, hH⟩
    rcases Nat.lt_or_ge j k with h1 | h1
    · exact hall j h1 hjr
    · obtain rfl : j = k := by omega
      omega
  first | with_reducible replace hc := of_decide_eq_false hc | with_reducible replace hc := bn_F hc | with_reducible replace hc := bb_F hc | skip
  obtain rfl : k = r.length := by omega
  refine WT_exit rfl ?_
  refine WT_seq ?_
  refine WT_region ?_
  refine WL_v rfl (ov_assign rfl) ?_
  refine WL_nil ?_
  exact WT_ret1 Try.func121 Try.results121 rfl ⟨by rw [rowOk_good (by omega) (fun j hj => hall j hj hj)], hH⟩

theorem rowValid_ok (hH : H w h Ls) {rv : Value} {r : List Int} (hR : Ints h rv r) : Rets Try.prog 115 #[rv] w fun v w' => v = .bool (rowOk r) ∧ H w' h Ls := by
  refine rets_enter Try.func115 rfl Try.ntmps115 (by simp) ?_
  refine WT_seq ?_
  refine WT_region ?_
  refine WL_v rfl (ov_assign rfl) ?_
  refine WL_nil ?_
  refine WT_seq ?_
  refine WT_region ?_
  refine WL_v rfl (ov_move rfl) ?_
  refine WL_call rfl rfl cf_impl_rowValues_valid (rvValid_ok hH hR) ?_; rintro _ w1 ⟨rfl, hH1⟩
  refine WL_v rfl (ov_assign rfl) ?_
  refine WL_nil ?_
  exact WT_ret1 Try.func115 Try.results115 rfl ⟨rfl, hH1⟩

/-- A node fits at a place, whatever the width is. -/
def fitsB (x : Nd) (i : Nat) : Bool :=
  decide (kindNeeds x.kind = (x.frm.length : Int)) && x.frm.all (fun f => decide (0 ≤ f ∧ f ≤ (i : Int) - 1)) && (if x.kind = 0 then rowOk x.row else decide (x.row.length = 0))

theorem nodeFits_ok (hH : H w h Ls) {xv : Value} {x : Nd} (hx : NdV h xv x) (i : Nat) : Rets Try.prog 97 #[xv, .int .i64 (i : Int)] w fun v w' => v = .bool (fitsB x i) ∧ H w' h Ls := by
  obtain ⟨fv, rv, rfl, hf, hr⟩ := hx
  have hlf := hf.sl.lim
  refine rets_enter Try.func97 rfl Try.ntmps97 (by simp) ?_
  refine WT_seq ?_
  refine WT_region ?_
  refine WL_box _ rfl hH rfl rfl ?_; rintro g w1 hH1
  refine WL_v rfl (ov_assign rfl) ?_
  refine WL_nil ?_
  refine WT_seq ?_
  refine WT_seq ?_
  refine WT_join (ι := Unit) (fun _ => [(2, .pointer (some ⟨g, 0, none⟩)), (1, .int .i64 (i : Int)), (19, .bool (!decide ((x.frm.length : Int) = kindNeeds x.kind)))]) (fun _ w => H w h ([(g, .cells #[.int .i64 x.kind, fv, rv] 32 (0, 0))] :: Ls)) (fun joined => ?_) ?_
  · skip
    by_cases hk : kindOk x.kind = true
    · skip
      refine WT_quiet mixed (by kernel_rfl) hH1 ?_
      clear hH1
      refine WQ_v rfl (fun _ _ => ov_field rfl fo_impl_Node_0) ?_
      refine WQ_v rfl (fun _ hH => ov_load rfl one_int (hH.cb 0 rfl 0)) ?_
      refine WQ_call rfl rfl cf_impl_KindValid (fun _ hH => kindValid_ok hH _) ?_
      refine WQ_v rfl (fun _ _ => ov_F (ov_not rfl) (by first | exact decide_eq_false hk | exact nb_F hk | exact mb_F hk | exact hk | (simp only [decide_eq_false_iff_not]; omega) | simpa using hk)) ?_
      refine WQ_v rfl (fun _ _ => ov_move rfl) ?_
      refine WQ_guardOn rfl rfl ?_
      refine WQ_v rfl (fun _ _ => ov_field rfl fo_impl_Node_1) ?_
      refine WQ_guardOn rfl rfl ?_
      refine WQ_v rfl (fun _ hH => ov_load rfl one_sl_int (hH.cb 0 rfl 1)) ?_
      refine WQ_guardOn rfl rfl ?_
      refine WQ_v rfl (fun _ _ => ov_len rfl hf.sl st_sl_int) ?_
      refine WQ_guardOn rfl rfl ?_
      refine WQ_v rfl (fun _ _ => ov_field rfl fo_impl_Node_0) ?_
      refine WQ_guardOn rfl rfl ?_
      refine WQ_v rfl (fun _ hH => ov_load rfl one_int (hH.cb 0 rfl 0)) ?_
      refine WQ_guardOn rfl rfl ?_
      refine WQ_call rfl rfl cf_impl_KindNeeds (fun _ hH => kindNeeds_ok hH _) ?_
      refine WQ_guardOn rfl rfl ?_
      refine WQ_v rfl (fun _ _ => ov_neq rfl rfl) ?_
      refine WQ_v rfl (fun _ _ => ov_pickF rfl rfl) ?_
      refine WQ_nil ?_
      intro w2 hH1
      exact joined () _ _ (by repeat (first | exact trivial | refine ⟨rfl, ?_⟩)) hH1
    have hn := kindNeeds_bad (k := x.kind) (by simpa using hk)
    have hk' : kindOk x.kind = false := by simpa using hk
    refine WT_quiet mixed (by kernel_rfl) hH1 ?_
    clear hH1
    refine WQ_v rfl (fun _ _ => ov_field rfl fo_impl_Node_0) ?_
    refine WQ_v rfl (fun _ hH => ov_load rfl one_int (hH.cb 0 rfl 0)) ?_
    refine WQ_call rfl rfl cf_impl_KindValid (fun _ hH => kindValid_ok hH _) ?_
    refine WQ_v rfl (fun _ _ => ov_T (ov_not rfl) (by first | exact decide_eq_true hk' | exact nb_T hk' | exact mb_T hk' | exact hk' | (simp only [decide_eq_true_eq]; omega) | simpa using hk')) ?_
    refine WQ_v rfl (fun _ _ => ov_move rfl) ?_
    refine WQ_guardOff rfl rfl rfl rfl ?_
    refine WQ_guardOff rfl rfl rfl rfl ?_
    refine WQ_guardOff rfl rfl rfl rfl ?_
    refine WQ_guardOff rfl rfl rfl rfl ?_
    refine WQ_guardOff rfl rfl rfl rfl ?_
    refine WQ_guardOff rfl rfl rfl rfl ?_
    refine WQ_guardOff rfl rfl rfl rfl ?_
    refine WQ_v rfl (fun _ _ => ov_pickT rfl rfl) ?_
    refine WQ_nil ?_
    intro w2 hH1
    exact joined () _ _ ⟨rfl, rfl, by rw [hn, decide_eq_false (by omega)]; rfl, trivial⟩ hH1
  clear hH1
  rintro _ w2 hH1
  refine WT_cond rfl (fun hn => ?_) (fun hn => ?_)
  · skip
    first | with_reducible replace hn := of_decide_eq_true hn | with_reducible replace hn := bn_T hn | with_reducible replace hn := bb_T hn | skip
    refine WT_seq ?_
    refine WT_region ?_
    refine WL_v rfl (ov_assign rfl) ?_
    refine WL_nil ?_
    exact WT_ret1 Try.func97 Try.results97 rfl ⟨congrArg Value.bool (by rw [fitsB, decide_eq_false (fun e => hn e.symm)]; simp), hH1.drop⟩
  first | with_reducible replace hn := of_decide_eq_false hn | with_reducible replace hn := bn_F hn | with_reducible replace hn := bb_F hn | skip
  refine WT_skip ?_
  refine WT_seq ?_
  refine WT_seq ?_
  refine WT_region ?_
  refine WL_v rfl (ov_field rfl fo_impl_Node_1) ?_
  refine WL_v rfl (ov_load rfl one_sl_int (hH1.cb 0 rfl 1)) ?_
  refine WL_v rfl (ov_len rfl hf.sl st_sl_int) ?_
  refine WL_v rfl (ov_move rfl) ?_
  refine WL_nil ?_
  refine WT_block ?_
  refine WT_while (fun s : Nat => [(2, .pointer (some ⟨g, 0, none⟩)), (1, .int .i64 (i : Int)), (21, fv), (22, .int .i64 (x.frm.length : Int)), (23, .int .i64 (s : Int))]) (fun k w => k ≤ x.frm.length ∧ (∀ j (_ : j < k) (hjr : j < x.frm.length), 0 ≤ x.frm[j] ∧ x.frm[j] ≤ (i : Int) - 1) ∧ H w h ([(g, .cells #[.int .i64 x.kind, fv, rv] 32 (0, 0))] :: Ls)) (fun k => x.frm.length - k) 0 (by repeat (first | exact trivial | refine ⟨rfl, ?_⟩)) ⟨by omega, by omega, hH1⟩ ?_
  clear hH1
  rintro k w3 ⟨hk, hall, hH1⟩ again
  refine WT_seq ?_
  refine WT_region ?_
  refine WL_v rfl (ov_lss rfl rfl) ?_
  refine WL_nil ?_
  refine WT_seq ?_
  refine WT_cond rfl (fun hc => ?_) (fun hc => ?_)
  · skip
    first | with_reducible replace hc := of_decide_eq_true hc | with_reducible replace hc := bn_T hc | with_reducible replace hc := bb_T hc | skip
    have hkr : k < x.frm.length := by omega
    by_cases h1 : x.frm[k] < 0
    · skip
      refine WT_skip ?_
      refine WT_seq ?_
      refine WT_block ?_
      refine WT_seq ?_
      refine WT_region ?_
      refine WL_v rfl (ov_index rfl rfl st_sl_int hf.sl hkr) ?_
      refine WL_v rfl (ov_load rfl one_int (hf.cell hH1 hkr)) ?_
      refine WL_v rfl (ov_assign rfl) ?_
      refine WL_nil ?_
      refine WT_seq ?_
      refine WT_region ?_
      refine WL_v rfl (ov_move rfl) ?_
      refine WL_v rfl (ov_T (ov_lss rfl rfl) (by first | exact decide_eq_true h1 | exact nb_T h1 | exact mb_T h1 | exact h1 | (simp only [decide_eq_true_eq]; omega) | simpa using h1)) ?_
      refine WL_v rfl (ov_move rfl) ?_
      refine WL_guardOff rfl rfl rfl rfl ?_
      refine WL_guardOff rfl rfl rfl rfl ?_
      refine WL_guardOff rfl rfl rfl rfl ?_
      refine WL_v rfl (ov_pickT rfl rfl) ?_
      refine WL_nil ?_
      refine WT_condT rfl ?_
      refine WT_seq ?_
      refine WT_region ?_
      refine WL_v rfl (ov_assign rfl) ?_
      refine WL_nil ?_
      exact WT_ret1 Try.func97 Try.results97 rfl ⟨congrArg Value.bool (by rw [fitsB, List.all_eq_false.2 ⟨_, List.getElem_mem hkr, by simp; omega⟩]; simp), hH1.drop⟩
    refine WT_skip ?_
    refine WT_seq ?_
    refine WT_block ?_
    refine WT_seq ?_
    refine WT_region ?_
    refine WL_v rfl (ov_index rfl rfl st_sl_int hf.sl hkr) ?_
    refine WL_v rfl (ov_load rfl one_int (hf.cell hH1 hkr)) ?_
    refine WL_v rfl (ov_assign rfl) ?_
    refine WL_nil ?_
    refine WT_seq ?_
    refine WT_region ?_
    refine WL_v rfl (ov_move rfl) ?_
    refine WL_v rfl (ov_F (ov_lss rfl rfl) (by first | exact decide_eq_false h1 | exact nb_F h1 | exact mb_F h1 | exact h1 | (simp only [decide_eq_false_iff_not]; omega) | simpa using h1)) ?_
    refine WL_v rfl (ov_move rfl) ?_
    refine WL_guardOn rfl rfl ?_
    refine WL_v rfl (ov_move rfl) ?_
    refine WL_guardOn rfl rfl ?_
    refine WL_v rfl (ov_move rfl) ?_
    refine WL_guardOn rfl rfl ?_
    refine WL_v rfl (ov_geq rfl rfl) ?_
    refine WL_v rfl (ov_pickF rfl rfl) ?_
    refine WL_nil ?_
    refine WT_cond rfl (fun h2 => ?_) (fun h2 => ?_)
    · skip
      first | with_reducible replace h2 := of_decide_eq_true h2 | with_reducible replace h2 := bn_T h2 | with_reducible replace h2 := bb_T h2 | skip
      refine WT_seq ?_
      refine WT_region ?_
      refine WL_v rfl (ov_assign rfl) ?_
      refine WL_nil ?_
      exact WT_ret1 Try.func97 Try.results97 rfl ⟨congrArg Value.bool (by rw [fitsB, List.all_eq_false.2 ⟨_, List.getElem_mem hkr, by simp; omega⟩]; simp), hH1.drop⟩
    first | with_reducible replace h2 := of_decide_eq_false h2 | with_reducible replace h2 := bn_F h2 | with_reducible replace h2 := bb_F h2 | skip
    refine WT_skip ?_
    refine WT_inBlock ?_
    refine WT_region ?_
    refine WL_v rfl (ov_add rfl rfl (by omega)) ?_
    refine WL_v rfl (ov_move rfl) ?_
    refine WL_nil ?_
    refine again (k + 1) _ _ (by omega) (by repeat (first | exact trivial | refine ⟨rfl, ?_⟩)) ⟨by omega, fun j hj hjr => ?_, hH1⟩
    rcases Nat.lt_or_ge j k with h1 | h1
    · exact hall j h1 hjr
    · obtain rfl : j = k := by omega
      omega
  first | with_reducible replace hc := of_decide_eq_false hc | with_reducible replace hc := bn_F hc | with_reducible replace hc := bb_F hc | skip
  obtain rfl : k = x.frm.length := by omega
  have hallB : x.frm.all (fun f => decide (0 ≤ f ∧ f ≤ (i : Int) - 1)) = true := List.all_eq_true.2 (fun y hy => by obtain ⟨j, hj, rfl⟩ := List.mem_iff_getElem.1 hy; simpa using hall j hj hj)
  refine WT_exit rfl ?_
  refine WT_seq ?_
  refine WT_seq ?_
  refine WT_region ?_
  refine WL_v rfl (ov_field rfl fo_impl_Node_0) ?_
  refine WL_v rfl (ov_load rfl one_int (hH1.cb 0 rfl 0)) ?_
  refine WL_v rfl (ov_eql rfl rfl) ?_
  refine WL_nil ?_
  refine WT_cond rfl (fun h0 => ?_) (fun h0 => ?_)
  · skip
    first | with_reducible replace h0 := of_decide_eq_true h0 | with_reducible replace h0 := bn_T h0 | with_reducible replace h0 := bb_T h0 | skip
    refine WT_seq ?_
    refine WT_region ?_
    refine WL_v rfl (ov_field rfl fo_impl_Node_2) ?_
    refine WL_v rfl (ov_load rfl one_sl_int (hH1.cb 0 rfl 2)) ?_
    refine WL_call rfl rfl cf_impl_RowValid (rowValid_ok hH1 hr) ?_; rintro _ w4 ⟨rfl, hH2⟩
    refine WL_v rfl (ov_assign rfl) ?_
    refine WL_nil ?_
    exact WT_ret1 Try.func97 Try.results97 rfl ⟨congrArg Value.bool (by rw [fitsB, hallB, if_pos h0, decide_eq_true hn.symm]; simp), hH2.drop⟩
  first | with_reducible replace h0 := of_decide_eq_false h0 | with_reducible replace h0 := bn_F h0 | with_reducible replace h0 := bb_F h0 | skip
  refine WT_skip ?_
  refine WT_seq ?_
  refine WT_region ?_
  refine WL_v rfl (ov_field rfl fo_impl_Node_2) ?_
  refine WL_v rfl (ov_load rfl one_sl_int (hH1.cb 0 rfl 2)) ?_
  refine WL_v rfl (ov_len rfl hr.sl st_sl_int) ?_
  refine WL_v rfl (ov_eql rfl rfl) ?_
  refine WL_v rfl (ov_assign rfl) ?_
  refine WL_nil ?_
  exact WT_ret1 Try.func97 Try.results97 rfl ⟨congrArg Value.bool (by rw [fitsB, hallB, if_neg h0, decide_eq_true hn.symm]; simp only [Bool.true_and]; exact decide_eq_decide.2 (by omega)), hH1.drop⟩
end
end Go.Proofs.Ytafljegjdanldaa

/- Walks: the graph of a plan is made. -/
namespace Go.Proofs.Ytafljegjdanldaa
open Go.RowKit

def ptr (g : Nat) : Value := .pointer (some ⟨g, 0, none⟩)
theorem ptr_one (g : Nat → Nat) (l : List Nat) : ∀ u ∈ l.map (fun j => ptr (g j)), u.oneCell' = true := by
  intro u hu
  obtain ⟨j, _, rfl⟩ := List.mem_map.1 hu
  rfl

/-- The nodes of a graph: m boxes, each with the slice of what it needs and of what uses it. -/
structure Gr (Gs : List Heaplet) (g : Nat → Nat) (N U : Nat → List Nat) (m : Nat) : Prop where
  len : Gs.length = 3 * m
  bn : ∀ i, i < m → ∀ j ∈ N i, j < m
  bu : ∀ i, i < m → ∀ j ∈ U i, j < m
  node : ∀ i, i < m → ∃ nv uv NX UX, Gs[3 * i]? = some [(g i, .cells #[.int .i64 (i : Int), nv, uv] 90 (0, 0))] ∧ Gs[3 * i + 1]? = some NX ∧ Gs[3 * i + 2]? = some UX ∧
    Row NX 91 1 nv (N i).length ((N i).map fun j => ptr (g j)) ∧ Row UX 91 1 uv (U i).length ((U i).map fun j => ptr (g j))

theorem Gr.congr {Gs : List Heaplet} {g : Nat → Nat} {N U N' U' : Nat → List Nat} {m : Nat} (hG : Gr Gs g N U m) (hN : ∀ i, i < m → N' i = N i) (hU : ∀ i, i < m → U' i = U i) : Gr Gs g N' U' m :=
  ⟨hG.len, fun i hi => by rw [hN i hi]; exact hG.bn i hi, fun i hi => by rw [hU i hi]; exact hG.bu i hi, fun i hi => by rw [hN i hi, hU i hi]; exact hG.node i hi⟩

theorem Gr.setN {Gs : List Heaplet} {g : Nat → Nat} {N U : Nat → List Nat} {m i : Nat} {nv uv nv' : Value} {X' : Heaplet} {l : List Nat} (hG : Gr Gs g N U m) (hi : i < m)
    (hbox : Gs[3 * i]? = some [(g i, .cells #[.int .i64 (i : Int), nv, uv] 90 (0, 0))]) (hl : ∀ j ∈ l, j < m) (hX : Row X' 91 1 nv' l.length (l.map fun j => ptr (g j))) :
    Gr ((Gs.set (3 * i + 1) X').set (3 * i) [(g i, .cells #[.int .i64 (i : Int), nv', uv] 90 (0, 0))]) g (fun a => if a = i then l else N a) U m := by
  have hlen := hG.len
  refine ⟨by simpa using hG.len, fun a ha j hj => ?_, hG.bu, fun a ha => ?_⟩
  · by_cases hai : a = i
    · simp only [hai, if_true] at hj; exact hl j hj
    · simp only [hai, if_false] at hj; exact hG.bn a ha j hj
  · obtain ⟨nv0, uv0, NX, UX, h1, h2, h3, h4, h5⟩ := hG.node a ha
    by_cases hai : a = i
    · subst hai
      rw [hbox] at h1
      simp only [Option.some.injEq, List.cons.injEq, Prod.mk.injEq, Obj.cells.injEq, and_true, true_and, Array.mk.injEq] at h1
      obtain ⟨rfl, rfl⟩ := h1
      refine ⟨nv', uv, X', UX, ?_, ?_, ?_, by simpa using hX, h5⟩
      · rw [List.getElem?_set]; simp [hlen]; omega
      · rw [List.getElem?_set, if_neg (by omega), List.getElem?_set]; simp [hlen]; omega
      · rw [List.getElem?_set, if_neg (by omega), List.getElem?_set, if_neg (by omega)]; exact h3
    · refine ⟨nv0, uv0, NX, UX, ?_, ?_, ?_, by simpa [hai] using h4, h5⟩
      · rw [List.getElem?_set, if_neg (by omega), List.getElem?_set, if_neg (by omega)]; exact h1
      · rw [List.getElem?_set, if_neg (by omega), List.getElem?_set, if_neg (by omega)]; exact h2
      · rw [List.getElem?_set, if_neg (by omega), List.getElem?_set, if_neg (by omega)]; exact h3

theorem Gr.setU {Gs : List Heaplet} {g : Nat → Nat} {N U : Nat → List Nat} {m i : Nat} {nv uv uv' : Value} {X' : Heaplet} {l : List Nat} (hG : Gr Gs g N U m) (hi : i < m)
    (hbox : Gs[3 * i]? = some [(g i, .cells #[.int .i64 (i : Int), nv, uv] 90 (0, 0))]) (hl : ∀ j ∈ l, j < m) (hX : Row X' 91 1 uv' l.length (l.map fun j => ptr (g j))) :
    Gr ((Gs.set (3 * i + 2) X').set (3 * i) [(g i, .cells #[.int .i64 (i : Int), nv, uv'] 90 (0, 0))]) g N (fun a => if a = i then l else U a) m := by
  have hlen := hG.len
  refine ⟨by simpa using hG.len, hG.bn, fun a ha j hj => ?_, fun a ha => ?_⟩
  · by_cases hai : a = i
    · simp only [hai, if_true] at hj; exact hl j hj
    · simp only [hai, if_false] at hj; exact hG.bu a ha j hj
  · obtain ⟨nv0, uv0, NX, UX, h1, h2, h3, h4, h5⟩ := hG.node a ha
    by_cases hai : a = i
    · subst hai
      rw [hbox] at h1
      simp only [Option.some.injEq, List.cons.injEq, Prod.mk.injEq, Obj.cells.injEq, and_true, true_and, Array.mk.injEq] at h1
      obtain ⟨rfl, rfl⟩ := h1
      refine ⟨nv, uv', NX, X', ?_, ?_, ?_, h4, by simpa using hX⟩
      · rw [List.getElem?_set]; simp [hlen]; omega
      · rw [List.getElem?_set, if_neg (by omega), List.getElem?_set, if_neg (by omega)]; exact h2
      · rw [List.getElem?_set, if_neg (by omega), List.getElem?_set]; simp [hlen]; omega
    · refine ⟨nv0, uv0, NX, UX, ?_, ?_, ?_, h4, by simpa [hai] using h5⟩
      · rw [List.getElem?_set, if_neg (by omega), List.getElem?_set, if_neg (by omega)]; exact h1
      · rw [List.getElem?_set, if_neg (by omega), List.getElem?_set, if_neg (by omega)]; exact h2
      · rw [List.getElem?_set, if_neg (by omega), List.getElem?_set, if_neg (by omega)]; exact h3

/-- A new node, that needs nothing and is used by none. -/
theorem Gr.new {Gs : List Heaplet} {g : Nat → Nat} {N U : Nat → List Nat} {m gn : Nat} (hG : Gr Gs g N U m) :
    Gr (Gs ++ [[(gn, .cells #[.int .i64 (m : Int), .slice none 0 0, .slice none 0 0] 90 (0, 0))], [], []]) (fun a => if a = m then gn else g a) (fun a => if a = m then [] else N a) (fun a => if a = m then [] else U a) (m + 1) := by
  have hlen := hG.len
  refine ⟨by simp [hlen]; omega, fun a ha j hj => ?_, fun a ha j hj => ?_, fun a ha => ?_⟩
  · by_cases ham : a = m
    · simp [ham] at hj
    · simp only [ham, if_false] at hj; have := hG.bn a (by omega) j hj; omega
  · by_cases ham : a = m
    · simp [ham] at hj
    · simp only [ham, if_false] at hj; have := hG.bu a (by omega) j hj; omega
  · by_cases ham : a = m
    · subst ham
      refine ⟨.slice none 0 0, .slice none 0 0, [], [], ?_, ?_, ?_, by simpa using Row.nil _ _, by simpa using Row.nil _ _⟩
      · rw [List.getElem?_append_right (by omega), hlen]; simp
      · rw [List.getElem?_append_right (by omega), hlen]; simp [show 3 * a + 1 - 3 * a = 1 by omega]
      · rw [List.getElem?_append_right (by omega), hlen]; simp [show 3 * a + 2 - 3 * a = 2 by omega]
    · obtain ⟨nv0, uv0, NX, UX, h1, h2, h3, h4, h5⟩ := hG.node a (by omega)
      have hg : ∀ l : List Nat, (∀ j ∈ l, j < m) → (l.map fun j => ptr (if j = m then gn else g j)) = l.map fun j => ptr (g j) := fun l hl =>
        List.map_congr_left fun j hj => by rw [if_neg (by have := hl j hj; omega)]
      refine ⟨nv0, uv0, NX, UX, ?_, ?_, ?_, ?_, ?_⟩
      · rw [List.getElem?_append_left (by omega)]; simpa [ham] using h1
      · rw [List.getElem?_append_left (by omega)]; exact h2
      · rw [List.getElem?_append_left (by omega)]; exact h3
      · simp only [ham, if_false]; rw [hg _ (hG.bn a (by omega))]; exact h4
      · simp only [ham, if_false]; rw [hg _ (hG.bu a (by omega))]; exact h5

section
variable {h : GH} {Ls : List Heaplet} {w : World}

theorem Gr.inj {Gs : List Heaplet} {g : Nat → Nat} {N U : Nat → List Nat} {m a b : Nat} (hG : Gr Gs g N U m) (hH : H w h (Gs ++ Ls)) (ha : a < m) (hb : b < m) (he : g a = g b) : a = b := by
  obtain ⟨_, _, _, _, h1, _⟩ := hG.node a ha
  obtain ⟨_, _, _, _, h2, _⟩ := hG.node b hb
  have hlen := hG.len
  rcases Nat.decEq a b with hne | heq
  · exact absurd he (hH.ne (i := 3 * a) (j := 3 * b) (by rw [List.getElem?_append_left (by omega)]; exact h1) (by rw [List.getElem?_append_left (by omega)]; exact h2) (by omega))
  · exact heq
theorem Gr.heap {Gs : List Heaplet} {g : Nat → Nat} {N U : Nat → List Nat} {m a : Nat} (hG : Gr Gs g N U m) (hH : H w h (Gs ++ Ls)) (ha : a < m) : ∃ cs, w.heap[g a]? = some (.cells cs 90 (0, 0)) := by
  obtain ⟨_, _, _, _, h1, _⟩ := hG.node a ha
  have hlen := hG.len
  exact ⟨_, hH.mem (i := 3 * a) (by rw [List.getElem?_append_left (by omega)]; exact h1) (List.mem_singleton.2 rfl)⟩

theorem needsAlready_ok {Gs : List Heaplet} {g : Nat → Nat} {N U : Nat → List Nat} {m i f : Nat} (hG : Gr Gs g N U m) (hH : H w h (Gs ++ Ls)) (hi : i < m) (hf : f < m) :
    Rets Try.prog 116 #[ptr (g i), ptr (g f)] w fun v w' => v = .bool (decide (f ∈ N i)) ∧ H w' h (Gs ++ Ls) := by
  obtain ⟨nv, uv, NX, UX, h1, h2, h3, h4, h5⟩ := hG.node i hi
  have hlen := hG.len
  have hb1 : (Gs ++ Ls)[3 * i]? = some [(g i, .cells #[.int .i64 (i : Int), nv, uv] 90 (0, 0))] := by rw [List.getElem?_append_left (by omega)]; exact h1
  have hb2 : (Gs ++ Ls)[3 * i + 1]? = some NX := by rw [List.getElem?_append_left (by omega)]; exact h2
  have hlim := h4.lim
  refine rets_enter Try.func116 rfl Try.ntmps116 (by simp) ?_
  refine WT_seq ?_
  refine WT_region ?_
  refine WL_v rfl (ov_assign rfl) ?_
  refine WL_nil ?_
  refine WT_seq ?_
  refine WT_seq ?_
  refine WT_region ?_
  refine WL_v rfl (ov_move rfl) ?_
  refine WL_v rfl (ov_nilCheck rfl) ?_
  refine WL_v rfl (ov_field rfl fo_impl_planNode_1) ?_
  refine WL_v rfl (ov_load rfl one_sl_p_impl_planNode (hH.cb (3 * i) hb1 1)) ?_
  refine WL_v rfl (ov_len rfl h4.sl st_sl_p_impl_planNode) ?_
  refine WL_v rfl (ov_move rfl) ?_
  refine WL_nil ?_
  refine WT_block ?_
  refine WT_while (fun s : Nat => [(1, ptr (g f)), (10, nv), (11, .int .i64 ((N i).length : Int)), (12, .int .i64 (s : Int))]) (fun k w => k ≤ (N i).length ∧ (∀ j (_ : j < k) (hjr : j < (N i).length), (N i)[j] ≠ f) ∧ H w h (Gs ++ Ls)) (fun k => (N i).length - k) 0 (by repeat (first | exact trivial | refine ⟨rfl, ?_⟩)) ⟨by omega, by omega, hH⟩ ?_
  clear hH
  rintro k w1 ⟨hk, hall, hH⟩ again
  refine WT_seq ?_
  refine WT_region ?_
  refine WL_v rfl (ov_lss rfl rfl) ?_
  refine WL_nil ?_
  refine WT_seq ?_
  refine WT_cond rfl (fun hc => ?_) (fun hc => ?_)
  · skip
    first | with_reducible replace hc := of_decide_eq_true hc | with_reducible replace hc := bn_T hc | with_reducible replace hc := bb_T hc | skip
    have hkr : k < (N i).length := by omega
    have hbk := hG.bn i hi _ (List.getElem_mem hkr)
    obtain ⟨c1, q1⟩ := hG.heap hH hbk
    obtain ⟨c2, q2⟩ := hG.heap hH hf
    have hcell : w1.cell? ((slA nv).add (k * 1)) = some (ptr (g (N i)[k])) := by rw [Nat.mul_one]; exact h4.cell hH hb2 (by simp [hkr])
    refine WT_skip ?_
    refine WT_seq ?_
    refine WT_block ?_
    refine WT_seq ?_
    refine WT_region ?_
    refine WL_v rfl (ov_index rfl rfl st_sl_p_impl_planNode h4.sl hkr) ?_
    refine WL_v rfl (ov_load rfl one_p_impl_planNode (hcell)) ?_
    refine WL_v rfl (ov_assign rfl) ?_
    refine WL_nil ?_
    refine WT_seq ?_
    refine WT_region ?_
    refine WL_v rfl (ov_move rfl) ?_
    refine WL_v rfl (ov_move rfl) ?_
    refine WL_v rfl (ov_eqlPtr rfl rfl ptr_planNode q1 q2) ?_
    refine WL_nil ?_
    refine WT_cond rfl (fun he => ?_) (fun he => ?_)
    · skip
      first | with_reducible replace he := of_decide_eq_true he | with_reducible replace he := bn_T he | with_reducible replace he := bb_T he | skip
      have he' : (N i)[k] = f := hG.inj hH hbk hf (by simpa using he)
      refine WT_seq ?_
      refine WT_region ?_
      refine WL_v rfl (ov_assign rfl) ?_
      refine WL_nil ?_
      exact WT_ret1 Try.func116 Try.results116 rfl ⟨congrArg Value.bool (decide_eq_true (he' ▸ List.getElem_mem hkr)).symm, hH⟩
    first | with_reducible replace he := of_decide_eq_false he | with_reducible replace he := bn_F he | with_reducible replace he := bb_F he | skip
    refine WT_skip ?_
    refine WT_inBlock ?_
    refine WT_region ?_
    refine WL_v rfl (ov_add rfl rfl (by omega)) ?_
    refine WL_v rfl (ov_move rfl) ?_
    refine WL_nil ?_
    refine again (k + 1) _ _ (by omega) (by repeat (first | exact trivial | refine ⟨rfl, ?_⟩)) ⟨by omega, fun j hj hjr => ?_, hH⟩
    rcases Nat.lt_or_ge j k with h1 | h1
    · exact hall j h1 hjr
    · obtain rfl : j = k := by omega
      exact fun hh => he (by rw [hh])
  first | with_reducible replace hc := of_decide_eq_false hc | with_reducible replace hc := bn_F hc | with_reducible replace hc := bb_F hc | skip
  obtain rfl : k = (N i).length := by omega
  refine WT_exit rfl ?_
  refine WT_seq ?_
  refine WT_region ?_
  refine WL_v rfl (ov_assign rfl) ?_
  refine WL_nil ?_
  exact WT_ret1 Try.func116 Try.results116 rfl ⟨congrArg Value.bool (decide_eq_false (fun hm => by obtain ⟨j, hj, he⟩ := List.mem_iff_getElem.1 hm; exact hall j hj hj he)).symm, hH⟩

theorem run_bs_ptr (a : Nat) (W : World) : (Instr.buildSlice 85 1 #[(0, ptr a)]).run Try.prog W = .ok (.slice (some ⟨W.heap.size, 0, none⟩) 1 1) (W.alloc (.cells [ptr a].toArray 91)) := by kernel_rfl

theorem link_ok {Gs : List Heaplet} {g : Nat → Nat} {N U : Nat → List Nat} {m i f : Nat} (hG : Gr Gs g N U m) (hH : H w h (Gs ++ Ls)) (hi : i < m) (hf : f < m) (hNl : (N i).length ≤ 1000) (hUl : (U f).length ≤ 1000) :
    Rets Try.prog 98 #[ptr (g i), ptr (g f)] w fun _ w' => ∃ Gs', Gr Gs' g (fun a => if a = i then addN (N i) f else N a) (fun a => if a = f ∧ ¬ f ∈ N i then U f ++ [i] else U a) m ∧ H w' h (Gs' ++ Ls) := by
  refine rets_enter Try.func98 rfl Try.ntmps98 (by simp) ?_
  refine WT_seq ?_
  refine WT_seq ?_
  refine WT_region ?_
  refine WL_v rfl (ov_move rfl) ?_
  refine WL_v rfl (ov_move rfl) ?_
  refine WL_call rfl rfl cf_p_impl_planNode_needsAlready (needsAlready_ok hG hH hi hf) ?_; rintro _ w1 ⟨rfl, hH1⟩
  refine WL_nil ?_
  clear hH
  refine WT_cond rfl (fun hn => ?_) (fun hn => ?_)
  · skip
    first | with_reducible replace hn := of_decide_eq_true hn | with_reducible replace hn := bn_T hn | with_reducible replace hn := bb_T hn | skip
    exact WT_ret0 Try.func98 Try.results98 ⟨Gs, hG.congr (fun a _ => by by_cases ha : a = i <;> simp [ha, addN, hn]) (fun a _ => by simp [hn]), hH1⟩
  first | with_reducible replace hn := of_decide_eq_false hn | with_reducible replace hn := bn_F hn | with_reducible replace hn := bb_F hn | skip
  have hlen := hG.len
  obtain ⟨nv, uv, NX, UX, h1, h2, h3, h4, h5⟩ := hG.node i hi
  have hb1 : (Gs ++ Ls)[3 * i]? = some [(g i, .cells #[.int .i64 (i : Int), nv, uv] 90 (0, 0))] := by rw [List.getElem?_append_left (by omega)]; exact h1
  have hb2 : (Gs ++ Ls)[3 * i + 1]? = some NX := by rw [List.getElem?_append_left (by omega)]; exact h2
  refine WT_skip ?_
  refine WT_seq ?_
  refine WT_region ?_
  refine WL_v rfl (ov_move rfl) ?_
  refine WL_v rfl (ov_move rfl) ?_
  refine WL_v rfl (ov_nilCheck rfl) ?_
  refine WL_v rfl (ov_field rfl fo_impl_planNode_1) ?_
  refine WL_v rfl (ov_load rfl one_sl_p_impl_planNode (hH1.cb (3 * i) hb1 1)) ?_
  refine WL_v rfl (ov_move rfl) ?_
  refine WL_buildSlice (sz := 1) [ptr (g f)] rfl hH1 rfl (run_bs_ptr _) rfl (by omega) ?_; rintro Y yv w2 hY hH2
  refine WL_append1 (i := 3 * i + 1 + 1) (j := 0) rfl hH2 rfl rfl st_sl_p_impl_planNode (by omega) hb2 h4 rfl hY (ones_cons rfl ones_nil) (by omega) (by omega) ?_; rintro X2 nv2 w3 hX2 hH3
  refine WL_v rfl (ov_nilCheck rfl) ?_
  refine WL_v rfl (ov_field rfl fo_impl_planNode_1) ?_
  have hH4 : H w3 h ((Gs ++ Ls).set (3 * i + 1) X2) := hH3.drop
  clear hH1 hH2 hH3
  have hb3 : ((Gs ++ Ls).set (3 * i + 1) X2)[3 * i]? = some [(g i, .cells #[.int .i64 (i : Int), nv, uv] 90 (0, 0))] := by rw [List.getElem?_set, if_neg (by omega)]; exact hb1
  refine WL_store hH4 rfl rfl (i := 3 * i) (off := 1) hb3 rfl (by simp) hX2.sl.one sz_sl_p_impl_planNode ?_; rintro w4 hH5
  refine WL_nil ?_
  refine WT_region ?_
  refine WL_v rfl (ov_move rfl) ?_
  refine WL_v rfl (ov_move rfl) ?_
  refine WL_v rfl (ov_nilCheck rfl) ?_
  refine WL_v rfl (ov_field rfl fo_impl_planNode_2) ?_
  have hH6 : H w4 h (((Gs.set (3 * i + 1) X2).set (3 * i) [(g i, .cells #[.int .i64 (i : Int), nv2, uv] 90 (0, 0))]) ++ Ls) := by
    rw [List.set_append_left _ _ (by omega), List.set_append_left _ _ (by simp; omega)] at hH5
    exact hH5
  clear hH4 hH5
  have hG2 := hG.setN hi h1 (l := N i ++ [f]) (fun j hj => by
    rcases List.mem_append.1 hj with hj | hj
    · exact hG.bn i hi j hj
    · rw [List.mem_singleton.1 hj]; exact hf) (nv' := nv2) (X' := X2) (by simpa using hX2)
  generalize ((Gs.set (3 * i + 1) X2).set (3 * i) [(g i, .cells #[.int .i64 (i : Int), nv2, uv] 90 (0, 0))]) = Gs2 at hG2 hH6
  clear h1 h2 h3 h4 h5 hb1 hb2 hb3
  have hlen2 := hG2.len
  obtain ⟨nvf, uvf, NXf, UXf, h1, h2, h3, h4, h5⟩ := hG2.node f hf
  have hb1 : (Gs2 ++ Ls)[3 * f]? = some [(g f, .cells #[.int .i64 (f : Int), nvf, uvf] 90 (0, 0))] := by rw [List.getElem?_append_left (by omega)]; exact h1
  have hb2 : (Gs2 ++ Ls)[3 * f + 2]? = some UXf := by rw [List.getElem?_append_left (by omega)]; exact h3
  refine WL_v rfl (ov_load rfl one_sl_p_impl_planNode (hH6.cb (3 * f) hb1 2)) ?_
  refine WL_v rfl (ov_move rfl) ?_
  refine WL_buildSlice (sz := 1) [ptr (g i)] rfl hH6 rfl (run_bs_ptr _) rfl (by omega) ?_; rintro Y5 yv5 w5 hY5 hH7
  refine WL_append1 (i := 3 * f + 2 + 1) (j := 0) rfl hH7 rfl rfl st_sl_p_impl_planNode (by omega) hb2 h5 rfl hY5 (ones_cons rfl ones_nil) (by omega) (by omega) ?_; rintro X6 uv6 w6 hX6 hH8
  refine WL_v rfl (ov_nilCheck rfl) ?_
  refine WL_v rfl (ov_field rfl fo_impl_planNode_2) ?_
  have hH9 : H w6 h ((Gs2 ++ Ls).set (3 * f + 2) X6) := hH8.drop
  clear hH6 hH7 hH8
  have hb3 : ((Gs2 ++ Ls).set (3 * f + 2) X6)[3 * f]? = some [(g f, .cells #[.int .i64 (f : Int), nvf, uvf] 90 (0, 0))] := by rw [List.getElem?_set, if_neg (by omega)]; exact hb1
  refine WL_store hH9 rfl rfl (i := 3 * f) (off := 2) hb3 rfl (by simp) hX6.sl.one sz_sl_p_impl_planNode ?_; rintro w7 hH10
  refine WL_nil ?_
  have hH11 : H w7 h (((Gs2.set (3 * f + 2) X6).set (3 * f) [(g f, .cells #[.int .i64 (f : Int), nvf, uv6] 90 (0, 0))]) ++ Ls) := by
    rw [List.set_append_left _ _ (by omega), List.set_append_left _ _ (by simp; omega)] at hH10
    exact hH10
  have hG3 := hG2.setU hf h1 (l := U f ++ [i]) (fun j hj => by
    rcases List.mem_append.1 hj with hj | hj
    · exact hG2.bu f hf j hj
    · rw [List.mem_singleton.1 hj]; exact hi) (uv' := uv6) (X' := X6) (by simpa using hX6)
  exact WT_end0 Try.func98 Try.results98 ⟨_, hG3.congr (fun a _ => by by_cases ha : a = i <;> simp [ha, addN, hn]) (fun a _ => by by_cases ha : a = f <;> simp [ha, hn]), hH11⟩
end
end Go.Proofs.Ytafljegjdanldaa

/- Walks: the graph of a plan; a plan is valid. -/
namespace Go.Proofs.Ytafljegjdanldaa
open Go.RowKit

theorem nodeOk_eq (x : Nd) (i wide : Nat) : nodeOk x i wide = (fitsB x i && (if x.kind = 0 then decide (x.row.length = wide) else true)) := by
  unfold nodeOk fitsB
  by_cases h0 : x.kind = 0
  · simp only [h0, if_true]
    cases decide (kindNeeds 0 = (x.frm.length : Int)) <;> cases rowOk x.row <;> cases x.frm.all (fun f => decide (0 ≤ f ∧ f ≤ (i : Int) - 1)) <;> simp
  · simp only [h0, if_false, Bool.and_true]
    by_cases h1 : x.row.length = 0
    · have : x.row = [] := List.eq_nil_of_length_eq_zero h1
      rw [this]
      have : rowOk [] = true := by decide
      rw [this]; simp
    · rw [decide_eq_false h1]; simp

theorem wideOf_first : ∀ {p : List Nd} {k : Nat} (hk : k < p.length), p[k].kind = 0 → (∀ j (_ : j < k) (hj : j < p.length), p[j].kind ≠ 0) → wideOf p = p[k].row.length
  | x :: r, 0, _, h0, _ => by simp only [List.getElem_cons_zero] at h0; simp [wideOf, h0]
  | x :: r, k + 1, hk, h0, hn => by
    have := hn 0 (by omega) (by simp)
    simp only [List.getElem_cons_zero] at this
    rw [wideOf, if_neg this]
    exact wideOf_first (p := r) (k := k) (by simpa using hk) (by simpa using h0) (fun j hj hjl => by have := hn (j + 1) (by omega) (by simpa using hjl); simpa only [List.getElem_cons_succ] using this)

/-- The width so far: none, or that of the plan. -/
def WdOk (p : List Nd) (k : Nat) (wd : Int) : Prop := (wd = -1 ∧ ∀ j (_ : j < k) (hj : j < p.length), p[j].kind ≠ 0) ∨ wd = (wideOf p : Int)

theorem planOk_of {p : List Nd} (hl : p.length ≤ 10) (h : ∀ j (hj : j < p.length), nodeOk p[j] j (wideOf p) = true) : planOk p = true := (planOk_iff p).2 ⟨hl, h⟩
theorem planOk_long {p : List Nd} (hl : 10 < p.length) : planOk p = false := by
  cases hp : planOk p with
  | false => rfl
  | true => have := PlanOk.len hp; omega

theorem PlanNodeLt {p : List Nd} {k : Nat} (hall : ∀ j (_ : j < k) (hj : j < p.length), nodeOk p[j] j (wideOf p) = true) {j : Nat} (hjp : j < p.length) (hj : j < k) : ∀ f ∈ p[j].frm, f < (j : Int) := fun f hf =>
  ((nodeOk_spec (hall j hj hjp)).frm f hf).2

/-- A graph that is shared. -/
structure GraphRd (h : GH) (gv : Value) (g : Nat → Nat) (p : List Nd) : Prop where
  sl : Sl gv p.length
  rd : Rd h gv ((List.range p.length).map fun j => ptr (g j))
  node : ∀ i, i < p.length → ∃ nv uv, (∃ e fz, h.blk (g i) = some (.cells #[.int .i64 (i : Int), nv, uv] e fz)) ∧
    Sl nv (needTo (p.getD i default).frm).length ∧ Rd h nv ((needTo (p.getD i default).frm).map fun j => ptr (g j)) ∧
    Sl uv (usersTo p p.length i).length ∧ Rd h uv ((usersTo p p.length i).map fun j => ptr (g j))

section
variable {h : GH} {Ls : List Heaplet} {w : World}

theorem H.addNode {B X GX : Heaplet} {Gs : List Heaplet} (hH : H w h (B :: X :: GX :: (Gs ++ Ls))) : H w h ((Gs ++ [B, [], []]) ++ (X :: GX :: Ls)) := by
  refine HF.perm hH ?_
  simp only [List.flatten_cons, List.flatten_append, List.flatten_nil, List.append_nil]
  have h1 : (B ++ (X ++ (GX ++ (Gs.flatten ++ Ls.flatten)))).Perm (X ++ (GX ++ (Gs.flatten ++ (B ++ Ls.flatten)))) := by
    have : (B ++ (X ++ GX ++ Gs.flatten)).Perm (X ++ GX ++ Gs.flatten ++ B) := List.perm_append_comm
    simpa [List.append_assoc] using this.append_right Ls.flatten
  have h2 : (X ++ (GX ++ (Gs.flatten ++ (B ++ Ls.flatten)))).Perm (Gs.flatten ++ B ++ (X ++ (GX ++ Ls.flatten))) := by
    have : (X ++ GX ++ (Gs.flatten ++ B)).Perm (Gs.flatten ++ B ++ (X ++ GX)) := List.perm_append_comm
    simpa [List.append_assoc] using this.append_right Ls.flatten
  exact h1.trans h2
theorem H.backG {X GX : Heaplet} {Gs : List Heaplet} (hH : H w h (Gs ++ (X :: GX :: Ls))) : H w h (X :: GX :: (Gs ++ Ls)) :=
  hH.perm (List.perm_middle.trans (List.Perm.cons _ List.perm_middle))

theorem run_build_pn (n : Int) (W : World) : (Instr.build 90 #[(0, .int .i64 n)]).run Try.prog W = .ok (.agg #[.int .i64 n, .slice none 0 0, .slice none 0 0]) W := by kernel_rfl

/-- The graph, shared. -/
theorem Gr.freeze {GX : Heaplet} {Gs : List Heaplet} {g : Nat → Nat} {p : List Nd} {gv : Value} (hX : Row GX 91 1 gv p.length ((List.range p.length).map fun j => ptr (g j)))
    (hG : Gr Gs g (fun i => needTo (p.getD i default).frm) (fun i => usersTo p p.length i) p.length) (hH : H w h (GX :: (Gs ++ Ls))) :
    ∃ h', h.Le h' ∧ H w h' Ls ∧ GraphRd h' gv g p := by
  have hH' : H w h ((GX :: Gs).flatten :: Ls) := by simpa [H] using hH
  obtain ⟨h', hle, hH2, hX2, _, _⟩ := hH'.freeze
  have hin : ∀ {X : Heaplet} {i : Nat}, Gs[i]? = some X → ∀ q ∈ X, h'.blk q.1 = some q.2 := fun hi q hq => (hX2 q (by
    simp only [List.flatten_cons]
    exact List.mem_append_right _ (List.mem_flatten.2 ⟨_, List.mem_of_getElem? hi, hq⟩))).1
  refine ⟨h', hle, hH2, hX.sl, hX.rd (fun q hq => (hX2 q (by simp [hq])).1), fun i hi => ?_⟩
  obtain ⟨nv, uv, NX, UX, h1, h2, h3, h4, h5⟩ := hG.node i hi
  exact ⟨nv, uv, ⟨_, _, hin h1 _ (List.mem_singleton.2 rfl)⟩, h4.sl, h4.rd (hin h2), h5.sl, h5.rd (hin h3)⟩

set_option maxHeartbeats 1000000 in
theorem graphOf_ok (hH : H w h Ls) {pv : Value} {p : List Nd} (hP : Plan h pv p) : Rets Try.prog 68 #[pv] w fun v w' =>
    (planOk p = false ∧ v = .tuple #[.slice none 0 0, .bool false] ∧ H w' h Ls) ∨ (planOk p = true ∧ ∃ gv g h', v = .tuple #[gv, .bool true] ∧ h.Le h' ∧ H w' h' Ls ∧ GraphRd h' gv g p) := by
  refine rets_enter Try.func68 rfl Try.ntmps68 (by simp) ?_
  refine WT_seq ?_
  refine WT_region ?_
  refine WL_v rfl (ov_assign rfl) ?_
  refine WL_v rfl (ov_assign rfl) ?_
  refine WL_nil ?_
  refine WT_seq ?_
  refine WT_seq ?_
  refine WT_region ?_
  refine WL_v rfl (ov_move rfl) ?_
  refine WL_v rfl (ov_len rfl hP.sl st_sl_impl_Node) ?_
  refine WL_v rfl (ov_gtr rfl rfl) ?_
  refine WL_nil ?_
  refine WT_cond rfl (fun hl => ?_) (fun hl => ?_)
  · skip
    first | with_reducible replace hl := of_decide_eq_true hl | with_reducible replace hl := bn_T hl | with_reducible replace hl := bb_T hl | skip
    refine WT_seq ?_
    refine WT_region ?_
    refine WL_v rfl (ov_assign rfl) ?_
    refine WL_v rfl (ov_assign rfl) ?_
    refine WL_nil ?_
    exact WT_ret2 Try.func68 Try.results68 rfl rfl (.inl ⟨planOk_long (by omega), rfl, hH⟩)
  first | with_reducible replace hl := of_decide_eq_false hl | with_reducible replace hl := bn_F hl | with_reducible replace hl := bb_F hl | skip
  refine WT_skip ?_
  refine WT_seq ?_
  refine WT_region ?_
  refine WL_v rfl (ov_move rfl) ?_
  refine WL_v rfl (ov_len rfl hP.sl st_sl_impl_Node) ?_
  refine WL_make (n := 0) (c := p.length) rfl hH rfl rfl st_sl_p_impl_planNode (by omega) (by omega) (by omega) (by omega) ?_; rintro GX0 gv0 w1 hGX0 hH1
  refine WL_v rfl (ov_assign rfl) ?_
  refine WL_nil ?_
  refine WT_seq ?_
  refine WT_region ?_
  refine WL_v rfl (ov_assign rfl) ?_
  refine WL_nil ?_
  refine WT_seq ?_
  refine WT_seq ?_
  refine WT_region ?_
  refine WL_v rfl (ov_move rfl) ?_
  refine WL_v rfl (ov_len rfl hP.sl st_sl_impl_Node) ?_
  refine WL_v rfl (ov_move rfl) ?_
  refine WL_nil ?_
  refine WT_block ?_
  refine WT_while (fun s : Nat × Value × Int => [(0, pv), (4, s.2.1), (5, .int .i64 s.2.2), (17, pv), (18, .int .i64 (p.length : Int)), (19, .int .i64 (s.1 : Int))])
    (fun s w => s.1 ≤ p.length ∧ (∀ j (_ : j < s.1) (hj : j < p.length), nodeOk p[j] j (wideOf p) = true) ∧ WdOk p s.1 s.2.2 ∧ ∃ GX Gs g, Row GX 91 1 s.2.1 s.1 ((List.range s.1).map fun j => ptr (g j)) ∧
      Gr Gs g (fun i => needTo (p.getD i default).frm) (fun i => usersTo p s.1 i) s.1 ∧ H w h (GX :: (Gs ++ Ls)))
    (fun s => p.length - s.1) (0, gv0, -1) (by repeat (first | exact trivial | refine ⟨rfl, ?_⟩)) ⟨by omega, by omega, .inl ⟨rfl, by omega⟩, GX0, [], fun _ => 0, by simpa using hGX0, ⟨rfl, by omega, by omega, by omega⟩, hH1⟩ ?_
  clear hH hH1 hGX0
  rintro ⟨k, gv, wd⟩ w2 ⟨hk, hall, hwd, GX, Gs, g, hGX, hG, hH⟩ again
  simp only at hk hall hwd hGX hG
  refine WT_seq ?_
  refine WT_region ?_
  refine WL_v rfl (ov_lss rfl rfl) ?_
  refine WL_nil ?_
  refine WT_seq ?_
  refine WT_cond rfl (fun hc => ?_) (fun hc => ?_)
  · skip
    first | with_reducible replace hc := of_decide_eq_true hc | with_reducible replace hc := bn_T hc | with_reducible replace hc := bb_T hc | skip
    have hkp : k < p.length := by omega
    have hgk := getD_of hkp
    obtain ⟨fv, rv, hf, hr, hcell⟩ := hP.node hkp
    refine WT_skip ?_
    refine WT_seq ?_
    refine WT_block ?_
    refine WT_seq ?_
    refine WT_region ?_
    refine WL_v rfl (ov_move rfl) ?_
    refine WL_v rfl (ov_index rfl rfl st_sl_impl_Node hP.sl hkp) ?_
    refine WL_v rfl (ov_loadN [.int .i64 p[k].kind, fv, rv] rfl agg_impl_Node rfl ((hcell _ _ hH))) ?_
    refine WL_alloc _ rfl hH zero_impl_Node rfl ?_; rintro gx w3 hH3
    refine WL_v rfl (ov_assign rfl) ?_
    refine WL_storeN hH3 rfl rfl (i := 0) rfl rfl rfl (ones_cons rfl (ones_cons hf.sl.one (ones_cons hr.sl.one ones_nil))) sz_impl_Node ?_; rintro w4 hH4
    refine WL_nil ?_
    refine WT_seq ?_
    refine WT_seq ?_
    refine WT_region ?_
    refine WL_v rfl (ov_loadN [.int .i64 p[k].kind, fv, rv] rfl agg_impl_Node rfl ((fun j u hj => by rw [add_of rfl, hH4.cb 0 rfl]; simpa using hj))) ?_
    refine WL_v rfl (ov_move rfl) ?_
    refine WL_call rfl rfl cf_impl_nodeFits (nodeFits_ok hH4 ⟨fv, rv, rfl, hf, hr⟩ k) ?_; rintro _ w5 ⟨rfl, hH5⟩
    refine WL_v rfl (ov_not rfl) ?_
    refine WL_nil ?_
    clear hH hH3 hH4
    refine WT_cond rfl (fun hfit => ?_) (fun hfit => ?_)
    · skip
      first | with_reducible replace hfit := of_decide_eq_true hfit | with_reducible replace hfit := bn_T hfit | with_reducible replace hfit := bb_T hfit | skip
      refine WT_seq ?_
      refine WT_region ?_
      refine WL_v rfl (ov_assign rfl) ?_
      refine WL_v rfl (ov_assign rfl) ?_
      refine WL_nil ?_
      exact WT_ret2 Try.func68 Try.results68 rfl rfl (.inl ⟨planOk_bad hkp (by rw [nodeOk_eq, hfit, Bool.false_and]), rfl, H.drops (_ :: GX :: Gs) hH5⟩)
    first | with_reducible replace hfit := of_decide_eq_false hfit | with_reducible replace hfit := bn_F hfit | with_reducible replace hfit := bb_F hfit | skip
    refine WT_skip ?_
    refine WT_seq ?_
    refine WT_seq ?_
    refine WT_region ?_
    refine WL_v rfl (ov_field rfl fo_impl_Node_0) ?_
    refine WL_v rfl (ov_load rfl one_int (hH5.cb 0 rfl 0)) ?_
    refine WL_v rfl (ov_eql rfl rfl) ?_
    refine WL_nil ?_
    have hfrm : ∀ f ∈ p[k].frm, 0 ≤ f ∧ f < (k : Int) := by
      have h1 := hfit
      simp only [fitsB, Bool.and_eq_true, List.all_eq_true, decide_eq_true_eq] at h1
      intro f hf
      have := h1.1.2 f hf
      omega
    have hfl : p[k].frm.length ≤ 2 := by
      have h1 := hfit
      simp only [fitsB, Bool.and_eq_true, decide_eq_true_eq] at h1
      have := kindNeeds_le p[k].kind
      have := h1.1.1
      omega
    refine WT_join (ι := Int) (fun wd => [(0, pv), (4, gv), (5, .int .i64 wd), (6, .int .i64 (k : Int)), (7, .pointer (some ⟨gx, 0, none⟩)), (17, pv), (18, .int .i64 (p.length : Int)), (19, .int .i64 (k : Int))])
      (fun wd w => WdOk p (k + 1) wd ∧ nodeOk p[k] k (wideOf p) = true ∧ H w h ([(gx, .cells #[.int .i64 p[k].kind, fv, rv] 32 (0, 0))] :: GX :: (Gs ++ Ls))) (fun joined => ?_) ?_
    · skip
      refine WT_cond rfl (fun h0 => ?_) (fun h0 => ?_)
      · skip
        first | with_reducible replace h0 := of_decide_eq_true h0 | with_reducible replace h0 := bn_T h0 | with_reducible replace h0 := bb_T h0 | skip
        by_cases hw : 0 ≤ wd
        · have hwd' : wd = (wideOf p : Int) := hwd.elim (fun h1 => by have := h1.1; omega) id
          refine WT_seq ?_
          refine WT_seq ?_
          refine WT_region ?_
          refine WL_v rfl (ov_move rfl) ?_
          refine WL_v rfl (ov_T (ov_geq rfl rfl) (by first | exact decide_eq_true hw | exact nb_T hw | exact mb_T hw | exact hw | (simp only [decide_eq_true_eq]; omega) | simpa using hw)) ?_
          refine WL_v rfl (ov_move rfl) ?_
          refine WL_guardOn rfl rfl ?_
          refine WL_v rfl (ov_field rfl fo_impl_Node_2) ?_
          refine WL_guardOn rfl rfl ?_
          refine WL_v rfl (ov_load rfl one_sl_int (hH5.cb 0 rfl 2)) ?_
          refine WL_guardOn rfl rfl ?_
          refine WL_v rfl (ov_len rfl hr.sl st_sl_int) ?_
          refine WL_guardOn rfl rfl ?_
          refine WL_v rfl (ov_move rfl) ?_
          refine WL_guardOn rfl rfl ?_
          refine WL_v rfl (ov_neq rfl rfl) ?_
          refine WL_v rfl (ov_pickT rfl rfl) ?_
          refine WL_nil ?_
          refine WT_cond rfl (fun hne => ?_) (fun hne => ?_)
          · skip
            first | with_reducible replace hne := of_decide_eq_true hne | with_reducible replace hne := bn_T hne | with_reducible replace hne := bb_T hne | skip
            dsimp only at hne
            refine WT_seq ?_
            refine WT_region ?_
            refine WL_v rfl (ov_assign rfl) ?_
            refine WL_v rfl (ov_assign rfl) ?_
            refine WL_nil ?_
            exact WT_ret2 Try.func68 Try.results68 rfl rfl (.inl ⟨planOk_bad hkp (by rw [nodeOk_eq, if_pos h0, decide_eq_false (by omega), Bool.and_false]), rfl, H.drops (_ :: GX :: Gs) hH5⟩)
          first | with_reducible replace hne := of_decide_eq_false hne | with_reducible replace hne := bn_F hne | with_reducible replace hne := bb_F hne | skip
          dsimp only at hne
          refine WT_skip ?_
          refine WT_region ?_
          refine WL_v rfl (ov_field rfl fo_impl_Node_2) ?_
          refine WL_v rfl (ov_load rfl one_sl_int (hH5.cb 0 rfl 2)) ?_
          refine WL_v rfl (ov_len rfl hr.sl st_sl_int) ?_
          refine WL_v rfl (ov_assign rfl) ?_
          refine WL_nil ?_
          exact joined (p[k].row.length : Int) _ _ (by repeat (first | exact trivial | refine ⟨rfl, ?_⟩)) ⟨.inr (by omega), by rw [nodeOk_eq, hfit, if_pos h0, decide_eq_true (by omega)]; rfl, hH5⟩
        have hwd' : ∀ j (_ : j < k) (hj : j < p.length), p[j].kind ≠ 0 := hwd.elim (·.2) (fun h1 => by omega)
        have hwo := wideOf_first hkp h0 hwd'
        refine WT_seq ?_
        refine WT_seq ?_
        refine WT_region ?_
        refine WL_v rfl (ov_move rfl) ?_
        refine WL_v rfl (ov_F (ov_geq rfl rfl) (by first | exact decide_eq_false hw | exact nb_F hw | exact mb_F hw | exact hw | (simp only [decide_eq_false_iff_not]; omega) | simpa using hw)) ?_
        refine WL_v rfl (ov_move rfl) ?_
        refine WL_guardOff rfl rfl rfl rfl ?_
        refine WL_guardOff rfl rfl rfl rfl ?_
        refine WL_guardOff rfl rfl rfl rfl ?_
        refine WL_guardOff rfl rfl rfl rfl ?_
        refine WL_guardOff rfl rfl rfl rfl ?_
        refine WL_v rfl (ov_pickF rfl rfl) ?_
        refine WL_nil ?_
        refine WT_condF rfl ?_
        refine WT_skip ?_
        refine WT_region ?_
        refine WL_v rfl (ov_field rfl fo_impl_Node_2) ?_
        refine WL_v rfl (ov_load rfl one_sl_int (hH5.cb 0 rfl 2)) ?_
        refine WL_v rfl (ov_len rfl hr.sl st_sl_int) ?_
        refine WL_v rfl (ov_assign rfl) ?_
        refine WL_nil ?_
        exact joined (p[k].row.length : Int) _ _ (by repeat (first | exact trivial | refine ⟨rfl, ?_⟩)) ⟨.inr (by omega), by rw [nodeOk_eq, hfit, if_pos h0, decide_eq_true (by omega)]; rfl, hH5⟩
      first | with_reducible replace h0 := of_decide_eq_false h0 | with_reducible replace h0 := bn_F h0 | with_reducible replace h0 := bb_F h0 | skip
      refine WT_skip ?_
      refine joined wd _ _ (by repeat (first | exact trivial | refine ⟨rfl, ?_⟩)) ⟨?_, by rw [nodeOk_eq, hfit, if_neg h0]; rfl, hH5⟩
      rcases hwd with ⟨h1, h2⟩ | h1
      · refine .inl ⟨h1, fun j hj hjl => ?_⟩
        rcases Nat.lt_or_ge j k with h3 | h3
        · exact h2 j h3 hjl
        · obtain rfl : j = k := by omega
          exact h0
      · exact .inr h1
    clear hH5 hwd
    rintro wd2 w6 ⟨hwd, hnode, hH5⟩
    refine WT_seq ?_
    refine WT_region ?_
    refine WL_v rfl (ov_move rfl) ?_
    refine WL_v rfl (ov_build rfl (run_build_pn _)) ?_
    refine WL_box _ rfl hH5 rfl rfl ?_; rintro gn w7 hH6
    refine WL_v rfl (ov_assign rfl) ?_
    refine WL_nil ?_
    refine WT_seq ?_
    refine WT_seq ?_
    refine WT_region ?_
    refine WL_v rfl (ov_field rfl fo_impl_Node_1) ?_
    refine WL_v rfl (ov_load rfl one_sl_int (hH6.cb 1 rfl 1)) ?_
    refine WL_v rfl (ov_len rfl hf.sl st_sl_int) ?_
    refine WL_v rfl (ov_move rfl) ?_
    refine WL_nil ?_
    refine WT_block ?_
    have hG1 := hG.new (gn := gn)
    have hH7 := hH6.addNode
    clear hH5 hH6
    refine WT_while (fun s : Nat => [(0, pv), (4, gv), (5, .int .i64 wd2), (8, ptr gn), (17, pv), (18, .int .i64 (p.length : Int)), (19, .int .i64 (k : Int)), (47, fv), (48, .int .i64 (p[k].frm.length : Int)), (49, .int .i64 (s : Int))])
      (fun j w => j ≤ p[k].frm.length ∧ ∃ Gs', Gr Gs' (fun a => if a = k then gn else g a) (fun a => if a = k then needTo (p[k].frm.take j) else needTo (p.getD a default).frm) (fun a => if a = k then [] else usersTo p k a ++ (if a ∈ needTo (p[k].frm.take j) then [k] else [])) (k + 1) ∧
        H w h (Gs' ++ ([(gx, .cells #[.int .i64 p[k].kind, fv, rv] 32 (0, 0))] :: GX :: Ls)))
      (fun j => p[k].frm.length - j) 0 (by repeat (first | exact trivial | refine ⟨rfl, ?_⟩)) ⟨by omega, _, hG1.congr (fun a _ => by by_cases ha : a = k <;> simp [ha, needTo]) (fun a _ => by by_cases ha : a = k <;> simp [ha, needTo]), hH7⟩ ?_
    clear hG1 hH7
    rintro j w8 ⟨hj, Gs', hG', hH8⟩ again2
    refine WT_seq ?_
    refine WT_region ?_
    refine WL_v rfl (ov_lss rfl rfl) ?_
    refine WL_nil ?_
    refine WT_seq ?_
    refine WT_cond rfl (fun hc2 => ?_) (fun hc2 => ?_)
    · skip
      first | with_reducible replace hc2 := of_decide_eq_true hc2 | with_reducible replace hc2 := bn_T hc2 | with_reducible replace hc2 := bb_T hc2 | skip
      have hjl : j < p[k].frm.length := by omega
      have hfb := hfrm p[k].frm[j] (List.getElem_mem hjl)
      obtain ⟨fn, hfn⟩ := Int.eq_ofNat_of_zero_le hfb.1
      have hfk : fn < k := by omega
      have hgl := hG'.len
      have hcellG : w8.cell? ((slA gv).add (fn * 1)) = some (ptr (g fn)) := by
        rw [Nat.mul_one]
        exact hGX.cell hH8 (i := Gs'.length + 1) (by rw [List.getElem?_append_right (by omega)]; simp) (by simp [hfk])
      have hlink := link_ok hG' hH8 (i := k) (f := fn) (by omega) (by omega) (by
        simp only [if_true]
        have := needTo_len (p[k].frm.take j)
        rw [List.length_take] at this; omega) (by
        simp only [show ¬ fn = k by omega, if_false, List.length_append]
        have := usersTo_len p k fn
        split <;> simp <;> omega)
      simp only [if_true, show ¬ fn = k by omega, if_false] at hlink
      refine WT_skip ?_
      refine WT_seq ?_
      refine WT_block ?_
      refine WT_seq ?_
      refine WT_region ?_
      refine WL_v rfl (ov_index rfl rfl st_sl_int hf.sl hjl) ?_
      refine WL_v rfl (ov_load rfl one_int (hf.cell hH8 hjl)) ?_; rw [hfn]
      refine WL_v rfl (ov_assign rfl) ?_
      refine WL_nil ?_
      refine WT_region ?_
      refine WL_v rfl (ov_move rfl) ?_
      refine WL_v rfl (ov_move rfl) ?_
      refine WL_v rfl (ov_move rfl) ?_
      refine WL_v rfl (ov_index rfl rfl st_sl_p_impl_planNode hGX.sl hfk) ?_
      refine WL_v rfl (ov_load rfl one_p_impl_planNode (hcellG)) ?_
      refine WL_call rfl rfl cf_p_impl_planNode_link (hlink) ?_; rintro _ w9 ⟨Gs2, hG2, hH9⟩
      refine WL_nil ?_
      refine WT_inBlock ?_
      refine WT_region ?_
      refine WL_v rfl (ov_add rfl rfl (by omega)) ?_
      refine WL_v rfl (ov_move rfl) ?_
      refine WL_nil ?_
      refine again2 (j + 1) _ _ (by omega) (by repeat (first | exact trivial | refine ⟨rfl, ?_⟩)) ⟨by omega, Gs2, hG2.congr (fun a _ => ?_) (fun a _ => ?_), hH9⟩
      · by_cases ha : a = k
        · subst ha
          simp only [if_true]
          rw [List.take_succ_eq_append_getElem hjl, needTo_snoc, hfn]
          simp
        · simp [ha]
      · rw [List.take_succ_eq_append_getElem hjl, needTo_snoc, hfn]
        simp only [Int.toNat_natCast, mem_addN]
        by_cases ha : a = k
        · subst ha
          simp only [if_true]
          rw [if_neg (by omega)]
        · simp only [ha, if_false]
          by_cases haf : a = fn
          · subst haf
            by_cases hm : a ∈ needTo (List.take j p[k].frm) <;> simp [hm]
          · simp [haf]
    first | with_reducible replace hc2 := of_decide_eq_false hc2 | with_reducible replace hc2 := bn_F hc2 | with_reducible replace hc2 := bb_F hc2 | skip
    obtain rfl : j = p[k].frm.length := by omega
    have hH9 := hH8.backG.drop
    rw [List.take_length] at hG'
    clear hH8
    refine WT_exit rfl ?_
    refine WT_region ?_
    refine WL_v rfl (ov_move rfl) ?_
    refine WL_v rfl (ov_move rfl) ?_
    refine WL_buildSlice (sz := 1) [ptr gn] rfl hH9 rfl (run_bs_ptr _) rfl (by omega) ?_; rintro Y yv w9 hY hH10
    refine WL_append1 (i := 1) (j := 0) rfl hH10 rfl rfl st_sl_p_impl_planNode (by omega) rfl hGX rfl hY (ones_cons rfl ones_nil) (by omega) (by omega) ?_; rintro GX2 gv2 w10 hGX2 hH11
    refine WL_v rfl (ov_assign rfl) ?_
    refine WL_nil ?_
    refine WT_inBlock ?_
    refine WT_region ?_
    refine WL_v rfl (ov_add rfl rfl (by omega)) ?_
    refine WL_v rfl (ov_move rfl) ?_
    refine WL_nil ?_
    refine again (k + 1, gv2, wd2) _ _ (by simp only; omega) (by repeat (first | exact trivial | refine ⟨rfl, ?_⟩)) ⟨by simp only; omega, fun j hj hjl => ?_, hwd, GX2, Gs', _, ?_, hG'.congr (fun a _ => ?_) (fun a ha => ?_), hH11.drop⟩
    · rcases Nat.lt_or_ge j k with h1 | h1
      · exact hall j h1 hjl
      · obtain rfl : j = k := by simp only at hj; omega
        exact hnode
    · rw [List.range_succ, List.map_append]
      have hm : ((List.range k).map fun j => ptr (if j = k then gn else g j)) = (List.range k).map fun j => ptr (g j) :=
        List.map_congr_left fun j hj => by rw [if_neg (by have := List.mem_range.1 hj; omega)]
      rw [hm]
      simpa using hGX2
    · by_cases ha : a = k
      · subst ha; rw [hgk, if_pos rfl]
      · simp [ha]
    · rw [usersTo_succ hkp (fun f hf => (hfrm f hf).1)]
      by_cases hak : a = k
      · subst hak
        have h1 : usersTo p a a = [] := by
          apply List.eq_nil_iff_forall_not_mem.2
          intro j hj
          obtain ⟨h2, h3⟩ := mem_usersTo.1 hj
          rw [getD_of (by omega)] at h3
          have := PlanNodeLt hall (by omega) h2 _ h3
          omega
        have h2 : ¬ a ∈ needTo p[a].frm := by
          rw [mem_needTo' (fun f hf => (hfrm f hf).1)]
          intro h3
          have := (hfrm _ h3).2
          omega
        simp [h1, h2]
      · simp [hak]
  first | with_reducible replace hc := of_decide_eq_false hc | with_reducible replace hc := bn_F hc | with_reducible replace hc := bb_F hc | skip
  obtain rfl : k = p.length := by omega
  obtain ⟨h', hle, hH2, hGr⟩ := hG.freeze hGX hH
  refine WT_exit rfl ?_
  refine WT_seq ?_
  refine WT_region ?_
  refine WL_v rfl (ov_move rfl) ?_
  refine WL_v rfl (ov_assign rfl) ?_
  refine WL_v rfl (ov_assign rfl) ?_
  refine WL_nil ?_
  exact WT_ret2 Try.func68 Try.results68 rfl rfl (.inr ⟨planOk_of (by omega) (fun j hj => hall j hj hj), gv, g, h', rfl, hle, hH2, hGr⟩)
end
end Go.Proofs.Ytafljegjdanldaa

/- Walks: a valid plan; what all nodes cost, and the most expensive path. -/
namespace Go.Proofs.Ytafljegjdanldaa
open Go.RowKit

section
variable {h : GH} {Ls : List Heaplet} {w : World}

theorem planValid_ok (hH : H w h Ls) {pv : Value} {p : List Nd} (hP : Plan h pv p) : Rets Try.prog 39 #[pv] w fun v w' => v = .bool (planOk p) ∧ H w' h Ls := by
  refine rets_enter Try.func39 rfl Try.ntmps39 (by simp) ?_
  refine WT_seq ?_
  refine WT_region ?_
  refine WL_v rfl (ov_assign rfl) ?_
  refine WL_nil ?_
  refine WT_seq ?_
  refine WT_region ?_
  refine WL_v rfl (ov_move rfl) ?_
  have hc : Rets Try.prog 68 #[pv] w fun v w' => ∃ gv, v = .tuple #[gv, .bool (planOk p)] ∧ H w' h Ls := (graphOf_ok hH hP).mono fun v w' hv => by
    rcases hv with ⟨h1, rfl, h2⟩ | ⟨h1, gv, g, h', rfl, hle, h2, _⟩
    · exact ⟨_, by rw [h1], h2⟩
    · exact ⟨gv, by rw [h1], h2.weak hle⟩
  refine WL_call rfl rfl cf_impl_graphOf (hc) ?_; rintro _ w1 ⟨gv, rfl, hH1⟩
  refine WL_v rfl (ov_move rfl) ?_
  refine WL_v rfl (ov_extract rfl rfl) ?_
  refine WL_v rfl (ov_extract rfl rfl) ?_
  refine WL_v rfl (ov_assign rfl) ?_
  refine WL_v rfl (ov_assign rfl) ?_
  refine WL_nil ?_
  refine WT_seq ?_
  refine WT_region ?_
  refine WL_v rfl (ov_move rfl) ?_
  refine WL_v rfl (ov_assign rfl) ?_
  refine WL_nil ?_
  exact WT_ret1 Try.func39 Try.results39 rfl ⟨rfl, hH1⟩

theorem costKind_valid {k : Int} (hk : kindOk k = true) : costKind k = kindCost k := by rw [costKind, if_pos hk]

theorem costAll_ok (hH : H w h Ls) {pv : Value} {p : List Nd} (hP : Plan h pv p) : Rets Try.prog 19 #[pv] w fun v w' => v = .int .i64 (if planOk p then sumTo p p.length else -1) ∧ H w' h Ls := by
  refine rets_enter Try.func19 rfl Try.ntmps19 (by simp) ?_
  refine WT_seq ?_
  refine WT_region ?_
  refine WL_v rfl (ov_assign rfl) ?_
  refine WL_nil ?_
  refine WT_seq ?_
  refine WT_seq ?_
  refine WT_region ?_
  refine WL_v rfl (ov_move rfl) ?_
  refine WL_call rfl rfl cf_impl_PlanValid (planValid_ok hH hP) ?_; rintro _ w1 ⟨rfl, hH1⟩
  refine WL_v rfl (ov_not rfl) ?_
  refine WL_nil ?_
  refine WT_cond rfl (fun hv => ?_) (fun hv => ?_)
  · skip
    first | with_reducible replace hv := of_decide_eq_true hv | with_reducible replace hv := bn_T hv | with_reducible replace hv := bb_T hv | skip
    refine WT_seq ?_
    refine WT_region ?_
    refine WL_v rfl (ov_assign rfl) ?_
    refine WL_nil ?_
    exact WT_ret1 Try.func19 Try.results19 rfl ⟨by rw [hv]; rfl, hH1⟩
  first | with_reducible replace hv := of_decide_eq_false hv | with_reducible replace hv := bn_F hv | with_reducible replace hv := bb_F hv | skip
  have hlen := PlanOk.len hv
  refine WT_skip ?_
  refine WT_seq ?_
  refine WT_region ?_
  refine WL_v rfl (ov_assign rfl) ?_
  refine WL_nil ?_
  refine WT_seq ?_
  refine WT_seq ?_
  refine WT_region ?_
  refine WL_v rfl (ov_move rfl) ?_
  refine WL_v rfl (ov_len rfl hP.sl st_sl_impl_Node) ?_
  refine WL_v rfl (ov_move rfl) ?_
  refine WL_nil ?_
  refine WT_block ?_
  refine WT_while (fun s : Nat => [(0, pv), (3, .int .i64 (sumTo p s)), (9, pv), (10, .int .i64 (p.length : Int)), (11, .int .i64 (s : Int))]) (fun k w => k ≤ p.length ∧ H w h Ls) (fun k => p.length - k) 0 (by repeat (first | exact trivial | refine ⟨rfl, ?_⟩)) ⟨by omega, hH1⟩ ?_
  clear hH hH1
  rintro k w2 ⟨hk, hH⟩ again
  refine WT_seq ?_
  refine WT_region ?_
  refine WL_v rfl (ov_lss rfl rfl) ?_
  refine WL_nil ?_
  refine WT_seq ?_
  refine WT_cond rfl (fun hc => ?_) (fun hc => ?_)
  · skip
    first | with_reducible replace hc := of_decide_eq_true hc | with_reducible replace hc := bn_T hc | with_reducible replace hc := bb_T hc | skip
    have hkp : k < p.length := by omega
    obtain ⟨fv, rv, hf, hr, hcell⟩ := hP.node hkp
    have hr1 := sumTo_rg p k
    have hr2 := kindCost_rg p[k].kind
    have hkk := costKind_valid (PlanOk.node hv hkp).kind
    refine WT_skip ?_
    refine WT_seq ?_
    refine WT_block ?_
    refine WT_seq ?_
    refine WT_region ?_
    refine WL_v rfl (ov_index rfl rfl st_sl_impl_Node hP.sl hkp) ?_
    refine WL_v rfl (ov_loadN [.int .i64 p[k].kind, fv, rv] rfl agg_impl_Node rfl ((hcell _ _ hH))) ?_
    refine WL_alloc _ rfl hH zero_impl_Node rfl ?_; rintro g w3 hH3
    refine WL_storeN hH3 rfl rfl (i := 0) rfl rfl rfl (ones_cons rfl (ones_cons hf.sl.one (ones_cons hr.sl.one ones_nil))) sz_impl_Node ?_; rintro w4 hH4
    refine WL_nil ?_
    refine WT_region ?_
    refine WL_v rfl (ov_move rfl) ?_
    refine WL_v rfl (ov_field rfl fo_impl_Node_0) ?_
    refine WL_v rfl (ov_load rfl one_int (hH4.cb 0 rfl 0)) ?_
    refine WL_call rfl rfl cf_impl_CostKind (costKind_ok hH4 _) ?_; rintro _ w5 ⟨rfl, hH5⟩
    refine WL_v rfl (ov_as (ov_add rfl rfl (by omega)) (congrArg (Value.int .i64) ((by rw [hkk, sumTo, getD_of hkp] : sumTo p k + costKind p[k].kind = sumTo p (k + 1))))) ?_
    refine WL_v rfl (ov_assign rfl) ?_
    refine WL_nil ?_
    refine WT_inBlock ?_
    refine WT_region ?_
    refine WL_v rfl (ov_add rfl rfl (by omega)) ?_
    refine WL_v rfl (ov_move rfl) ?_
    refine WL_nil ?_
    refine again (k + 1) _ _ (by omega) (by repeat (first | exact trivial | refine ⟨rfl, ?_⟩)) ⟨by omega, hH5.drop⟩
  first | with_reducible replace hc := of_decide_eq_false hc | with_reducible replace hc := bn_F hc | with_reducible replace hc := bb_F hc | skip
  obtain rfl : k = p.length := by omega
  refine WT_exit rfl ?_
  refine WT_seq ?_
  refine WT_region ?_
  refine WL_v rfl (ov_move rfl) ?_
  refine WL_v rfl (ov_assign rfl) ?_
  refine WL_nil ?_
  exact WT_ret1 Try.func19 Try.results19 rfl ⟨by rw [if_pos hv], hH⟩

theorem set_mid (ps r : List Int) (v u : Int) (n : Nat) (h : ps.length = n) : (ps ++ v :: r).set n u = ps ++ u :: r := by
  subst h
  simp
theorem getElem_mid (ps r : List Int) (v : Int) (n : Nat) (h : ps.length = n) (hn : n < (ps ++ v :: r).length) : (ps ++ v :: r)[n] = v := by
  subst h
  simp

theorem costPath_ok (hH : H w h Ls) {pv : Value} {p : List Nd} (hP : Plan h pv p) : Rets Try.prog 28 #[pv] w fun v w' => v = .int .i64 (if planOk p then mostOf (pathsTo p p.length) else -1) ∧ H w' h Ls := by
  refine rets_enter Try.func28 rfl Try.ntmps28 (by simp) ?_
  refine WT_seq ?_
  refine WT_region ?_
  refine WL_v rfl (ov_assign rfl) ?_
  refine WL_nil ?_
  refine WT_seq ?_
  refine WT_seq ?_
  refine WT_region ?_
  refine WL_v rfl (ov_move rfl) ?_
  refine WL_call rfl rfl cf_impl_PlanValid (planValid_ok hH hP) ?_; rintro _ w1 ⟨rfl, hH1⟩
  refine WL_v rfl (ov_not rfl) ?_
  refine WL_nil ?_
  refine WT_cond rfl (fun hv => ?_) (fun hv => ?_)
  · skip
    first | with_reducible replace hv := of_decide_eq_true hv | with_reducible replace hv := bn_T hv | with_reducible replace hv := bb_T hv | skip
    refine WT_seq ?_
    refine WT_region ?_
    refine WL_v rfl (ov_assign rfl) ?_
    refine WL_nil ?_
    exact WT_ret1 Try.func28 Try.results28 rfl ⟨by rw [hv]; rfl, hH1⟩
  first | with_reducible replace hv := of_decide_eq_false hv | with_reducible replace hv := bn_F hv | with_reducible replace hv := bb_F hv | skip
  have hlen := PlanOk.len hv
  refine WT_skip ?_
  refine WT_seq ?_
  refine WT_region ?_
  refine WL_v rfl (ov_assign rfl) ?_
  refine WL_nil ?_
  refine WT_seq ?_
  refine WT_region ?_
  refine WL_v rfl (ov_move rfl) ?_
  refine WL_v rfl (ov_len rfl hP.sl st_sl_impl_Node) ?_
  refine WL_makeI rfl hH1 rfl rfl st_sl_int (by omega) (by omega) ?_; rintro X0 sv w2 hX0 hH2
  refine WL_v rfl (ov_assign rfl) ?_
  refine WL_nil ?_
  refine WT_seq ?_
  refine WT_seq ?_
  refine WT_region ?_
  refine WL_v rfl (ov_move rfl) ?_
  refine WL_v rfl (ov_len rfl hP.sl st_sl_impl_Node) ?_
  refine WL_v rfl (ov_move rfl) ?_
  refine WL_nil ?_
  refine WT_block ?_
  refine WT_while (fun s : Nat => [(0, pv), (3, .int .i64 (mostOf (pathsTo p s))), (4, sv), (15, pv), (16, .int .i64 (p.length : Int)), (17, .int .i64 (s : Int))]) (fun k w => k ≤ p.length ∧ ∃ X, IRow X 3 sv (pathsTo p k ++ List.replicate (p.length - k) 0) ∧ H w h (X :: Ls)) (fun k => p.length - k) 0 (by repeat (first | exact trivial | refine ⟨rfl, ?_⟩)) ⟨by omega, X0, by simpa [pathsTo, progTo] using hX0, hH2⟩ ?_
  clear hH hH1 hH2 hX0
  rintro k w3 ⟨hk, X, hX, hH⟩ again
  refine WT_seq ?_
  refine WT_region ?_
  refine WL_v rfl (ov_lss rfl rfl) ?_
  refine WL_nil ?_
  refine WT_seq ?_
  refine WT_cond rfl (fun hc => ?_) (fun hc => ?_)
  · skip
    first | with_reducible replace hc := of_decide_eq_true hc | with_reducible replace hc := bn_T hc | with_reducible replace hc := bb_T hc | skip
    have hkp : k < p.length := by omega
    obtain ⟨fv, rv, hf, hr, hcell⟩ := hP.node hkp
    have hN := PlanOk.node hv hkp
    have hrg := pathsTo_rg p k
    have hr2 := kindCost_rg p[k].kind
    have hkk := costKind_valid hN.kind
    have hpl : (pathsTo p k).length = k := progTo_len _ _ _
    have hrep : List.replicate (p.length - k) (0 : Int) = 0 :: List.replicate (p.length - (k + 1)) 0 := by
      rw [show p.length - k = (p.length - (k + 1)) + 1 by omega, List.replicate_succ]
    rw [hrep] at hX
    refine WT_skip ?_
    refine WT_seq ?_
    refine WT_block ?_
    refine WT_seq ?_
    refine WT_region ?_
    refine WL_v rfl (ov_move rfl) ?_
    refine WL_v rfl (ov_index rfl rfl st_sl_impl_Node hP.sl hkp) ?_
    refine WL_v rfl (ov_loadN [.int .i64 p[k].kind, fv, rv] rfl agg_impl_Node rfl ((hcell _ _ hH))) ?_
    refine WL_alloc _ rfl hH zero_impl_Node rfl ?_; rintro g w4 hH4
    refine WL_v rfl (ov_assign rfl) ?_
    refine WL_storeN hH4 rfl rfl (i := 0) rfl rfl rfl (ones_cons rfl (ones_cons hf.sl.one (ones_cons hr.sl.one ones_nil))) sz_impl_Node ?_; rintro w5 hH5
    refine WL_nil ?_
    refine WT_seq ?_
    refine WT_seq ?_
    refine WT_region ?_
    refine WL_v rfl (ov_field rfl fo_impl_Node_1) ?_
    refine WL_v rfl (ov_load rfl one_sl_int (hH5.cb 0 rfl 1)) ?_
    refine WL_v rfl (ov_len rfl hf.sl st_sl_int) ?_
    refine WL_v rfl (ov_move rfl) ?_
    refine WL_nil ?_
    refine WT_block ?_
    have hfl := hf.sl.lim
    refine WT_while (fun s : Nat => [(0, pv), (3, .int .i64 (mostOf (pathsTo p k))), (4, sv), (5, .int .i64 (k : Int)), (6, .pointer (some ⟨g, 0, none⟩)), (15, pv), (16, .int .i64 (p.length : Int)), (17, .int .i64 (k : Int)), (23, fv), (24, .int .i64 (p[k].frm.length : Int)), (25, .int .i64 (s : Int))])
      (fun j w => j ≤ p[k].frm.length ∧ ∃ X, IRow X 3 sv (pathsTo p k ++ upOf 0 (pathsTo p k) (p[k].frm.take j) :: List.replicate (p.length - (k + 1)) 0) ∧ H w h ([(g, .cells #[.int .i64 p[k].kind, fv, rv] 32 (0, 0))] :: X :: Ls))
      (fun j => p[k].frm.length - j) 0 (by repeat (first | exact trivial | refine ⟨rfl, ?_⟩)) ⟨by omega, X, hX, hH5⟩ ?_
    clear hH hH4 hH5 hX
    rintro j w6 ⟨hj, X, hX, hH⟩ again2
    have hlen2 : (pathsTo p k ++ upOf 0 (pathsTo p k) (p[k].frm.take j) :: List.replicate (p.length - (k + 1)) 0).length = p.length := by
      simp [hpl]; omega
    refine WT_seq ?_
    refine WT_region ?_
    refine WL_v rfl (ov_lss rfl rfl) ?_
    refine WL_nil ?_
    refine WT_seq ?_
    refine WT_cond rfl (fun hc2 => ?_) (fun hc2 => ?_)
    · skip
      first | with_reducible replace hc2 := of_decide_eq_true hc2 | with_reducible replace hc2 := bn_T hc2 | with_reducible replace hc2 := bb_T hc2 | skip
      have hjl : j < p[k].frm.length := by omega
      have hfb := hN.frm p[k].frm[j] (List.getElem_mem hjl)
      obtain ⟨fn, hfn⟩ := Int.eq_ofNat_of_zero_le hfb.1
      have hfk : fn < k := by omega
      have hkl : k < (pathsTo p k ++ upOf 0 (pathsTo p k) (p[k].frm.take j) :: List.replicate (p.length - (k + 1)) 0).length := by omega
      have hfl2 : fn < (pathsTo p k ++ upOf 0 (pathsTo p k) (p[k].frm.take j) :: List.replicate (p.length - (k + 1)) 0).length := by omega
      have hg1 : (pathsTo p k ++ upOf 0 (pathsTo p k) (p[k].frm.take j) :: List.replicate (p.length - (k + 1)) 0)[fn] = (pathsTo p k).getD fn 0 := by
        rw [List.getElem_append_left (by omega), List.getD_eq_getElem?_getD, List.getElem?_eq_getElem (by omega)]; rfl
      refine WT_skip ?_
      refine WT_seq ?_
      refine WT_block ?_
      refine WT_seq ?_
      refine WT_region ?_
      refine WL_v rfl (ov_index rfl rfl st_sl_int hf.sl hjl) ?_
      refine WL_v rfl (ov_load rfl one_int (hf.cell hH hjl)) ?_; rw [hfn]
      refine WL_v rfl (ov_assign rfl) ?_
      refine WL_nil ?_
      refine WT_mixL [(0, 0), (1, 0), (2, 0), (3, 0), (4, 0), (5, 0), (6, 0), (7, 0), (8, 0), (9, 0), (10, 0), (11, 0), (12, 3)] mixed (by kernel_rfl) hH ?_
      clear hH
      intro w7 hH hC
      refine WM_v rfl rfl hC (fun _ _ => ov_move rfl) ?_
      refine WM_v rfl rfl hC (fun _ _ => ov_move rfl) ?_
      refine WM_v rfl rfl hC (fun _ _ => ov_move rfl) ?_
      refine WM_v rfl rfl hC (fun _ _ => ov_move rfl) ?_
      refine WM_v rfl rfl hC (fun _ _ => ov_index rfl rfl st_sl_int hX.sl hkl) ?_
      refine WM_v rfl rfl hC (fun _ ⟨_, hH⟩ => ov_load rfl one_int (hX.cell hH (i := 2) rfl hkl)) ?_
      refine WM_v rfl rfl hC (fun _ _ => ov_move rfl) ?_
      refine WM_v rfl rfl hC (fun _ _ => ov_move rfl) ?_
      refine WM_v rfl rfl hC (fun _ _ => ov_index rfl rfl st_sl_int hX.sl hfl2) ?_
      refine WM_v rfl rfl hC (fun _ ⟨_, hH⟩ => ov_load rfl one_int (hX.cell hH (i := 2) rfl hfl2)) ?_
      refine WM_v rfl rfl hC (fun _ _ => ov_max rfl rfl) ?_
      refine WM_v rfl rfl hC (fun _ _ => ov_index rfl rfl st_sl_int hX.sl hkl) ?_
      refine WM_e rfl ?_
      refine WL_storeI hH rfl rfl (i := 1) rfl hX hkl sz_int ?_; rintro X2 w8 hX2 hH8
      refine WL_mix (fun h => absurd rfl h) ?_
      refine WM_nil ?_
      refine WT_inBlock ?_
      refine WT_region ?_
      refine WL_v rfl (ov_add rfl rfl (by omega)) ?_
      refine WL_v rfl (ov_move rfl) ?_
      refine WL_nil ?_
      refine again2 (j + 1) _ _ (by omega) (by repeat (first | exact trivial | refine ⟨rfl, ?_⟩)) ⟨by omega, X2, ?_, hH8⟩
      rw [hg1, getElem_mid _ _ _ _ hpl, set_mid _ _ _ _ _ hpl] at hX2
      rw [List.take_succ_eq_append_getElem hjl, upOf_snoc, hfn, Int.add_zero]
      exact hX2
    first | with_reducible replace hc2 := of_decide_eq_false hc2 | with_reducible replace hc2 := bn_F hc2 | with_reducible replace hc2 := bb_F hc2 | skip
    obtain rfl : j = p[k].frm.length := by omega
    rw [List.take_length] at hX hlen2
    have hu1 := upOf_nonneg 0 (pathsTo p k) p[k].frm
    have hu2 : upOf 0 (pathsTo p k) p[k].frm ≤ 4 * (k : Int) := upOf_le (by omega) fun f _ => by
      rcases getD_mem_or (pathsTo p k) f.toNat with h | h
      · rw [h]; omega
      · have := hrg _ h; omega
    have hg2 := getElem_mid (pathsTo p k) (List.replicate (p.length - (k + 1)) 0) (upOf 0 (pathsTo p k) p[k].frm) k hpl
    have hkl : k < (pathsTo p k ++ upOf 0 (pathsTo p k) p[k].frm :: List.replicate (p.length - (k + 1)) 0).length := by omega
    have hst : pathsTo p (k + 1) = pathsTo p k ++ [upOf 0 (pathsTo p k) p[k].frm + kindCost p[k].kind] := by
      simp only [pathsTo, progTo, getD_of hkp]
    refine WT_exit rfl ?_
    refine WT_seq ?_
    refine WT_mixL [(0, 0), (1, 0), (2, 0), (3, 0), (4, 0), (5, 0), (6, 2), (7, 0), (8, 0), (9, 3)] mixed (by kernel_rfl) hH ?_
    clear hH
    intro w7 hH hC
    refine WM_v rfl rfl hC (fun _ _ => ov_move rfl) ?_
    refine WM_v rfl rfl hC (fun _ _ => ov_move rfl) ?_
    refine WM_v rfl rfl hC (fun _ _ => ov_index rfl rfl st_sl_int hX.sl hkl) ?_
    refine WM_v rfl rfl hC (fun _ ⟨_, hH⟩ => ov_load rfl one_int (hX.cell hH (i := 2) rfl hkl)) ?_; rw [hg2 hkl]
    refine WM_v rfl rfl hC (fun _ _ => ov_field rfl fo_impl_Node_0) ?_
    refine WM_v rfl rfl hC (fun _ ⟨_, hH⟩ => ov_load rfl one_int (hH.cb 1 rfl 0)) ?_
    refine WM_e rfl ?_
    refine WL_call rfl rfl cf_impl_CostKind (costKind_ok hH _) ?_; rintro _ w8 ⟨rfl, hH8⟩
    replace hC : Cl _ _ _ := Cl.of hH8
    refine WL_mix (fun _ => hC) ?_
    refine WM_v rfl rfl hC (fun _ _ => ov_as (ov_add rfl rfl (by omega)) (congrArg (Value.int .i64) ((by rw [hkk] : upOf 0 (pathsTo p k) p[k].frm + costKind p[k].kind = upOf 0 (pathsTo p k) p[k].frm + kindCost p[k].kind)))) ?_
    refine WM_v rfl rfl hC (fun _ _ => ov_index rfl rfl st_sl_int hX.sl hkl) ?_
    refine WM_e rfl ?_
    refine WL_storeI hH8 rfl rfl (i := 1) rfl hX hkl sz_int ?_; rintro X2 w9 hX2 hH9
    refine WL_mix (fun h => absurd rfl h) ?_
    refine WM_nil ?_
    refine WT_region ?_
    refine WL_v rfl (ov_move rfl) ?_
    refine WL_v rfl (ov_move rfl) ?_
    refine WL_v rfl (ov_move rfl) ?_
    rw [set_mid _ _ _ _ _ hpl] at hX2
    have hkl2 : k < (pathsTo p k ++ (upOf 0 (pathsTo p k) p[k].frm + kindCost p[k].kind) :: List.replicate (p.length - (k + 1)) 0).length := by simp; omega
    have hg3 := getElem_mid (pathsTo p k) (List.replicate (p.length - (k + 1)) 0) (upOf 0 (pathsTo p k) p[k].frm + kindCost p[k].kind) k hpl
    refine WL_v rfl (ov_index rfl rfl st_sl_int hX2.sl hkl2) ?_
    refine WL_v rfl (ov_load rfl one_int (hX2.cell hH9 (i := 1) rfl hkl2)) ?_; rw [hg3 hkl2]
    refine WL_v rfl (ov_as (ov_max rfl rfl) (congrArg (Value.int .i64) (by rw [hst, mostOf_snoc] : max (mostOf (pathsTo p k)) (upOf 0 (pathsTo p k) p[k].frm + kindCost p[k].kind) = mostOf (pathsTo p (k + 1))))) ?_
    refine WL_v rfl (ov_assign rfl) ?_
    refine WL_nil ?_
    refine WT_inBlock ?_
    refine WT_region ?_
    refine WL_v rfl (ov_add rfl rfl (by omega)) ?_
    refine WL_v rfl (ov_move rfl) ?_
    refine WL_nil ?_
    refine again (k + 1) _ _ (by omega) (by repeat (first | exact trivial | refine ⟨rfl, ?_⟩)) ⟨by omega, X2, by rw [hst]; simpa using hX2, hH9.drop⟩
  first | with_reducible replace hc := of_decide_eq_false hc | with_reducible replace hc := bn_F hc | with_reducible replace hc := bb_F hc | skip
  obtain rfl : k = p.length := by omega
  refine WT_exit rfl ?_
  refine WT_seq ?_
  refine WT_region ?_
  refine WL_v rfl (ov_move rfl) ?_
  refine WL_v rfl (ov_assign rfl) ?_
  refine WL_nil ?_
  exact WT_ret1 Try.func28 Try.results28 rfl ⟨by rw [if_pos hv], hH.drop⟩
end
end Go.Proofs.Ytafljegjdanldaa

/- Walks: the laws' own helpers: sizes, copies, equality. -/
namespace Go.Proofs.Ytafljegjdanldaa
open Go.RowKit

section
variable {h : GH} {Ls : List Heaplet} {w : World}

/-- A list of numbers that reads so: shared or one's own. -/
structure RdL (h : GH) (Ls : List Heaplet) (v : Value) (xs : List Int) : Prop where
  sl : Sl v xs.length
  cell : ∀ {w}, H w h Ls → ∀ {j} (hj : j < xs.length), w.cell? ((slA v).add (j * 1)) = some (.int .i64 xs[j])
theorem Ints.rdl {v : Value} {xs : List Int} (hI : Ints h v xs) (Ls : List Heaplet) : RdL h Ls v xs := ⟨hI.sl, fun hH _ hj => hI.cell hH hj⟩
theorem IRow.rdl {X : Heaplet} {e : TypeId} {v : Value} {xs : List Int} (hI : IRow X e v xs) {i : Nat} (hi : Ls[i]? = some X) : RdL h Ls v xs := ⟨hI.sl, fun hH _ hj => hI.cell hH hi hj⟩

theorem eqIntS_ok (hH : H w h Ls) {av bv : Value} {xs ys : List Int} (hA : RdL h Ls av xs) (hB : RdL h Ls bv ys) : Rets Try.prog 88 #[av, bv] w fun v w' => v = .bool (decide (xs = ys)) ∧ H w' h Ls := by
  have hal := hA.sl.lim
  refine rets_enter Try.func88 rfl Try.ntmps88 (by simp) ?_
  refine WT_seq ?_
  refine WT_region ?_
  refine WL_v rfl (ov_assign rfl) ?_
  refine WL_nil ?_
  refine WT_seq ?_
  refine WT_seq ?_
  refine WT_region ?_
  refine WL_v rfl (ov_move rfl) ?_
  refine WL_v rfl (ov_len rfl hA.sl st_sl_int) ?_
  refine WL_v rfl (ov_move rfl) ?_
  refine WL_v rfl (ov_len rfl hB.sl st_sl_int) ?_
  refine WL_v rfl (ov_neq rfl rfl) ?_
  refine WL_nil ?_
  refine WT_cond rfl (fun hne => ?_) (fun hne => ?_)
  · skip
    first | with_reducible replace hne := of_decide_eq_true hne | with_reducible replace hne := bn_T hne | with_reducible replace hne := bb_T hne | skip
    refine WT_seq ?_
    refine WT_region ?_
    refine WL_v rfl (ov_assign rfl) ?_
    refine WL_nil ?_
    exact WT_ret1 Try.func88 Try.results88 rfl ⟨congrArg Value.bool (decide_eq_false fun h => by subst h; exact hne rfl).symm, hH⟩
  first | with_reducible replace hne := of_decide_eq_false hne | with_reducible replace hne := bn_F hne | with_reducible replace hne := bb_F hne | skip
  have hlen : xs.length = ys.length := by omega
  refine WT_skip ?_
  refine WT_seq ?_
  refine WT_seq ?_
  refine WT_region ?_
  refine WL_v rfl (ov_assign rfl) ?_
  refine WL_nil ?_
  refine WT_block ?_
  refine WT_while (fun s : Nat => [(0, av), (1, bv), (5, .int .i64 (s : Int))]) (fun k w => k ≤ xs.length ∧ (∀ j (_ : j < k) (h1 : j < xs.length) (h2 : j < ys.length), xs[j] = ys[j]) ∧ H w h Ls) (fun k => xs.length - k) 0 (by repeat (first | exact trivial | refine ⟨rfl, ?_⟩)) ⟨by omega, by omega, hH⟩ ?_
  clear hH
  rintro k w2 ⟨hk, hall, hH1⟩ again
  refine WT_seq ?_
  refine WT_seq ?_
  refine WT_region ?_
  refine WL_v rfl (ov_move rfl) ?_
  refine WL_v rfl (ov_move rfl) ?_
  refine WL_v rfl (ov_len rfl hA.sl st_sl_int) ?_
  refine WL_v rfl (ov_lss rfl rfl) ?_
  refine WL_nil ?_
  refine WT_cond rfl (fun hc => ?_) (fun hc => ?_)
  · skip
    first | with_reducible replace hc := of_decide_eq_true hc | with_reducible replace hc := bn_T hc | with_reducible replace hc := bb_T hc | skip
    have hkx : k < xs.length := by omega
    have hky : k < ys.length := by omega
    refine WT_skip ?_
    refine WT_seq ?_
    refine WT_block ?_
    refine WT_seq ?_
    refine WT_quiet mixed (by kernel_rfl) hH1 ?_
    clear hH1
    refine WQ_v rfl (fun _ _ => ov_move rfl) ?_
    refine WQ_v rfl (fun _ _ => ov_move rfl) ?_
    refine WQ_v rfl (fun _ _ => ov_index rfl rfl st_sl_int hA.sl hkx) ?_
    refine WQ_v rfl (fun _ hH => ov_load rfl one_int (hA.cell hH hkx)) ?_
    refine WQ_v rfl (fun _ _ => ov_move rfl) ?_
    refine WQ_v rfl (fun _ _ => ov_move rfl) ?_
    refine WQ_v rfl (fun _ _ => ov_index rfl rfl st_sl_int hB.sl hky) ?_
    refine WQ_v rfl (fun _ hH => ov_load rfl one_int (hB.cell hH hky)) ?_
    refine WQ_v rfl (fun _ _ => ov_neq rfl rfl) ?_
    refine WQ_nil ?_
    intro w3 hH1
    refine WT_cond rfl (fun hne => ?_) (fun hne => ?_)
    · skip
      first | with_reducible replace hne := of_decide_eq_true hne | with_reducible replace hne := bn_T hne | with_reducible replace hne := bb_T hne | skip
      refine WT_seq ?_
      refine WT_region ?_
      refine WL_v rfl (ov_assign rfl) ?_
      refine WL_nil ?_
      exact WT_ret1 Try.func88 Try.results88 rfl ⟨congrArg Value.bool (decide_eq_false fun h => by subst h; exact hne rfl).symm, hH1⟩
    first | with_reducible replace hne := of_decide_eq_false hne | with_reducible replace hne := bn_F hne | with_reducible replace hne := bb_F hne | skip
    refine WT_skip ?_
    refine WT_inBlock ?_
    refine WT_region ?_
    refine WL_v rfl (ov_move rfl) ?_
    refine WL_v rfl (ov_add rfl rfl (by omega)) ?_
    refine WL_v rfl (ov_assign rfl) ?_
    refine WL_nil ?_
    refine again (k + 1) _ _ (by omega) (by repeat (first | exact trivial | refine ⟨rfl, ?_⟩)) ⟨by omega, fun j hj h1 h2 => ?_, hH1⟩
    rcases Nat.lt_or_ge j k with h3 | h3
    · exact hall j h3 h1 h2
    · obtain rfl : j = k := by omega
      simpa using hne
  first | with_reducible replace hc := of_decide_eq_false hc | with_reducible replace hc := bn_F hc | with_reducible replace hc := bb_F hc | skip
  obtain rfl : k = xs.length := by omega
  refine WT_exit rfl ?_
  refine WT_seq ?_
  refine WT_region ?_
  refine WL_v rfl (ov_assign rfl) ?_
  refine WL_nil ?_
  exact WT_ret1 Try.func88 Try.results88 rfl ⟨congrArg Value.bool (decide_eq_true (List.ext_getElem hlen fun j h1 h2 => hall j h1 h1 h2)).symm, hH1⟩

theorem toIntS_ok (hH : H w h Ls) {av : Value} {xs : List Int} (hA : Ints h av xs) (hl : xs.length ≤ 1048576) : Rets Try.prog 87 #[av] w fun v w' => ∃ X, IRow X 3 v xs ∧ H w' h (X :: Ls) := by
  refine rets_enter Try.func87 rfl Try.ntmps87 (by simp) ?_
  refine WT_seq ?_
  refine WT_region ?_
  refine WL_v rfl (ov_assign rfl) ?_
  refine WL_nil ?_
  refine WT_seq ?_
  refine WT_region ?_
  refine WL_v rfl (ov_move rfl) ?_
  refine WL_v rfl (ov_len rfl hA.sl st_sl_int) ?_
  refine WL_makeI rfl hH rfl rfl st_sl_int (by omega) (by omega) ?_; rintro X0 sv w1 hX0 hH1
  refine WL_v rfl (ov_assign rfl) ?_
  refine WL_nil ?_
  refine WT_seq ?_
  refine WT_seq ?_
  refine WT_region ?_
  refine WL_v rfl (ov_assign rfl) ?_
  refine WL_nil ?_
  refine WT_block ?_
  refine WT_while (fun s : Nat => [(0, av), (3, sv), (4, .int .i64 (s : Int))]) (fun k w => k ≤ xs.length ∧ ∃ X, IRow X 3 sv (xs.take k ++ List.replicate (xs.length - k) 0) ∧ H w h (X :: Ls)) (fun k => xs.length - k) 0 (by repeat (first | exact trivial | refine ⟨rfl, ?_⟩)) ⟨by omega, X0, by simpa using hX0, hH1⟩ ?_
  clear hH hH1 hX0
  rintro k w2 ⟨hk, X, hX, hH1⟩ again
  refine WT_seq ?_
  refine WT_seq ?_
  refine WT_region ?_
  refine WL_v rfl (ov_move rfl) ?_
  refine WL_v rfl (ov_move rfl) ?_
  refine WL_v rfl (ov_len rfl hA.sl st_sl_int) ?_
  refine WL_v rfl (ov_lss rfl rfl) ?_
  refine WL_nil ?_
  refine WT_cond rfl (fun hc => ?_) (fun hc => ?_)
  · skip
    first | with_reducible replace hc := of_decide_eq_true hc | with_reducible replace hc := bn_T hc | with_reducible replace hc := bb_T hc | skip
    have hkx : k < xs.length := by omega
    have hkl : k < (xs.take k ++ List.replicate (xs.length - k) (0 : Int)).length := by simp; omega
    refine WT_skip ?_
    refine WT_seq ?_
    refine WT_block ?_
    refine WT_region ?_
    refine WL_v rfl (ov_move rfl) ?_
    refine WL_v rfl (ov_move rfl) ?_
    refine WL_v rfl (ov_move rfl) ?_
    refine WL_v rfl (ov_move rfl) ?_
    refine WL_v rfl (ov_index rfl rfl st_sl_int hA.sl hkx) ?_
    refine WL_v rfl (ov_load rfl one_int (hA.cell hH1 hkx)) ?_
    refine WL_v rfl (ov_index rfl rfl st_sl_int hX.sl hkl) ?_
    refine WL_storeI hH1 rfl rfl (i := 0) rfl hX hkl sz_int ?_; rintro X2 w3 hX2 hH3
    refine WL_nil ?_
    refine WT_inBlock ?_
    refine WT_region ?_
    refine WL_v rfl (ov_move rfl) ?_
    refine WL_v rfl (ov_add rfl rfl (by omega)) ?_
    refine WL_v rfl (ov_assign rfl) ?_
    refine WL_nil ?_
    refine again (k + 1) _ _ (by omega) (by repeat (first | exact trivial | refine ⟨rfl, ?_⟩)) ⟨by omega, X2, ?_, hH3⟩
    have h1 : (xs.take k ++ List.replicate (xs.length - k) (0 : Int)).set k xs[k] = xs.take (k + 1) ++ List.replicate (xs.length - (k + 1)) 0 := by
      have h0 : k - (xs.take k).length = 0 := by rw [List.length_take]; omega
      rw [List.set_append_right _ _ (by rw [List.length_take]; omega), show xs.length - k = (xs.length - (k + 1)) + 1 by omega, List.replicate_succ, h0, List.set_cons_zero, List.take_succ_eq_append_getElem hkx, List.append_assoc]
      rfl
    rw [h1] at hX2
    exact hX2
  first | with_reducible replace hc := of_decide_eq_false hc | with_reducible replace hc := bn_F hc | with_reducible replace hc := bb_F hc | skip
  obtain rfl : k = xs.length := by omega
  refine WT_exit rfl ?_
  refine WT_seq ?_
  refine WT_region ?_
  refine WL_v rfl (ov_move rfl) ?_
  refine WL_v rfl (ov_assign rfl) ?_
  refine WL_nil ?_
  exact WT_ret1 Try.func87 Try.results87 rfl ⟨X, by simpa using hX, hH1⟩

theorem szIntS_ok (hH : H w h Ls) {av : Value} {xs : List Int} (hA : Ints h av xs) {r : Int} (hr : 0 ≤ r ∧ r ≤ 1048576) : Rets Try.prog 86 #[av, .int .i64 r] w fun v w' => ∃ s : Int, v = .int .i64 s ∧ s ≤ r ∧ (s = -1 ∨ (0 ≤ s ∧ (xs.length : Int) ≤ r)) ∧ H w' h Ls := by
  have hal := hA.sl.lim
  refine rets_enter Try.func86 rfl Try.ntmps86 (by simp) ?_
  refine WT_seq ?_
  refine WT_region ?_
  refine WL_v rfl (ov_assign rfl) ?_
  refine WL_nil ?_
  refine WT_seq ?_
  refine WT_region ?_
  refine WL_v rfl (ov_move rfl) ?_
  refine WL_v rfl (ov_move rfl) ?_
  refine WL_v rfl (ov_len rfl hA.sl st_sl_int) ?_
  refine WL_v rfl (ov_sub rfl rfl (by omega)) ?_
  refine WL_v rfl (ov_assign rfl) ?_
  refine WL_nil ?_
  refine WT_seq ?_
  refine WT_seq ?_
  refine WT_region ?_
  refine WL_v rfl (ov_move rfl) ?_
  refine WL_v rfl (ov_lss rfl rfl) ?_
  refine WL_nil ?_
  refine WT_cond rfl (fun hne => ?_) (fun hne => ?_)
  · skip
    first | with_reducible replace hne := of_decide_eq_true hne | with_reducible replace hne := bn_T hne | with_reducible replace hne := bb_T hne | skip
    refine WT_seq ?_
    refine WT_region ?_
    refine WL_v rfl (ov_assign rfl) ?_
    refine WL_nil ?_
    exact WT_ret1 Try.func86 Try.results86 rfl ⟨_, rfl, by omega, .inl rfl, hH⟩
  first | with_reducible replace hne := of_decide_eq_false hne | with_reducible replace hne := bn_F hne | with_reducible replace hne := bb_F hne | skip
  refine WT_skip ?_
  refine WT_seq ?_
  refine WT_region ?_
  refine WL_v rfl (ov_move rfl) ?_
  refine WL_v rfl (ov_assign rfl) ?_
  refine WL_nil ?_
  exact WT_ret1 Try.func86 Try.results86 rfl ⟨_, rfl, by omega, .inr ⟨by omega, by omega⟩, hH⟩

theorem szNode_ok (hH : H w h Ls) {xv : Value} {x : Nd} (hx : NdV h xv x) {r : Int} (hr : 0 ≤ r ∧ r ≤ 1048576) : Rets Try.prog 54 #[xv, .int .i64 r] w fun v w' => ∃ s : Int, v = .int .i64 s ∧ s ≤ r ∧ (s = -1 ∨ (0 ≤ s ∧ (x.frm.length : Int) ≤ r ∧ (x.row.length : Int) ≤ r)) ∧ H w' h Ls := by
  obtain ⟨fv, rv, rfl, hf, hrw⟩ := hx
  refine rets_enter Try.func54 rfl Try.ntmps54 (by simp) ?_
  refine WT_seq ?_
  refine WT_region ?_
  refine WL_box _ rfl hH rfl rfl ?_; rintro g w1 hH1
  refine WL_v rfl (ov_assign rfl) ?_
  refine WL_nil ?_
  refine WT_seq ?_
  refine WT_region ?_
  refine WL_v rfl (ov_field rfl fo_laws_Node_1) ?_
  refine WL_v rfl (ov_load rfl one_sl_int (hH1.cb 0 rfl 1)) ?_
  refine WL_v rfl (ov_move rfl) ?_
  refine WL_call rfl rfl cf_laws_szIntS (szIntS_ok hH1 hf hr) ?_; rintro _ w2 ⟨s, rfl, hs1, hs2, hH2⟩
  refine WL_v rfl (ov_assign rfl) ?_
  refine WL_nil ?_
  refine WT_seq ?_
  refine WT_seq ?_
  refine WT_region ?_
  refine WL_v rfl (ov_move rfl) ?_
  refine WL_v rfl (ov_lss rfl rfl) ?_
  refine WL_nil ?_
  refine WT_cond rfl (fun hne => ?_) (fun hne => ?_)
  · skip
    first | with_reducible replace hne := of_decide_eq_true hne | with_reducible replace hne := bn_T hne | with_reducible replace hne := bb_T hne | skip
    refine WT_seq ?_
    refine WT_region ?_
    refine WL_v rfl (ov_assign rfl) ?_
    refine WL_nil ?_
    exact WT_ret1 Try.func54 Try.results54 rfl ⟨_, rfl, by omega, .inl rfl, hH2.drop⟩
  first | with_reducible replace hne := of_decide_eq_false hne | with_reducible replace hne := bn_F hne | with_reducible replace hne := bb_F hne | skip
  refine WT_skip ?_
  refine WT_seq ?_
  refine WT_region ?_
  refine WL_v rfl (ov_field rfl fo_laws_Node_2) ?_
  refine WL_v rfl (ov_load rfl one_sl_int (hH2.cb 0 rfl 2)) ?_
  refine WL_v rfl (ov_move rfl) ?_
  refine WL_call rfl rfl cf_laws_szIntS (szIntS_ok hH2 hrw (show 0 ≤ s ∧ s ≤ 1048576 by omega)) ?_; rintro _ w3 ⟨s2, rfl, hs3, hs4, hH3⟩
  refine WL_v rfl (ov_assign rfl) ?_
  refine WL_nil ?_
  refine WT_seq ?_
  refine WT_seq ?_
  refine WT_region ?_
  refine WL_v rfl (ov_move rfl) ?_
  refine WL_v rfl (ov_lss rfl rfl) ?_
  refine WL_nil ?_
  refine WT_cond rfl (fun hne2 => ?_) (fun hne2 => ?_)
  · skip
    first | with_reducible replace hne2 := of_decide_eq_true hne2 | with_reducible replace hne2 := bn_T hne2 | with_reducible replace hne2 := bb_T hne2 | skip
    refine WT_seq ?_
    refine WT_region ?_
    refine WL_v rfl (ov_assign rfl) ?_
    refine WL_nil ?_
    exact WT_ret1 Try.func54 Try.results54 rfl ⟨_, rfl, by omega, .inl rfl, hH3.drop⟩
  first | with_reducible replace hne2 := of_decide_eq_false hne2 | with_reducible replace hne2 := bn_F hne2 | with_reducible replace hne2 := bb_F hne2 | skip
  refine WT_skip ?_
  refine WT_seq ?_
  refine WT_region ?_
  refine WL_v rfl (ov_move rfl) ?_
  refine WL_v rfl (ov_assign rfl) ?_
  refine WL_nil ?_
  exact WT_ret1 Try.func54 Try.results54 rfl ⟨_, rfl, by omega, .inr ⟨by omega, by omega, by omega⟩, hH3.drop⟩

/-- The value of a node of a plan. -/
theorem Plan.ndV' {pv : Value} {p : List Nd} (hP : Plan h pv p) {i : Nat} (hi : i < p.length) : ∃ f r, NdV h (.agg [.int .i64 p[i].kind, f, r].toArray) p[i] ∧ ∀ w Ls, H w h Ls → ∀ j u, [Value.int .i64 p[i].kind, f, r][j]? = some u → w.cell? (((slA pv).add (i * 3)).add j) = some u := by
  obtain ⟨f, r, h1, h2, h3⟩ := hP.node hi
  exact ⟨f, r, ⟨f, r, rfl, h1, h2⟩, h3⟩

theorem szNodeS_ok (hH : H w h Ls) {pv : Value} {p : List Nd} (hP : Plan h pv p) : Rets Try.prog 20 #[pv, .int .i64 1048576] w fun v w' => ∃ s : Int, v = .int .i64 s ∧ (s = -1 ∨ (0 ≤ s ∧ p.length ≤ 1048576 ∧ ∀ i (hi : i < p.length), p[i].frm.length ≤ 1048576 ∧ p[i].row.length ≤ 1048576)) ∧ H w' h Ls := by
  have hal := hP.sl.lim
  refine rets_enter Try.func20 rfl Try.ntmps20 (by simp) ?_
  refine WT_seq ?_
  refine WT_region ?_
  refine WL_v rfl (ov_assign rfl) ?_
  refine WL_nil ?_
  refine WT_seq ?_
  refine WT_region ?_
  refine WL_v rfl (ov_move rfl) ?_
  refine WL_v rfl (ov_move rfl) ?_
  refine WL_v rfl (ov_len rfl hP.sl st_sl_laws_Node) ?_
  refine WL_v rfl (ov_sub rfl rfl (by omega)) ?_
  refine WL_v rfl (ov_assign rfl) ?_
  refine WL_nil ?_
  refine WT_seq ?_
  refine WT_seq ?_
  refine WT_region ?_
  refine WL_v rfl (ov_move rfl) ?_
  refine WL_v rfl (ov_lss rfl rfl) ?_
  refine WL_nil ?_
  refine WT_cond rfl (fun hne => ?_) (fun hne => ?_)
  · skip
    first | with_reducible replace hne := of_decide_eq_true hne | with_reducible replace hne := bn_T hne | with_reducible replace hne := bb_T hne | skip
    refine WT_seq ?_
    refine WT_region ?_
    refine WL_v rfl (ov_assign rfl) ?_
    refine WL_nil ?_
    exact WT_ret1 Try.func20 Try.results20 rfl ⟨_, rfl, .inl rfl, hH⟩
  first | with_reducible replace hne := of_decide_eq_false hne | with_reducible replace hne := bn_F hne | with_reducible replace hne := bb_F hne | skip
  refine WT_skip ?_
  refine WT_seq ?_
  refine WT_seq ?_
  refine WT_region ?_
  refine WL_v rfl (ov_assign rfl) ?_
  refine WL_nil ?_
  refine WT_block ?_
  refine WT_while (fun s : Nat × Int => [(0, pv), (1, .int .i64 s.2), (5, .int .i64 (s.1 : Int))]) (fun s w => s.1 ≤ p.length ∧ 0 ≤ s.2 ∧ s.2 ≤ 1048576 ∧ (∀ i (_ : i < s.1) (hi : i < p.length), p[i].frm.length ≤ 1048576 ∧ p[i].row.length ≤ 1048576) ∧ H w h Ls) (fun s => p.length - s.1) (0, 1048576 - (p.length : Int)) (by repeat (first | exact trivial | refine ⟨rfl, ?_⟩)) ⟨by omega, by simp only; omega, by simp only; omega, by omega, hH⟩ ?_
  clear hH
  rintro ⟨k, r⟩ w2 ⟨hk, hr1, hr2, hall, hH⟩ again
  simp only at hk hr1 hr2 hall
  refine WT_seq ?_
  refine WT_seq ?_
  refine WT_region ?_
  refine WL_v rfl (ov_move rfl) ?_
  refine WL_v rfl (ov_move rfl) ?_
  refine WL_v rfl (ov_len rfl hP.sl st_sl_laws_Node) ?_
  refine WL_v rfl (ov_lss rfl rfl) ?_
  refine WL_nil ?_
  refine WT_cond rfl (fun hc => ?_) (fun hc => ?_)
  · skip
    first | with_reducible replace hc := of_decide_eq_true hc | with_reducible replace hc := bn_T hc | with_reducible replace hc := bb_T hc | skip
    simp only at hc
    have hkp : k < p.length := by omega
    obtain ⟨fv, rv, hx, hcell⟩ := hP.ndV' hkp
    refine WT_skip ?_
    refine WT_seq ?_
    refine WT_block ?_
    refine WT_seq ?_
    refine WT_region ?_
    refine WL_v rfl (ov_move rfl) ?_
    refine WL_v rfl (ov_move rfl) ?_
    refine WL_v rfl (ov_index rfl rfl st_sl_laws_Node hP.sl hkp) ?_
    refine WL_v rfl (ov_loadN [.int .i64 p[k].kind, fv, rv] rfl agg_laws_Node rfl ((hcell _ _ hH))) ?_
    refine WL_v rfl (ov_move rfl) ?_
    refine WL_call rfl rfl cf_laws_szNode (szNode_ok hH hx (show 0 ≤ r ∧ r ≤ 1048576 from ⟨hr1, hr2⟩)) ?_; rintro _ w3 ⟨s, rfl, hs1, hs2, hH3⟩
    refine WL_v rfl (ov_assign rfl) ?_
    refine WL_nil ?_
    refine WT_seq ?_
    refine WT_region ?_
    refine WL_v rfl (ov_move rfl) ?_
    refine WL_v rfl (ov_lss rfl rfl) ?_
    refine WL_nil ?_
    refine WT_cond rfl (fun hne2 => ?_) (fun hne2 => ?_)
    · skip
      first | with_reducible replace hne2 := of_decide_eq_true hne2 | with_reducible replace hne2 := bn_T hne2 | with_reducible replace hne2 := bb_T hne2 | skip
      refine WT_seq ?_
      refine WT_region ?_
      refine WL_v rfl (ov_assign rfl) ?_
      refine WL_nil ?_
      exact WT_ret1 Try.func20 Try.results20 rfl ⟨_, rfl, .inl rfl, hH3⟩
    first | with_reducible replace hne2 := of_decide_eq_false hne2 | with_reducible replace hne2 := bn_F hne2 | with_reducible replace hne2 := bb_F hne2 | skip
    refine WT_skip ?_
    refine WT_inBlock ?_
    refine WT_region ?_
    refine WL_v rfl (ov_move rfl) ?_
    refine WL_v rfl (ov_add rfl rfl (by omega)) ?_
    refine WL_v rfl (ov_assign rfl) ?_
    refine WL_nil ?_
    refine again (k + 1, s) _ _ (by simp only; omega) (by repeat (first | exact trivial | refine ⟨rfl, ?_⟩)) ⟨by simp only; omega, by simp only; omega, by simp only; omega, fun i hi hil => ?_, hH3⟩
    simp only at hi
    rcases Nat.lt_or_ge i k with h3 | h3
    · exact hall i h3 hil
    · obtain rfl : i = k := by omega
      omega
  first | with_reducible replace hc := of_decide_eq_false hc | with_reducible replace hc := bn_F hc | with_reducible replace hc := bb_F hc | skip
  simp only at hc
  obtain rfl : k = p.length := by omega
  refine WT_exit rfl ?_
  refine WT_seq ?_
  refine WT_region ?_
  refine WL_v rfl (ov_move rfl) ?_
  refine WL_v rfl (ov_assign rfl) ?_
  refine WL_nil ?_
  exact WT_ret1 Try.func20 Try.results20 rfl ⟨_, rfl, .inr ⟨hr1, by omega, fun i hi => hall i hi hi⟩, hH⟩

theorem eqNode_ok (hH : H w h Ls) {xv yv : Value} {x y : Nd} (hx : NdV h xv x) (hy : NdV h yv y) : Rets Try.prog 56 #[xv, yv] w fun v w' => v = .bool (decide (x = y)) ∧ H w' h Ls := by
  obtain ⟨fv, rv, rfl, hf, hr⟩ := hx
  obtain ⟨fv2, rv2, rfl, hf2, hr2⟩ := hy
  refine rets_enter Try.func56 rfl Try.ntmps56 (by simp) ?_
  refine WT_seq ?_
  refine WT_region ?_
  refine WL_box _ rfl hH rfl rfl ?_; rintro g w1 hH1
  refine WL_box _ rfl hH1 rfl rfl ?_; rintro g2 w2 hH2
  refine WL_v rfl (ov_assign rfl) ?_
  refine WL_nil ?_
  refine WT_seq ?_
  refine WT_seq ?_
  refine WT_region ?_
  refine WL_v rfl (ov_field rfl fo_impl_Node_0) ?_
  refine WL_v rfl (ov_load rfl one_int (hH2.cb 1 rfl 0)) ?_
  refine WL_v rfl (ov_field rfl fo_impl_Node_0) ?_
  refine WL_v rfl (ov_load rfl one_int (hH2.cb 0 rfl 0)) ?_
  refine WL_v rfl (ov_neq rfl rfl) ?_
  refine WL_nil ?_
  refine WT_cond rfl (fun hne => ?_) (fun hne => ?_)
  · skip
    first | with_reducible replace hne := of_decide_eq_true hne | with_reducible replace hne := bn_T hne | with_reducible replace hne := bb_T hne | skip
    refine WT_seq ?_
    refine WT_region ?_
    refine WL_v rfl (ov_assign rfl) ?_
    refine WL_nil ?_
    exact WT_ret1 Try.func56 Try.results56 rfl ⟨congrArg Value.bool (decide_eq_false fun h => by subst h; exact hne rfl).symm, hH2.drop.drop⟩
  first | with_reducible replace hne := of_decide_eq_false hne | with_reducible replace hne := bn_F hne | with_reducible replace hne := bb_F hne | skip
  refine WT_skip ?_
  refine WT_seq ?_
  refine WT_seq ?_
  refine WT_region ?_
  refine WL_v rfl (ov_field rfl fo_impl_Node_1) ?_
  refine WL_v rfl (ov_load rfl one_sl_int (hH2.cb 1 rfl 1)) ?_
  refine WL_v rfl (ov_field rfl fo_impl_Node_1) ?_
  refine WL_v rfl (ov_load rfl one_sl_int (hH2.cb 0 rfl 1)) ?_
  refine WL_call rfl rfl cf_laws_eqIntS (eqIntS_ok hH2 (hf.rdl _) (hf2.rdl _)) ?_; rintro _ w3 ⟨rfl, hH3⟩
  refine WL_v rfl (ov_not rfl) ?_
  refine WL_nil ?_
  refine WT_cond rfl (fun hne2 => ?_) (fun hne2 => ?_)
  · skip
    first | with_reducible replace hne2 := of_decide_eq_true hne2 | with_reducible replace hne2 := bn_T hne2 | with_reducible replace hne2 := bb_T hne2 | skip
    refine WT_seq ?_
    refine WT_region ?_
    refine WL_v rfl (ov_assign rfl) ?_
    refine WL_nil ?_
    exact WT_ret1 Try.func56 Try.results56 rfl ⟨congrArg Value.bool (decide_eq_false fun h => by subst h; simp at hne2).symm, hH3.drop.drop⟩
  first | with_reducible replace hne2 := of_decide_eq_false hne2 | with_reducible replace hne2 := bn_F hne2 | with_reducible replace hne2 := bb_F hne2 | skip
  refine WT_skip ?_
  refine WT_seq ?_
  refine WT_seq ?_
  refine WT_region ?_
  refine WL_v rfl (ov_field rfl fo_impl_Node_2) ?_
  refine WL_v rfl (ov_load rfl one_sl_int (hH3.cb 1 rfl 2)) ?_
  refine WL_v rfl (ov_field rfl fo_impl_Node_2) ?_
  refine WL_v rfl (ov_load rfl one_sl_int (hH3.cb 0 rfl 2)) ?_
  refine WL_call rfl rfl cf_laws_eqIntS (eqIntS_ok hH3 (hr.rdl _) (hr2.rdl _)) ?_; rintro _ w4 ⟨rfl, hH4⟩
  refine WL_v rfl (ov_not rfl) ?_
  refine WL_nil ?_
  refine WT_cond rfl (fun hne3 => ?_) (fun hne3 => ?_)
  · skip
    first | with_reducible replace hne3 := of_decide_eq_true hne3 | with_reducible replace hne3 := bn_T hne3 | with_reducible replace hne3 := bb_T hne3 | skip
    refine WT_seq ?_
    refine WT_region ?_
    refine WL_v rfl (ov_assign rfl) ?_
    refine WL_nil ?_
    exact WT_ret1 Try.func56 Try.results56 rfl ⟨congrArg Value.bool (decide_eq_false fun h => by subst h; simp at hne3).symm, hH4.drop.drop⟩
  first | with_reducible replace hne3 := of_decide_eq_false hne3 | with_reducible replace hne3 := bn_F hne3 | with_reducible replace hne3 := bb_F hne3 | skip
  refine WT_skip ?_
  refine WT_seq ?_
  refine WT_region ?_
  refine WL_v rfl (ov_assign rfl) ?_
  refine WL_nil ?_

  exact WT_ret1 Try.func56 Try.results56 rfl ⟨congrArg Value.bool (decide_eq_true (by cases x; cases y; simp_all)).symm, hH4.drop.drop⟩

theorem eqNodeS_ok (hH : H w h Ls) {av bv : Value} {p q : List Nd} (hA : Plan h av p) (hB : Plan h bv q) : Rets Try.prog 22 #[av, bv] w fun v w' => v = .bool (decide (p = q)) ∧ H w' h Ls := by
  have hal := hA.sl.lim
  refine rets_enter Try.func22 rfl Try.ntmps22 (by simp) ?_
  refine WT_seq ?_
  refine WT_region ?_
  refine WL_v rfl (ov_assign rfl) ?_
  refine WL_nil ?_
  refine WT_seq ?_
  refine WT_seq ?_
  refine WT_region ?_
  refine WL_v rfl (ov_move rfl) ?_
  refine WL_v rfl (ov_len rfl hA.sl st_sl_impl_Node) ?_
  refine WL_v rfl (ov_move rfl) ?_
  refine WL_v rfl (ov_len rfl hB.sl st_sl_impl_Node) ?_
  refine WL_v rfl (ov_neq rfl rfl) ?_
  refine WL_nil ?_
  refine WT_cond rfl (fun hne => ?_) (fun hne => ?_)
  · skip
    first | with_reducible replace hne := of_decide_eq_true hne | with_reducible replace hne := bn_T hne | with_reducible replace hne := bb_T hne | skip
    refine WT_seq ?_
    refine WT_region ?_
    refine WL_v rfl (ov_assign rfl) ?_
    refine WL_nil ?_
    exact WT_ret1 Try.func22 Try.results22 rfl ⟨congrArg Value.bool (decide_eq_false fun h => by subst h; exact hne rfl).symm, hH⟩
  first | with_reducible replace hne := of_decide_eq_false hne | with_reducible replace hne := bn_F hne | with_reducible replace hne := bb_F hne | skip
  have hlen : p.length = q.length := by omega
  refine WT_skip ?_
  refine WT_seq ?_
  refine WT_seq ?_
  refine WT_region ?_
  refine WL_v rfl (ov_assign rfl) ?_
  refine WL_nil ?_
  refine WT_block ?_
  refine WT_while (fun s : Nat => [(0, av), (1, bv), (5, .int .i64 (s : Int))]) (fun k w => k ≤ p.length ∧ (∀ j (_ : j < k) (h1 : j < p.length) (h2 : j < q.length), p[j] = q[j]) ∧ H w h Ls) (fun k => p.length - k) 0 (by repeat (first | exact trivial | refine ⟨rfl, ?_⟩)) ⟨by omega, by omega, hH⟩ ?_
  clear hH
  rintro k w2 ⟨hk, hall, hH1⟩ again
  refine WT_seq ?_
  refine WT_seq ?_
  refine WT_region ?_
  refine WL_v rfl (ov_move rfl) ?_
  refine WL_v rfl (ov_move rfl) ?_
  refine WL_v rfl (ov_len rfl hA.sl st_sl_impl_Node) ?_
  refine WL_v rfl (ov_lss rfl rfl) ?_
  refine WL_nil ?_
  refine WT_cond rfl (fun hc => ?_) (fun hc => ?_)
  · skip
    first | with_reducible replace hc := of_decide_eq_true hc | with_reducible replace hc := bn_T hc | with_reducible replace hc := bb_T hc | skip
    have hkx : k < p.length := by omega
    have hky : k < q.length := by omega
    obtain ⟨fv, rv, hx, hcell⟩ := hA.ndV' hkx
    obtain ⟨fv2, rv2, hy, hcell2⟩ := hB.ndV' hky
    refine WT_skip ?_
    refine WT_seq ?_
    refine WT_block ?_
    refine WT_seq ?_
    refine WT_quiet mixed (by kernel_rfl) hH1 ?_
    clear hH1
    refine WQ_v rfl (fun _ _ => ov_move rfl) ?_
    refine WQ_v rfl (fun _ _ => ov_move rfl) ?_
    refine WQ_v rfl (fun _ _ => ov_index rfl rfl st_sl_impl_Node hA.sl hkx) ?_
    refine WQ_v rfl (fun _ hH => ov_loadN [.int .i64 p[k].kind, fv, rv] rfl agg_impl_Node rfl ((hcell _ _ hH))) ?_
    refine WQ_v rfl (fun _ _ => ov_move rfl) ?_
    refine WQ_v rfl (fun _ _ => ov_move rfl) ?_
    refine WQ_v rfl (fun _ _ => ov_index rfl rfl st_sl_impl_Node hB.sl hky) ?_
    refine WQ_v rfl (fun _ hH => ov_loadN [.int .i64 q[k].kind, fv2, rv2] rfl agg_impl_Node rfl ((hcell2 _ _ hH))) ?_
    refine WQ_call rfl rfl cf_laws_eqNode (fun _ hH => eqNode_ok hH hx hy) ?_
    refine WQ_v rfl (fun _ _ => ov_not rfl) ?_
    refine WQ_nil ?_
    intro w3 hH1
    refine WT_cond rfl (fun hne => ?_) (fun hne => ?_)
    · skip
      first | with_reducible replace hne := of_decide_eq_true hne | with_reducible replace hne := bn_T hne | with_reducible replace hne := bb_T hne | skip
      refine WT_seq ?_
      refine WT_region ?_
      refine WL_v rfl (ov_assign rfl) ?_
      refine WL_nil ?_
      exact WT_ret1 Try.func22 Try.results22 rfl ⟨congrArg Value.bool (decide_eq_false fun h => by subst h; simp at hne).symm, hH1⟩
    first | with_reducible replace hne := of_decide_eq_false hne | with_reducible replace hne := bn_F hne | with_reducible replace hne := bb_F hne | skip
    refine WT_skip ?_
    refine WT_inBlock ?_
    refine WT_region ?_
    refine WL_v rfl (ov_move rfl) ?_
    refine WL_v rfl (ov_add rfl rfl (by omega)) ?_
    refine WL_v rfl (ov_assign rfl) ?_
    refine WL_nil ?_
    refine again (k + 1) _ _ (by omega) (by repeat (first | exact trivial | refine ⟨rfl, ?_⟩)) ⟨by omega, fun j hj h1 h2 => ?_, hH1⟩
    rcases Nat.lt_or_ge j k with h3 | h3
    · exact hall j h3 h1 h2
    · obtain rfl : j = k := by omega
      simpa using hne
  first | with_reducible replace hc := of_decide_eq_false hc | with_reducible replace hc := bn_F hc | with_reducible replace hc := bb_F hc | skip
  obtain rfl : k = p.length := by omega
  refine WT_exit rfl ?_
  refine WT_seq ?_
  refine WT_region ?_
  refine WL_v rfl (ov_assign rfl) ?_
  refine WL_nil ?_
  exact WT_ret1 Try.func22 Try.results22 rfl ⟨congrArg Value.bool (decide_eq_true (List.ext_getElem hlen fun j h1 h2 => hall j h1 h1 h2)).symm, hH1⟩
end
end Go.Proofs.Ytafljegjdanldaa

/- Walks: who needs a node, and whom nobody needs; the laws' helpers on rows. -/
namespace Go.Proofs.Ytafljegjdanldaa
open Go.RowKit

/-- Numbers of nodes as numbers of the program. -/
def toI (l : List Nat) : List Int := l.map fun (j : Nat) => (j : Int)
theorem toI_len (l : List Nat) : (toI l).length = l.length := by simp [toI]
theorem toI_snoc (l : List Nat) (a : Nat) : toI (l ++ [a]) = toI l ++ [(a : Int)] := by simp [toI]
theorem mem_toI {l : List Nat} {a : Int} : a ∈ toI l ↔ 0 ≤ a ∧ a.toNat ∈ l := by
  simp only [toI, List.mem_map]
  constructor
  · rintro ⟨j, hj, rfl⟩; exact ⟨by omega, by simpa using hj⟩
  · rintro ⟨h1, h2⟩; exact ⟨_, h2, by omega⟩
theorem mem_toI_nat {l : List Nat} {a : Nat} : (a : Int) ∈ toI l ↔ a ∈ l := by rw [mem_toI]; simp
/-- The users of a node. -/
def usesOf (p : List Nd) (a : Int) : List Int := if planOk p = true ∧ 0 ≤ a ∧ a < (p.length : Int) then toI (usersTo p p.length a.toNat) else []
/-- The ends of a plan. -/
def endsL (p : List Nd) : List Nat := (List.range p.length).filter fun i => decide (usersTo p p.length i = [])
def endsOf (p : List Nd) : List Int := if planOk p = true then toI (endsL p) else []

theorem usersTo_lt {p : List Nd} {k i j : Nat} (h : j ∈ usersTo p k i) : j < k := (mem_usersTo.1 h).1

section
variable {h : GH} {Ls : List Heaplet} {w : World}

theorem Rd.ptrs {v : Value} {g : Nat → Nat} {l : List Nat} (hR : Rd h v (l.map fun j => ptr (g j))) (hH : H w h Ls) {k : Nat} (hk : k < l.length) : w.cell? ((slA v).add (k * 1)) = some (ptr (g l[k])) := by
  rw [Nat.mul_one]
  exact hR.cell hH (by simp [hk])
/-- A node of a shared graph. -/
theorem GraphRd.box {gv : Value} {g : Nat → Nat} {p : List Nd} (hG : GraphRd h gv g p) {i : Nat} (hi : i < p.length) : ∃ nv uv, (∀ {w Ls}, H w h Ls → ∀ (o : Nat) {u}, [Value.int .i64 (i : Int), nv, uv][o]? = some u → w.cell? ⟨g i, o, none⟩ = some u) ∧
    Sl nv (needTo (p.getD i default).frm).length ∧ Rd h nv ((needTo (p.getD i default).frm).map fun j => ptr (g j)) ∧
    Sl uv (usersTo p p.length i).length ∧ Rd h uv ((usersTo p p.length i).map fun j => ptr (g j)) := by
  obtain ⟨nv, uv, ⟨e, fz, hb⟩, h2, h3, h4, h5⟩ := hG.node i hi
  refine ⟨nv, uv, fun hH o u ho => ?_, h2, h3, h4, h5⟩
  rw [cell_of_heap (hH.rd _ _ hb)]
  simpa using ho
theorem GraphRd.num {gv : Value} {g : Nat → Nat} {p : List Nd} (hG : GraphRd h gv g p) (hH : H w h Ls) {i : Nat} (hi : i < p.length) : w.cell? ⟨g i, 0, none⟩ = some (.int .i64 (i : Int)) := by
  obtain ⟨_, _, h1, _⟩ := hG.box hi
  exact h1 hH 0 rfl
theorem GraphRd.elem {gv : Value} {g : Nat → Nat} {p : List Nd} (hG : GraphRd h gv g p) (hH : H w h Ls) {i : Nat} (hi : i < p.length) : w.cell? ((slA gv).add (i * 1)) = some (ptr (g i)) := by
  have := hG.rd.ptrs hH (k := i) (by simpa using hi)
  simpa using this

theorem isNode_ok (hH : H w h Ls) {pv : Value} {n : Nat} (hP : Sl pv n) (a : Int) : Rets Try.prog 69 #[pv, .int .i64 a] w fun v w' => v = .bool (decide (0 ≤ a ∧ a < (n : Int))) ∧ H w' h Ls := by
  refine rets_enter Try.func69 rfl Try.ntmps69 (by simp) ?_
  by_cases h0 : 0 ≤ a
  · skip
    refine WT_seq ?_
    refine WT_region ?_
    refine WL_v rfl (ov_assign rfl) ?_
    refine WL_nil ?_
    refine WT_seq ?_
    refine WT_region ?_
    refine WL_v rfl (ov_move rfl) ?_
    refine WL_v rfl (ov_T (ov_geq rfl rfl) (by first | exact decide_eq_true h0 | exact nb_T h0 | exact mb_T h0 | exact h0 | (simp only [decide_eq_true_eq]; omega) | simpa using h0)) ?_
    refine WL_v rfl (ov_move rfl) ?_
    refine WL_guardOn rfl rfl ?_
    refine WL_v rfl (ov_move rfl) ?_
    refine WL_guardOn rfl rfl ?_
    refine WL_v rfl (ov_move rfl) ?_
    refine WL_guardOn rfl rfl ?_
    refine WL_v rfl (ov_len rfl hP st_sl_impl_Node) ?_
    refine WL_guardOn rfl rfl ?_
    refine WL_v rfl (ov_lss rfl rfl) ?_
    refine WL_v rfl (ov_pickT rfl rfl) ?_
    refine WL_v rfl (ov_assign rfl) ?_
    refine WL_nil ?_
    exact WT_ret1 Try.func69 Try.results69 rfl ⟨by simp [h0], hH⟩
  refine WT_seq ?_
  refine WT_region ?_
  refine WL_v rfl (ov_assign rfl) ?_
  refine WL_nil ?_
  refine WT_seq ?_
  refine WT_region ?_
  refine WL_v rfl (ov_move rfl) ?_
  refine WL_v rfl (ov_F (ov_geq rfl rfl) (by first | exact decide_eq_false h0 | exact nb_F h0 | exact mb_F h0 | exact h0 | (simp only [decide_eq_false_iff_not]; omega) | simpa using h0)) ?_
  refine WL_v rfl (ov_move rfl) ?_
  refine WL_guardOff rfl rfl rfl rfl ?_
  refine WL_guardOff rfl rfl rfl rfl ?_
  refine WL_guardOff rfl rfl rfl rfl ?_
  refine WL_guardOff rfl rfl rfl rfl ?_
  refine WL_v rfl (ov_pickF rfl rfl) ?_
  refine WL_v rfl (ov_assign rfl) ?_
  refine WL_nil ?_
  exact WT_ret1 Try.func69 Try.results69 rfl ⟨by simp [h0], hH⟩

theorem graphOf_no (hH : H w h Ls) {pv : Value} {p : List Nd} (hP : Plan h pv p) (hv : planOk p = false) : Rets Try.prog 68 #[pv] w fun v w' => v = .tuple #[.slice none 0 0, .bool false] ∧ H w' h Ls :=
  (graphOf_ok hH hP).mono fun v w' hh => by
    rcases hh with ⟨_, h1, h2⟩ | ⟨h1, _⟩
    · exact ⟨h1, h2⟩
    · rw [hv] at h1; cases h1
theorem graphOf_yes (hH : H w h Ls) {pv : Value} {p : List Nd} (hP : Plan h pv p) (hv : planOk p = true) : Rets Try.prog 68 #[pv] w fun v w' => ∃ gv g h', v = .tuple #[gv, .bool true] ∧ h.Le h' ∧ H w' h' Ls ∧ GraphRd h' gv g p :=
  (graphOf_ok hH hP).mono fun v w' hh => by
    rcases hh with ⟨h1, _⟩ | ⟨_, h2⟩
    · rw [hv] at h1; cases h1
    · exact h2

theorem planUses_ok (hH : H w h Ls) {pv : Value} {p : List Nd} (hP : Plan h pv p) (a : Int) : Rets Try.prog 33 #[pv, .int .i64 a] w fun v w' => ∃ X, IRow X 3 v (usesOf p a) ∧ H w' h (X :: Ls) := by
  refine rets_enter Try.func33 rfl Try.ntmps33 (by simp) ?_
  by_cases hv : planOk p = true
  case neg =>
    rw [Bool.not_eq_true] at hv
    refine WT_seq ?_
    refine WT_region ?_
    refine WL_v rfl (ov_assign rfl) ?_
    refine WL_nil ?_
    refine WT_seq ?_
    refine WT_region ?_
    refine WL_v rfl (ov_move rfl) ?_
    refine WL_call rfl rfl cf_impl_graphOf (graphOf_no hH hP hv) ?_; rintro _ w1 ⟨rfl, hH1⟩
    refine WL_v rfl (ov_move rfl) ?_
    refine WL_v rfl (ov_extract rfl rfl) ?_
    refine WL_v rfl (ov_extract rfl rfl) ?_
    refine WL_v rfl (ov_assign rfl) ?_
    refine WL_v rfl (ov_assign rfl) ?_
    refine WL_nil ?_
    refine WT_seq ?_
    refine WT_seq ?_
    refine WT_region ?_
    refine WL_v rfl (ov_move rfl) ?_
    refine WL_v rfl (ov_T (ov_not rfl) (by first | exact decide_eq_true rfl | exact nb_T rfl | exact mb_T rfl | exact rfl | (simp only [decide_eq_true_eq]; omega) | simpa using rfl)) ?_
    refine WL_v rfl (ov_move rfl) ?_
    refine WL_guardOff rfl rfl rfl rfl ?_
    refine WL_guardOff rfl rfl rfl rfl ?_
    refine WL_guardOff rfl rfl rfl rfl ?_
    refine WL_guardOff rfl rfl rfl rfl ?_
    refine WL_v rfl (ov_pickT rfl rfl) ?_
    refine WL_nil ?_
    refine WT_condT rfl ?_
    refine WT_seq ?_
    refine WT_region ?_
    refine WL_v rfl (ov_assign rfl) ?_
    refine WL_nil ?_
    exact WT_ret1 Try.func33 Try.results33 rfl ⟨[], by unfold usesOf; rw [if_neg (by simp [hv])]; exact IRow.nil _, hH1.nilIn⟩
  have hlen := PlanOk.len hv
  refine WT_seq ?_
  refine WT_region ?_
  refine WL_v rfl (ov_assign rfl) ?_
  refine WL_nil ?_
  refine WT_seq ?_
  refine WT_region ?_
  refine WL_v rfl (ov_move rfl) ?_
  refine WL_call rfl rfl cf_impl_graphOf (graphOf_yes hH hP hv) ?_; rintro _ w1 ⟨gv, g, h', rfl, hle, hH1, hG⟩
  refine WL_v rfl (ov_move rfl) ?_
  refine WL_v rfl (ov_extract rfl rfl) ?_
  refine WL_v rfl (ov_extract rfl rfl) ?_
  refine WL_v rfl (ov_assign rfl) ?_
  refine WL_v rfl (ov_assign rfl) ?_
  refine WL_nil ?_
  refine WT_seq ?_
  refine WT_seq ?_
  refine WT_region ?_
  refine WL_v rfl (ov_move rfl) ?_
  refine WL_v rfl (ov_F (ov_not rfl) (by first | exact decide_eq_false rfl | exact nb_F rfl | exact mb_F rfl | exact rfl | (simp only [decide_eq_false_iff_not]; omega) | simpa using rfl)) ?_
  refine WL_v rfl (ov_move rfl) ?_
  refine WL_guardOn rfl rfl ?_
  refine WL_v rfl (ov_move rfl) ?_
  refine WL_guardOn rfl rfl ?_
  refine WL_v rfl (ov_move rfl) ?_
  refine WL_guardOn rfl rfl ?_
  refine WL_call rfl rfl cf_impl_isNode (isNode_ok hH1 hP.sl a) ?_; rintro _ w2 ⟨rfl, hH2⟩
  refine WL_guardOn rfl rfl ?_
  refine WL_v rfl (ov_not rfl) ?_
  refine WL_v rfl (ov_pickF rfl rfl) ?_
  refine WL_nil ?_
  refine WT_cond rfl (fun hn => ?_) (fun hn => ?_)
  · skip
    first | with_reducible replace hn := of_decide_eq_true hn | with_reducible replace hn := bn_T hn | with_reducible replace hn := bb_T hn | skip
    refine WT_seq ?_
    refine WT_region ?_
    refine WL_v rfl (ov_assign rfl) ?_
    refine WL_nil ?_
    exact WT_ret1 Try.func33 Try.results33 rfl ⟨[], by unfold usesOf; rw [if_neg (fun hh => hn hh.2)]; exact IRow.nil _, (hH2.weak hle).nilIn⟩
  first | with_reducible replace hn := of_decide_eq_false hn | with_reducible replace hn := bn_F hn | with_reducible replace hn := bb_F hn | skip
  obtain ⟨i, hi⟩ := Int.eq_ofNat_of_zero_le hn.1
  subst hi
  have hin : i < p.length := by omega
  obtain ⟨nv, uv, hbox, hns, hnr, hus, hur⟩ := hG.box hin
  have hul := usersTo_len p p.length i
  refine WT_skip ?_
  refine WT_seq ?_
  refine WT_region ?_
  refine WL_v rfl (ov_assign rfl) ?_
  refine WL_nil ?_
  refine WT_seq ?_
  refine WT_seq ?_
  refine WT_region ?_
  refine WL_v rfl (ov_move rfl) ?_
  refine WL_v rfl (ov_move rfl) ?_
  refine WL_v rfl (ov_index rfl rfl st_sl_p_impl_planNode hG.sl hin) ?_
  refine WL_v rfl (ov_load rfl one_p_impl_planNode (hG.elem hH2 hin)) ?_
  refine WL_v rfl (ov_nilCheck rfl) ?_
  refine WL_v rfl (ov_field rfl fo_impl_planNode_2) ?_
  refine WL_v rfl (ov_load rfl one_sl_p_impl_planNode (hbox hH2 2 rfl)) ?_
  refine WL_v rfl (ov_len rfl hus st_sl_p_impl_planNode) ?_
  refine WL_v rfl (ov_move rfl) ?_
  refine WL_nil ?_
  refine WT_block ?_
  refine WT_while (fun s : Nat × Value => [(7, s.2), (29, uv), (30, .int .i64 ((usersTo p p.length i).length : Int)), (31, .int .i64 (s.1 : Int))]) (fun s w => s.1 ≤ (usersTo p p.length i).length ∧ ∃ X, IRow X 3 s.2 (toI ((usersTo p p.length i).take s.1)) ∧ H w h' (X :: Ls)) (fun s => (usersTo p p.length i).length - s.1) (0, .slice none 0 0) (by repeat (first | exact trivial | refine ⟨rfl, ?_⟩)) ⟨by omega, [], IRow.nil _, hH2.nilIn⟩ ?_
  clear hH hH1 hH2
  rintro ⟨k, sv⟩ w3 ⟨hk, X, hX, hH⟩ again
  simp only at hk hX
  refine WT_seq ?_
  refine WT_region ?_
  refine WL_v rfl (ov_lss rfl rfl) ?_
  refine WL_nil ?_
  refine WT_seq ?_
  refine WT_cond rfl (fun hc => ?_) (fun hc => ?_)
  · skip
    first | with_reducible replace hc := of_decide_eq_true hc | with_reducible replace hc := bn_T hc | with_reducible replace hc := bb_T hc | skip
    simp only at hc
    have hku : k < (usersTo p p.length i).length := by omega
    have hul2 : (usersTo p p.length i)[k] < p.length := usersTo_lt (List.getElem_mem hku)
    refine WT_skip ?_
    refine WT_seq ?_
    refine WT_block ?_
    refine WT_seq ?_
    refine WT_region ?_
    refine WL_v rfl (ov_index rfl rfl st_sl_p_impl_planNode hus hku) ?_
    refine WL_v rfl (ov_load rfl one_p_impl_planNode (hur.ptrs hH hku)) ?_
    refine WL_v rfl (ov_assign rfl) ?_
    refine WL_nil ?_
    refine WT_region ?_
    refine WL_v rfl (ov_move rfl) ?_
    refine WL_v rfl (ov_move rfl) ?_
    refine WL_v rfl (ov_nilCheck rfl) ?_
    refine WL_v rfl (ov_field rfl fo_impl_planNode_0) ?_
    refine WL_v rfl (ov_load rfl one_int (hG.num hH hul2)) ?_
    refine WL_bsI rfl hH rfl (run_bs_int _) ?_; rintro Y yv w4 hY hH4
    refine WL_appI (i := 1) (j := 0) rfl hH4 rfl rfl st_sl_int rfl hX rfl hY (by simp [toI_len]; omega) (by simp [toI_len]; omega) ?_; rintro X2 sv2 w5 hX2 hH5
    refine WL_v rfl (ov_assign rfl) ?_
    refine WL_nil ?_
    refine WT_inBlock ?_
    refine WT_region ?_
    refine WL_v rfl (ov_add rfl rfl (by omega)) ?_
    refine WL_v rfl (ov_move rfl) ?_
    refine WL_nil ?_
    refine again (k + 1, sv2) _ _ (by simp only; omega) (by repeat (first | exact trivial | refine ⟨rfl, ?_⟩)) ⟨by simp only; omega, X2, by rw [List.take_succ_eq_append_getElem hku, toI_snoc]; exact hX2, hH5.drop⟩
  first | with_reducible replace hc := of_decide_eq_false hc | with_reducible replace hc := bn_F hc | with_reducible replace hc := bb_F hc | skip
  simp only at hc
  obtain rfl : k = (usersTo p p.length i).length := by omega
  rw [List.take_length] at hX
  refine WT_exit rfl ?_
  refine WT_seq ?_
  refine WT_region ?_
  refine WL_v rfl (ov_move rfl) ?_
  refine WL_v rfl (ov_assign rfl) ?_
  refine WL_nil ?_
  exact WT_ret1 Try.func33 Try.results33 rfl ⟨X, by unfold usesOf; rw [if_pos ⟨hv, hn.1, hn.2⟩]; simpa using hX, hH.weak hle⟩

theorem sameRow_ok (hH : H w h Ls) {av bv : Value} {xs ys : List Int} (hA : RdL h Ls av xs) (hB : RdL h Ls bv ys) : Rets Try.prog 15 #[av, bv] w fun v w' => v = .bool (decide (xs = ys)) ∧ H w' h Ls := by
  have hal := hA.sl.lim
  refine rets_enter Try.func15 rfl Try.ntmps15 (by simp) ?_
  refine WT_seq ?_
  refine WT_region ?_
  refine WL_v rfl (ov_assign rfl) ?_
  refine WL_nil ?_
  refine WT_seq ?_
  refine WT_seq ?_
  refine WT_region ?_
  refine WL_v rfl (ov_move rfl) ?_
  refine WL_v rfl (ov_len rfl hA.sl st_sl_int) ?_
  refine WL_v rfl (ov_move rfl) ?_
  refine WL_v rfl (ov_len rfl hB.sl st_sl_int) ?_
  refine WL_v rfl (ov_neq rfl rfl) ?_
  refine WL_nil ?_
  refine WT_cond rfl (fun hne => ?_) (fun hne => ?_)
  · skip
    first | with_reducible replace hne := of_decide_eq_true hne | with_reducible replace hne := bn_T hne | with_reducible replace hne := bb_T hne | skip
    refine WT_seq ?_
    refine WT_region ?_
    refine WL_v rfl (ov_assign rfl) ?_
    refine WL_nil ?_
    exact WT_ret1 Try.func15 Try.results15 rfl ⟨congrArg Value.bool (decide_eq_false fun h => by subst h; exact hne rfl).symm, hH⟩
  first | with_reducible replace hne := of_decide_eq_false hne | with_reducible replace hne := bn_F hne | with_reducible replace hne := bb_F hne | skip
  have hlen : xs.length = ys.length := by omega
  refine WT_skip ?_
  refine WT_seq ?_
  refine WT_seq ?_
  refine WT_region ?_
  refine WL_v rfl (ov_assign rfl) ?_
  refine WL_nil ?_
  refine WT_block ?_
  refine WT_while (fun s : Nat => [(0, av), (1, bv), (5, .int .i64 (s : Int))]) (fun k w => k ≤ xs.length ∧ (∀ j (_ : j < k) (h1 : j < xs.length) (h2 : j < ys.length), xs[j] = ys[j]) ∧ H w h Ls) (fun k => xs.length - k) 0 (by repeat (first | exact trivial | refine ⟨rfl, ?_⟩)) ⟨by omega, by omega, hH⟩ ?_
  clear hH
  rintro k w2 ⟨hk, hall, hH1⟩ again
  refine WT_seq ?_
  refine WT_seq ?_
  refine WT_region ?_
  refine WL_v rfl (ov_move rfl) ?_
  refine WL_v rfl (ov_move rfl) ?_
  refine WL_v rfl (ov_len rfl hA.sl st_sl_int) ?_
  refine WL_v rfl (ov_lss rfl rfl) ?_
  refine WL_nil ?_
  refine WT_cond rfl (fun hc => ?_) (fun hc => ?_)
  · skip
    first | with_reducible replace hc := of_decide_eq_true hc | with_reducible replace hc := bn_T hc | with_reducible replace hc := bb_T hc | skip
    have hkx : k < xs.length := by omega
    have hky : k < ys.length := by omega
    refine WT_skip ?_
    refine WT_seq ?_
    refine WT_block ?_
    refine WT_seq ?_
    refine WT_quiet mixed (by kernel_rfl) hH1 ?_
    clear hH1
    refine WQ_v rfl (fun _ _ => ov_move rfl) ?_
    refine WQ_v rfl (fun _ _ => ov_move rfl) ?_
    refine WQ_v rfl (fun _ _ => ov_index rfl rfl st_sl_int hA.sl hkx) ?_
    refine WQ_v rfl (fun _ hH => ov_load rfl one_int (hA.cell hH hkx)) ?_
    refine WQ_v rfl (fun _ _ => ov_move rfl) ?_
    refine WQ_v rfl (fun _ _ => ov_move rfl) ?_
    refine WQ_v rfl (fun _ _ => ov_index rfl rfl st_sl_int hB.sl hky) ?_
    refine WQ_v rfl (fun _ hH => ov_load rfl one_int (hB.cell hH hky)) ?_
    refine WQ_v rfl (fun _ _ => ov_neq rfl rfl) ?_
    refine WQ_nil ?_
    intro w3 hH1
    refine WT_cond rfl (fun hne => ?_) (fun hne => ?_)
    · skip
      first | with_reducible replace hne := of_decide_eq_true hne | with_reducible replace hne := bn_T hne | with_reducible replace hne := bb_T hne | skip
      refine WT_seq ?_
      refine WT_region ?_
      refine WL_v rfl (ov_assign rfl) ?_
      refine WL_nil ?_
      exact WT_ret1 Try.func15 Try.results15 rfl ⟨congrArg Value.bool (decide_eq_false fun h => by subst h; exact hne rfl).symm, hH1⟩
    first | with_reducible replace hne := of_decide_eq_false hne | with_reducible replace hne := bn_F hne | with_reducible replace hne := bb_F hne | skip
    refine WT_skip ?_
    refine WT_inBlock ?_
    refine WT_region ?_
    refine WL_v rfl (ov_move rfl) ?_
    refine WL_v rfl (ov_add rfl rfl (by omega)) ?_
    refine WL_v rfl (ov_assign rfl) ?_
    refine WL_nil ?_
    refine again (k + 1) _ _ (by omega) (by repeat (first | exact trivial | refine ⟨rfl, ?_⟩)) ⟨by omega, fun j hj h1 h2 => ?_, hH1⟩
    rcases Nat.lt_or_ge j k with h3 | h3
    · exact hall j h3 h1 h2
    · obtain rfl : j = k := by omega
      simpa using hne
  first | with_reducible replace hc := of_decide_eq_false hc | with_reducible replace hc := bn_F hc | with_reducible replace hc := bb_F hc | skip
  obtain rfl : k = xs.length := by omega
  refine WT_exit rfl ?_
  refine WT_seq ?_
  refine WT_region ?_
  refine WL_v rfl (ov_assign rfl) ?_
  refine WL_nil ?_
  exact WT_ret1 Try.func15 Try.results15 rfl ⟨congrArg Value.bool (decide_eq_true (List.ext_getElem hlen fun j h1 h2 => hall j h1 h1 h2)).symm, hH1⟩

end
end Go.Proofs.Ytafljegjdanldaa

/- Walks: how many different nodes each node needs: the program's table. -/
namespace Go.Proofs.Ytafljegjdanldaa
open Go.RowKit

section
variable {h : GH} {Ls : List Heaplet} {w : World}

theorem copyInts_ok (hH : H w h Ls) {av : Value} {xs : List Int} (hA : RdL h Ls av xs) (hl : xs.length ≤ 1000000000) : Rets Try.prog 44 #[av] w fun v w' => ∃ X, IRow X 3 v xs ∧ H w' h (X :: Ls) := by
  refine rets_enter Try.func44 rfl Try.ntmps44 (by simp) ?_
  refine WT_seq ?_
  refine WT_region ?_
  refine WL_v rfl (ov_assign rfl) ?_
  refine WL_nil ?_
  refine WT_seq ?_
  refine WT_region ?_
  refine WL_v rfl (ov_move rfl) ?_
  refine WL_appR (i := 0) (xs := []) rfl hH.nilIn rfl rfl st_sl_int rfl (IRow.nil _) hA.sl (hA.cell hH) (by simp only [List.length_nil]; omega) (by simp only [List.length_nil]; omega) ?_; rintro X v w2 hX hH2
  refine WL_v rfl (ov_assign rfl) ?_
  refine WL_nil ?_
  exact WT_ret1 Try.func44 Try.results44 rfl ⟨X, by simpa using hX, hH2⟩

/-- How many different nodes each node needs. -/
def countsL (p : List Nd) : List Int := (List.range p.length).map fun (u : Nat) => ((needTo (p.getD u default).frm).length : Int)
def countsOf (p : List Nd) : List Int := if planOk p = true then countsL p else []
theorem countsL_len (p : List Nd) : (countsL p).length = p.length := by simp [countsL]
theorem countsL_get {p : List Nd} {k : Nat} (h : k < (countsL p).length) : (countsL p)[k] = ((needTo (p.getD k default).frm).length : Int) := by simp [countsL]

end
end Go.Proofs.Ytafljegjdanldaa

/- Plain laws: what a node needs, directly or not. -/
namespace Go.Proofs.Ytafljegjdanldaa

/-- A node needs another one, directly or not. -/
inductive Rch (p : List Nd) : Nat → Nat → Prop
  | one {i f : Nat} : f ∈ needTo (p.getD i default).frm → Rch p i f
  | step {i f g : Nat} : f ∈ needTo (p.getD i default).frm → Rch p f g → Rch p i g
theorem need_lt {p : List Nd} (hv : planOk p = true) {i f : Nat} (h : f ∈ needTo (p.getD i default).frm) : f < i ∧ i < p.length := by
  rcases Nat.lt_or_ge i p.length with hi | hi
  · have := (mem_users_needs hv hi).2 h
    exact ⟨usersTo_gt hv (Nat.le_refl _) this, hi⟩
  · rw [getD_default_of hi] at h
    simp [needTo, default] at h
theorem Rch.lt {p : List Nd} (hv : planOk p = true) {i g : Nat} (h : Rch p i g) : g < i ∧ i < p.length := by
  induction h with
  | one h => exact need_lt hv h
  | step h _ ih => have := need_lt hv h; omega
theorem Rch.trans {p : List Nd} {i f g : Nat} (h : Rch p i f) (h2 : Rch p f g) : Rch p i g := by
  induction h with
  | one h => exact .step h h2
  | step h _ ih => exact .step h (ih h2)
theorem need_lev {p : List Nd} (hv : planOk p = true) {i f : Nat} (h : f ∈ needTo (p.getD i default).frm) : lev p f < lev p i := by
  have h1 := need_lt hv h
  have hf := frm_pos hv h1.2
  have hm := (mem_needTo' fun f h => (hf f h).1).1 h
  have h2 := le_upOf (c := 1) (ps := levelsTo p i) hm
  have h3 : lev p i = upOf 1 (levelsTo p i) (p.getD i default).frm := levelsTo_getD h1.2
  have h4 : (levelsTo p i).getD f 0 = lev p f := progTo_same h1.1 (by omega)
  rw [Int.toNat_natCast, h4] at h2
  omega
theorem Rch.lev {p : List Nd} (hv : planOk p = true) {i g : Nat} (h : Rch p i g) : lev p g < lev p i := by
  induction h with
  | one h => exact need_lev hv h
  | step h _ ih => have := need_lev hv h; omega
/-- At least as many are needed as the level says. -/
theorem rch_many {p : List Nd} (hv : planOk p = true) : ∀ i, i < p.length → ∃ L : List Nat, L.Nodup ∧ (∀ a ∈ L, Rch p i a) ∧ (L.length : Int) = Go.Proofs.Ytafljegjdanldaa.lev p i := by
  intro i
  induction i using Nat.strongRecOn with
  | _ i ih =>
    intro hi
    rcases Int.lt_or_le 0 (Go.Proofs.Ytafljegjdanldaa.lev p i) with h0 | h0
    · obtain ⟨f, hf, hm, hl⟩ := lev_down hv hi h0
      obtain ⟨L, h1, h2, h3⟩ := ih f hf (by omega)
      have hfm : f ∈ needTo (p.getD i default).frm := (mem_needTo' fun f h => (frm_pos hv hi f h).1).2 hm
      refine ⟨f :: L, List.nodup_cons.2 ⟨fun h => ?_, h1⟩, fun a ha => ?_, by simp only [List.length_cons]; omega⟩
      · have := (h2 f h).lt hv; omega
      · rcases List.mem_cons.1 ha with rfl | ha
        · exact .one hfm
        · exact .step hfm (h2 a ha)
    · exact ⟨[], by simp, by simp, by have := lev_nonneg p i; simp; omega⟩

open Classical in
/-- All that a node needs, in order. -/
noncomputable def needsL (p : List Nd) (i : Nat) : List Nat := (List.range p.length).filter fun a => decide (Rch p i a)
open Classical in
noncomputable def rchB (p : List Nd) (i a : Nat) : Bool := decide (Rch p i a)
theorem rchB_iff {p : List Nd} {i a : Nat} : rchB p i a = true ↔ Rch p i a := by simp [rchB]
theorem mem_needsL {p : List Nd} (hv : planOk p = true) {i a : Nat} : a ∈ needsL p i ↔ Rch p i a := by
  simp only [needsL, List.mem_filter, List.mem_range, decide_eq_true_eq]
  exact ⟨fun h => h.2, fun h => ⟨by have := h.lt hv; omega, h⟩⟩
theorem needsL_len (p : List Nd) (i : Nat) : (needsL p i).length ≤ p.length := by
  have := List.length_filter_le (fun a => @decide (Rch p i a) (Classical.propDecidable _)) (List.range p.length)
  simpa [needsL] using this
theorem needsL_many {p : List Nd} (hv : planOk p = true) {i : Nat} (hi : i < p.length) : lev p i ≤ (needsL p i).length := by
  obtain ⟨L, h1, h2, h3⟩ := rch_many hv i hi
  have := h1.length_le_of_subset (l₂ := needsL p i) fun a ha => (mem_needsL hv).2 (h2 a ha)
  omega
/-- The same among ten places. -/
theorem needsL_ten {p : List Nd} (hv : planOk p = true) (i : Nat) {S : Nat → Bool} (hS : ∀ a, S a = true ↔ Rch p i a) : (List.range 10).filter S = needsL p i := by
  have hlen := PlanOk.len hv
  have he : (fun a => @decide (Rch p i a) (Classical.propDecidable _)) = S := by
    funext a
    cases h : S a with
    | true => exact @decide_eq_true _ (Classical.propDecidable _) ((hS a).1 h)
    | false => exact @decide_eq_false _ (Classical.propDecidable _) fun hr => by rw [(hS a).2 hr] at h; cases h
  unfold needsL
  rw [he]
  have key : ∀ m, p.length ≤ m → (List.range m).filter S = (List.range p.length).filter S := by
    intro m
    induction m with
    | zero => intro h; rw [show p.length = 0 by omega]
    | succ m ih =>
      intro h
      rcases Nat.lt_or_ge m p.length with h1 | h1
      · rw [show p.length = m + 1 by omega]
      · rw [List.range_succ, List.filter_append, ih h1, List.filter_cons, if_neg (fun hh => by have := ((hS m).1 hh).lt hv; omega), List.filter_nil, List.append_nil]
  exact key 10 hlen

/-- What a search marks: closed below the node that is searched. -/
structure Marked (p : List Nd) (i : Nat) (S S' : Nat → Bool) : Prop where
  mono : ∀ a, S a = true → S' a = true
  new : ∀ a, S' a = true → S a = true ∨ Rch p i a
  shut : ∀ a, S' a = true → a < i → ∀ f ∈ needTo (p.getD a default).frm, S' f = true
theorem Marked.one {p : List Nd} (hv : planOk p = true) {i : Nat} {S S' : Nat → Bool} (hM : Marked p i S S') (h0 : ∀ a, S a = false) (hn : ∀ f ∈ needTo (p.getD i default).frm, S' f = true) : ∀ a, S' a = true ↔ Rch p i a := fun a => by
  constructor
  · intro h
    rcases hM.new a h with h1 | h1
    · rw [h0] at h1; cases h1
    · exact h1
  · intro h
    have key : ∀ {b a : Nat}, Rch p b a → (b = i ∨ (S' b = true ∧ b < i)) → S' a = true := by
      intro b a h
      induction h with
      | one hm =>
        rintro (he | ⟨h1, h2⟩)
        · rw [he] at hm; exact hn _ hm
        · exact hM.shut _ h1 h2 _ hm
      | step hm _ ih =>
        have hlt := need_lt hv hm
        rintro (he | ⟨h1, h2⟩)
        · rw [he] at hm hlt; exact ih (.inr ⟨hn _ hm, hlt.1⟩)
        · exact ih (.inr ⟨hM.shut _ h1 h2 _ hm, by omega⟩)
    exact key h (.inl rfl)
end Go.Proofs.Ytafljegjdanldaa
