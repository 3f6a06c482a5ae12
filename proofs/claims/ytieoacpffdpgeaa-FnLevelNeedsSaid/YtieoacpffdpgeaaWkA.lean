/- Walks: kinds and what they cost. -/
import Derived.Test.YtieoacpffdpgeaaSlT
import Derived.Test.YtieoacpffdpgeaaPlA
namespace Go.Proofs.Ytieoacpffdpgeaa
open Go.RowKit

section
variable {h : GH} {Ls : List Heaplet} {w : World}

/-- What a kind does, as a value: nil if there is no such kind. -/
def workV (k : Int) : Value :=
  if k = 0 then .iface 106 (.agg #[])
  else if k = 1 then .iface 109 (.agg #[.func (.func 92) #[] #[]])
  else if k = 2 then .iface 109 (.agg #[.func (.func 93) #[] #[]])
  else if k = 3 then .iface 112 (.agg #[.func (.func 94) #[] #[]])
  else if k = 4 then .iface 112 (.agg #[.func (.func 95) #[] #[]])
  else if k = 5 then .iface 112 (.agg #[.func (.func 96) #[] #[]])
  else .nilIface

theorem run_build_given (W : World) : (Instr.build 106 #[]).run Try.prog W = .ok (.agg #[]) W := by kernel_rfl
theorem run_build_pair (f : Nat) (W : World) : (Instr.build 109 #[(0, .func (.func f) #[] #[])]).run Try.prog W = .ok (.agg #[.func (.func f) #[] #[]]) W := by kernel_rfl
theorem run_build_lone (f : Nat) (W : World) : (Instr.build 112 #[(0, .func (.func f) #[] #[])]).run Try.prog W = .ok (.agg #[.func (.func f) #[] #[]]) W := by kernel_rfl
theorem mi_given (u : Value) (W : World) : (Instr.makeInterface 106 u).run Try.prog W = .ok (.iface 106 u) W := by kernel_rfl
theorem mi_pair (u : Value) (W : World) : (Instr.makeInterface 109 u).run Try.prog W = .ok (.iface 109 u) W := by kernel_rfl
theorem mi_lone (u : Value) (W : World) : (Instr.makeInterface 112 u).run Try.prog W = .ok (.iface 112 u) W := by kernel_rfl

theorem workOf_ok (hH : H w h Ls) (k : Int) : Rets Try.prog 87 #[.int .i64 k] w fun v w' => v = workV k ∧ H w' h Ls := by
  refine rets_enter Try.func87 rfl Try.ntmps87 (by simp) ?_
  refine WT_seq ?_
  refine WT_region ?_
  refine WL_v rfl (ov_assign rfl) ?_
  refine WL_nil ?_
  refine WT_seq ?_
  refine WT_seq ?_
  refine WT_region ?_
  refine WL_v rfl (ov_move rfl) ?_
  refine WL_nil ?_
  refine WT_block ?_
  refine WT_seq ?_
  refine WT_region ?_
  refine WL_v rfl (ov_eql rfl rfl) ?_
  refine WL_v rfl (ov_assign rfl) ?_
  refine WL_nil ?_
  refine WT_cond rfl (fun h0 => ?_) (fun h0 => ?_)
  · skip
    first | with_reducible replace h0 := of_decide_eq_true h0 | with_reducible replace h0 := bn_T h0 | with_reducible replace h0 := bb_T h0 | skip
    refine WT_seq ?_
    refine WT_region ?_
    refine WL_v rfl (ov_build rfl run_build_given) ?_
    refine WL_v rfl (ov_iface rfl mi_given) ?_
    refine WL_v rfl (ov_assign rfl) ?_
    refine WL_nil ?_
    exact WT_ret1 Try.func87 Try.results87 rfl ⟨by simp [workV, h0], hH⟩
  first | with_reducible replace h0 := of_decide_eq_false h0 | with_reducible replace h0 := bn_F h0 | with_reducible replace h0 := bb_F h0 | skip
  refine WT_seq ?_
  refine WT_region ?_
  refine WL_v rfl (ov_eql rfl rfl) ?_
  refine WL_v rfl (ov_assign rfl) ?_
  refine WL_nil ?_
  refine WT_cond rfl (fun h1 => ?_) (fun h1 => ?_)
  · skip
    first | with_reducible replace h1 := of_decide_eq_true h1 | with_reducible replace h1 := bn_T h1 | with_reducible replace h1 := bb_T h1 | skip
    refine WT_seq ?_
    refine WT_region ?_
    refine WL_v rfl (ov_build rfl (run_build_pair _)) ?_
    refine WL_v rfl (ov_iface rfl mi_pair) ?_
    refine WL_v rfl (ov_assign rfl) ?_
    refine WL_nil ?_
    exact WT_ret1 Try.func87 Try.results87 rfl ⟨by simp [workV, h1], hH⟩
  first | with_reducible replace h1 := of_decide_eq_false h1 | with_reducible replace h1 := bn_F h1 | with_reducible replace h1 := bb_F h1 | skip
  refine WT_seq ?_
  refine WT_region ?_
  refine WL_v rfl (ov_eql rfl rfl) ?_
  refine WL_v rfl (ov_assign rfl) ?_
  refine WL_nil ?_
  refine WT_cond rfl (fun h2 => ?_) (fun h2 => ?_)
  · skip
    first | with_reducible replace h2 := of_decide_eq_true h2 | with_reducible replace h2 := bn_T h2 | with_reducible replace h2 := bb_T h2 | skip
    refine WT_seq ?_
    refine WT_region ?_
    refine WL_v rfl (ov_build rfl (run_build_pair _)) ?_
    refine WL_v rfl (ov_iface rfl mi_pair) ?_
    refine WL_v rfl (ov_assign rfl) ?_
    refine WL_nil ?_
    exact WT_ret1 Try.func87 Try.results87 rfl ⟨by simp [workV, h2], hH⟩
  first | with_reducible replace h2 := of_decide_eq_false h2 | with_reducible replace h2 := bn_F h2 | with_reducible replace h2 := bb_F h2 | skip
  refine WT_seq ?_
  refine WT_region ?_
  refine WL_v rfl (ov_eql rfl rfl) ?_
  refine WL_v rfl (ov_assign rfl) ?_
  refine WL_nil ?_
  refine WT_cond rfl (fun h3 => ?_) (fun h3 => ?_)
  · skip
    first | with_reducible replace h3 := of_decide_eq_true h3 | with_reducible replace h3 := bn_T h3 | with_reducible replace h3 := bb_T h3 | skip
    refine WT_seq ?_
    refine WT_region ?_
    refine WL_v rfl (ov_build rfl (run_build_lone _)) ?_
    refine WL_v rfl (ov_iface rfl mi_lone) ?_
    refine WL_v rfl (ov_assign rfl) ?_
    refine WL_nil ?_
    exact WT_ret1 Try.func87 Try.results87 rfl ⟨by simp [workV, h3], hH⟩
  first | with_reducible replace h3 := of_decide_eq_false h3 | with_reducible replace h3 := bn_F h3 | with_reducible replace h3 := bb_F h3 | skip
  refine WT_seq ?_
  refine WT_region ?_
  refine WL_v rfl (ov_eql rfl rfl) ?_
  refine WL_v rfl (ov_assign rfl) ?_
  refine WL_nil ?_
  refine WT_cond rfl (fun h4 => ?_) (fun h4 => ?_)
  · skip
    first | with_reducible replace h4 := of_decide_eq_true h4 | with_reducible replace h4 := bn_T h4 | with_reducible replace h4 := bb_T h4 | skip
    refine WT_seq ?_
    refine WT_region ?_
    refine WL_v rfl (ov_build rfl (run_build_lone _)) ?_
    refine WL_v rfl (ov_iface rfl mi_lone) ?_
    refine WL_v rfl (ov_assign rfl) ?_
    refine WL_nil ?_
    exact WT_ret1 Try.func87 Try.results87 rfl ⟨by simp [workV, h4], hH⟩
  first | with_reducible replace h4 := of_decide_eq_false h4 | with_reducible replace h4 := bn_F h4 | with_reducible replace h4 := bb_F h4 | skip
  refine WT_seq ?_
  refine WT_region ?_
  refine WL_v rfl (ov_eql rfl rfl) ?_
  refine WL_v rfl (ov_assign rfl) ?_
  refine WL_nil ?_
  refine WT_cond rfl (fun h5 => ?_) (fun h5 => ?_)
  · skip
    first | with_reducible replace h5 := of_decide_eq_true h5 | with_reducible replace h5 := bn_T h5 | with_reducible replace h5 := bb_T h5 | skip
    refine WT_seq ?_
    refine WT_region ?_
    refine WL_v rfl (ov_build rfl (run_build_lone _)) ?_
    refine WL_v rfl (ov_iface rfl mi_lone) ?_
    refine WL_v rfl (ov_assign rfl) ?_
    refine WL_nil ?_
    exact WT_ret1 Try.func87 Try.results87 rfl ⟨by simp [workV, h5], hH⟩
  first | with_reducible replace h5 := of_decide_eq_false h5 | with_reducible replace h5 := bn_F h5 | with_reducible replace h5 := bb_F h5 | skip
  refine WT_skip ?_
  refine WT_inBlock ?_
  refine WT_seq ?_
  refine WT_region ?_
  refine WL_v rfl (ov_assign rfl) ?_
  refine WL_nil ?_
  exact WT_ret1 Try.func87 Try.results87 rfl ⟨by simp [workV, h0, h1, h2, h3, h4, h5], hH⟩

theorem workV_nil (k : Int) : ((!kindOk k) = true ∧ workV k = .nilIface) ∨ ((!kindOk k) = false ∧ ∃ u z, workV k = .iface u z) := by
  rcases kindCases k with rfl | rfl | rfl | rfl | rfl | rfl | hk
  · exact .inr ⟨by decide, _, _, rfl⟩
  · exact .inr ⟨by decide, _, _, rfl⟩
  · exact .inr ⟨by decide, _, _, rfl⟩
  · exact .inr ⟨by decide, _, _, rfl⟩
  · exact .inr ⟨by decide, _, _, rfl⟩
  · exact .inr ⟨by decide, _, _, rfl⟩
  · refine .inl ⟨by simp [hk], ?_⟩
    have : ¬ (0 ≤ k ∧ k ≤ 5) := by simpa [kindOk] using hk
    unfold workV
    rw [if_neg (by omega), if_neg (by omega), if_neg (by omega), if_neg (by omega), if_neg (by omega), if_neg (by omega)]

theorem kindValid_ok (hH : H w h Ls) (k : Int) : Rets Try.prog 70 #[.int .i64 k] w fun v w' => v = .bool (kindOk k) ∧ H w' h Ls := by
  refine rets_enter Try.func70 rfl Try.ntmps70 (by simp) ?_
  refine WT_seq ?_
  refine WT_region ?_
  refine WL_v rfl (ov_assign rfl) ?_
  refine WL_nil ?_
  refine WT_seq ?_
  refine WT_region ?_
  refine WL_v rfl (ov_move rfl) ?_
  refine WL_call rfl rfl cf_impl_workOf (workOf_ok hH k) ?_; rintro _ w1 ⟨rfl, hH1⟩
  refine WL_v rfl (ov_neqNil rfl rfl Try.underlying97 (workV_nil k)) ?_
  refine WL_v rfl (ov_assign rfl) ?_
  refine WL_nil ?_
  exact WT_ret1 Try.func70 Try.results70 rfl ⟨by simp, hH1⟩

theorem cm_given (W : World) : (callMethod (.iface 106 (.agg #[])) "loop.example/workplans/impl.needs" #[]).run Try.prog W = .ok (.enter 141 #[.agg #[]]) W := by kernel_rfl
theorem cm_pair (f : Nat) (W : World) : (callMethod (.iface 109 (.agg #[.func (.func f) #[] #[]])) "loop.example/workplans/impl.needs" #[]).run Try.prog W = .ok (.enter 142 #[.agg #[.func (.func f) #[] #[]]]) W := by kernel_rfl
theorem cm_lone (f : Nat) (W : World) : (callMethod (.iface 112 (.agg #[.func (.func f) #[] #[]])) "loop.example/workplans/impl.needs" #[]).run Try.prog W = .ok (.enter 143 #[.agg #[.func (.func f) #[] #[]]]) W := by kernel_rfl

theorem needs_given (hH : H w h Ls) (u : Value) : Rets Try.prog 141 #[u] w fun v w' => v = .int .i64 0 ∧ H w' h Ls := by
  refine rets_enter Try.func141 rfl Try.ntmps141 (by simp) ?_
  refine WT_seq ?_
  refine WT_region ?_
  refine WL_box _ rfl hH rfl rfl ?_; rintro g w1 hH1
  refine WL_v rfl (ov_assign rfl) ?_
  refine WL_nil ?_
  refine WT_seq ?_
  refine WT_region ?_
  refine WL_v rfl (ov_assign rfl) ?_
  refine WL_nil ?_
  exact WT_ret1 Try.func141 Try.results141 rfl ⟨rfl, hH1.drop⟩
theorem needs_pair (hH : H w h Ls) (u : Value) : Rets Try.prog 142 #[u] w fun v w' => v = .int .i64 2 ∧ H w' h Ls := by
  refine rets_enter Try.func142 rfl Try.ntmps142 (by simp) ?_
  refine WT_seq ?_
  refine WT_region ?_
  refine WL_box _ rfl hH rfl rfl ?_; rintro g w1 hH1
  refine WL_v rfl (ov_assign rfl) ?_
  refine WL_nil ?_
  refine WT_seq ?_
  refine WT_region ?_
  refine WL_v rfl (ov_assign rfl) ?_
  refine WL_nil ?_
  exact WT_ret1 Try.func142 Try.results142 rfl ⟨rfl, hH1.drop⟩
theorem needs_lone (hH : H w h Ls) (u : Value) : Rets Try.prog 143 #[u] w fun v w' => v = .int .i64 1 ∧ H w' h Ls := by
  refine rets_enter Try.func143 rfl Try.ntmps143 (by simp) ?_
  refine WT_seq ?_
  refine WT_region ?_
  refine WL_box _ rfl hH rfl rfl ?_; rintro g w1 hH1
  refine WL_v rfl (ov_assign rfl) ?_
  refine WL_nil ?_
  refine WT_seq ?_
  refine WT_region ?_
  refine WL_v rfl (ov_assign rfl) ?_
  refine WL_nil ?_
  exact WT_ret1 Try.func143 Try.results143 rfl ⟨rfl, hH1.drop⟩

theorem needs_of (k : Int) (hk : kindOk k = true) : ∃ (f : Nat) (ws : List Value), (∀ W, (callMethod (workV k) "loop.example/workplans/impl.needs" #[]).run Try.prog W = .ok (.enter f ws.toArray) W) ∧
    ∀ {h : GH} {Ls : List Heaplet} {w : World}, H w h Ls → Rets Try.prog f ws.toArray w fun v w' => v = .int .i64 (kindNeeds k) ∧ H w' h Ls := by
  rcases (kindOk_iff k).1 hk with rfl | rfl | rfl | rfl | rfl | rfl
  · exact ⟨_, [_], fun W => cm_given W, fun hH => needs_given hH _⟩
  · exact ⟨_, [_], fun W => cm_pair _ W, fun hH => needs_pair hH _⟩
  · exact ⟨_, [_], fun W => cm_pair _ W, fun hH => needs_pair hH _⟩
  · exact ⟨_, [_], fun W => cm_lone _ W, fun hH => needs_lone hH _⟩
  · exact ⟨_, [_], fun W => cm_lone _ W, fun hH => needs_lone hH _⟩
  · exact ⟨_, [_], fun W => cm_lone _ W, fun hH => needs_lone hH _⟩

theorem kindNeeds_bad {k : Int} (hk : kindOk k = false) : kindNeeds k = -1 := by
  have : ¬ (0 ≤ k ∧ k ≤ 5) := by simpa [kindOk] using hk
  unfold kindNeeds
  rw [if_neg (by omega), if_neg (by omega), if_neg (by omega)]

theorem kindNeeds_ok (hH : H w h Ls) (k : Int) : Rets Try.prog 88 #[.int .i64 k] w fun v w' => v = .int .i64 (kindNeeds k) ∧ H w' h Ls := by
  refine rets_enter Try.func88 rfl Try.ntmps88 (by simp) ?_
  refine WT_seq ?_
  refine WT_region ?_
  refine WL_v rfl (ov_assign rfl) ?_
  refine WL_nil ?_
  refine WT_seq ?_
  refine WT_region ?_
  refine WL_v rfl (ov_move rfl) ?_
  refine WL_call rfl rfl cf_impl_workOf (workOf_ok hH k) ?_; rintro _ w1 ⟨rfl, hH1⟩
  refine WL_v rfl (ov_assign rfl) ?_
  refine WL_nil ?_
  refine WT_seq ?_
  refine WT_seq ?_
  refine WT_region ?_
  refine WL_v rfl (ov_move rfl) ?_
  refine WL_v rfl (ov_eqlNil rfl rfl Try.underlying97 (workV_nil k)) ?_
  refine WL_nil ?_
  refine WT_cond rfl (fun hk => ?_) (fun hk => ?_)
  · skip
    first | with_reducible replace hk := of_decide_eq_true hk | with_reducible replace hk := bn_T hk | with_reducible replace hk := bb_T hk | skip
    refine WT_seq ?_
    refine WT_region ?_
    refine WL_v rfl (ov_assign rfl) ?_
    refine WL_nil ?_
    exact WT_ret1 Try.func88 Try.results88 rfl ⟨by rw [kindNeeds_bad hk], hH1⟩
  first | with_reducible replace hk := of_decide_eq_false hk | with_reducible replace hk := bn_F hk | with_reducible replace hk := bb_F hk | skip
  obtain ⟨f, ws, hcm, hcall⟩ := needs_of k hk
  refine WT_skip ?_
  refine WT_seq ?_
  refine WT_region ?_
  refine WL_v rfl (ov_move rfl) ?_
  refine WL_invoke rfl rfl rfl (hcm) (hcall hH1) ?_; rintro _ w2 ⟨rfl, hH2⟩
  refine WL_v rfl (ov_assign rfl) ?_
  refine WL_nil ?_
  exact WT_ret1 Try.func88 Try.results88 rfl ⟨rfl, hH2⟩

theorem costKind_ok (hH : H w h Ls) (k : Int) : Rets Try.prog 42 #[.int .i64 k] w fun v w' => v = .int .i64 (costKind k) ∧ H w' h Ls := by
  refine rets_enter Try.func42 rfl Try.ntmps42 (by simp) ?_
  refine WT_seq ?_
  refine WT_region ?_
  refine WL_v rfl (ov_assign rfl) ?_
  refine WL_nil ?_
  refine WT_seq ?_
  refine WT_block ?_
  refine WT_seq ?_
  refine WT_region ?_
  refine WL_v rfl (ov_move rfl) ?_
  refine WL_call rfl rfl cf_impl_KindValid (kindValid_ok hH k) ?_; rintro _ w1 ⟨rfl, hH1⟩
  refine WL_v rfl (ov_not rfl) ?_
  refine WL_v rfl (ov_assign rfl) ?_
  refine WL_nil ?_
  refine WT_cond rfl (fun hk => ?_) (fun hk => ?_)
  · skip
    first | with_reducible replace hk := of_decide_eq_true hk | with_reducible replace hk := bn_T hk | with_reducible replace hk := bb_T hk | skip
    refine WT_seq ?_
    refine WT_region ?_
    refine WL_v rfl (ov_assign rfl) ?_
    refine WL_nil ?_
    exact WT_ret1 Try.func42 Try.results42 rfl ⟨by simp [costKind, hk], hH1⟩
  first | with_reducible replace hk := of_decide_eq_false hk | with_reducible replace hk := bn_F hk | with_reducible replace hk := bb_F hk | skip
  by_cases h0 : k = 0
  · skip
    refine WT_seq ?_
    refine WT_region ?_
    refine WL_v rfl (ov_move rfl) ?_
    refine WL_v rfl (ov_T (ov_eql rfl rfl) (by first | exact decide_eq_true h0 | exact nb_T h0 | exact mb_T h0 | exact h0 | (simp only [decide_eq_true_eq]; omega) | simpa using h0)) ?_
    refine WL_v rfl (ov_move rfl) ?_
    refine WL_guardOff rfl rfl rfl rfl ?_
    refine WL_guardOff rfl rfl rfl rfl ?_
    refine WL_v rfl (ov_pickT rfl rfl) ?_
    refine WL_v rfl (ov_assign rfl) ?_
    refine WL_nil ?_
    refine WT_condT rfl ?_
    refine WT_seq ?_
    refine WT_region ?_
    refine WL_v rfl (ov_assign rfl) ?_
    refine WL_nil ?_
    exact WT_ret1 Try.func42 Try.results42 rfl ⟨by rw [costKind, if_pos hk]; simp [kindCost, h0], hH1⟩
  by_cases h5 : k = 5
  · skip
    refine WT_seq ?_
    refine WT_region ?_
    refine WL_v rfl (ov_move rfl) ?_
    refine WL_v rfl (ov_F (ov_eql rfl rfl) (by first | exact decide_eq_false h0 | exact nb_F h0 | exact mb_F h0 | exact h0 | (simp only [decide_eq_false_iff_not]; omega) | simpa using h0)) ?_
    refine WL_v rfl (ov_move rfl) ?_
    refine WL_guardOn rfl rfl ?_
    refine WL_v rfl (ov_move rfl) ?_
    refine WL_guardOn rfl rfl ?_
    refine WL_v rfl (ov_T (ov_eql rfl rfl) (by first | exact decide_eq_true h5 | exact nb_T h5 | exact mb_T h5 | exact h5 | (simp only [decide_eq_true_eq]; omega) | simpa using h5)) ?_
    refine WL_v rfl (ov_pickF rfl rfl) ?_
    refine WL_v rfl (ov_assign rfl) ?_
    refine WL_nil ?_
    refine WT_condT rfl ?_
    refine WT_seq ?_
    refine WT_region ?_
    refine WL_v rfl (ov_assign rfl) ?_
    refine WL_nil ?_
    exact WT_ret1 Try.func42 Try.results42 rfl ⟨by rw [costKind, if_pos hk]; simp [kindCost, h5], hH1⟩
  refine WT_seq ?_
  refine WT_region ?_
  refine WL_v rfl (ov_move rfl) ?_
  refine WL_v rfl (ov_F (ov_eql rfl rfl) (by first | exact decide_eq_false h0 | exact nb_F h0 | exact mb_F h0 | exact h0 | (simp only [decide_eq_false_iff_not]; omega) | simpa using h0)) ?_
  refine WL_v rfl (ov_move rfl) ?_
  refine WL_guardOn rfl rfl ?_
  refine WL_v rfl (ov_move rfl) ?_
  refine WL_guardOn rfl rfl ?_
  refine WL_v rfl (ov_F (ov_eql rfl rfl) (by first | exact decide_eq_false h5 | exact nb_F h5 | exact mb_F h5 | exact h5 | (simp only [decide_eq_false_iff_not]; omega) | simpa using h5)) ?_
  refine WL_v rfl (ov_pickF rfl rfl) ?_
  refine WL_v rfl (ov_assign rfl) ?_
  refine WL_nil ?_
  refine WT_condF rfl ?_
  refine WT_seq ?_
  refine WT_region ?_
  refine WL_v rfl (ov_move rfl) ?_
  refine WL_v rfl (ov_eql rfl rfl) ?_
  refine WL_v rfl (ov_assign rfl) ?_
  refine WL_nil ?_
  refine WT_cond rfl (fun h4 => ?_) (fun h4 => ?_)
  · skip
    first | with_reducible replace h4 := of_decide_eq_true h4 | with_reducible replace h4 := bn_T h4 | with_reducible replace h4 := bb_T h4 | skip
    refine WT_seq ?_
    refine WT_region ?_
    refine WL_v rfl (ov_assign rfl) ?_
    refine WL_nil ?_
    exact WT_ret1 Try.func42 Try.results42 rfl ⟨by rw [costKind, if_pos hk]; simp [kindCost, h4], hH1⟩
  first | with_reducible replace h4 := of_decide_eq_false h4 | with_reducible replace h4 := bn_F h4 | with_reducible replace h4 := bb_F h4 | skip
  refine WT_skip ?_
  refine WT_inBlock ?_
  refine WT_seq ?_
  refine WT_region ?_
  refine WL_v rfl (ov_assign rfl) ?_
  refine WL_nil ?_
  exact WT_ret1 Try.func42 Try.results42 rfl ⟨by rw [costKind, if_pos hk]; simp [kindCost, h0, h4, h5], hH1⟩

theorem l6In_ok (hH : H w h Ls) (n lo hi : Int) : Rets Try.prog 48 #[.int .i64 n, .int .i64 lo, .int .i64 hi] w fun v w' => v = .bool (decide (lo ≤ n ∧ n ≤ hi)) ∧ H w' h Ls := by
  refine rets_enter Try.func48 rfl Try.ntmps48 (by simp) ?_
  by_cases h0 : lo ≤ n
  · skip
    refine WT_seq ?_
    refine WT_region ?_
    refine WL_v rfl (ov_assign rfl) ?_
    refine WL_nil ?_
    refine WT_seq ?_
    refine WT_region ?_
    refine WL_v rfl (ov_move rfl) ?_
    refine WL_v rfl (ov_move rfl) ?_
    refine WL_v rfl (ov_T (ov_geq rfl rfl) (by first | exact decide_eq_true h0 | exact nb_T h0 | exact mb_T h0 | exact h0 | (simp only [decide_eq_true_eq]; omega) | simpa using h0)) ?_
    refine WL_v rfl (ov_move rfl) ?_
    refine WL_guardOn rfl rfl ?_
    refine WL_v rfl (ov_move rfl) ?_
    refine WL_guardOn rfl rfl ?_
    refine WL_v rfl (ov_move rfl) ?_
    refine WL_guardOn rfl rfl ?_
    refine WL_v rfl (ov_leq rfl rfl) ?_
    refine WL_v rfl (ov_pickT rfl rfl) ?_
    refine WL_v rfl (ov_assign rfl) ?_
    refine WL_nil ?_
    exact WT_ret1 Try.func48 Try.results48 rfl ⟨by simp [h0], hH⟩
  refine WT_seq ?_
  refine WT_region ?_
  refine WL_v rfl (ov_assign rfl) ?_
  refine WL_nil ?_
  refine WT_seq ?_
  refine WT_region ?_
  refine WL_v rfl (ov_move rfl) ?_
  refine WL_v rfl (ov_move rfl) ?_
  refine WL_v rfl (ov_F (ov_geq rfl rfl) (by first | exact decide_eq_false h0 | exact nb_F h0 | exact mb_F h0 | exact h0 | (simp only [decide_eq_false_iff_not]; omega) | simpa using h0)) ?_
  refine WL_v rfl (ov_move rfl) ?_
  refine WL_guardOff rfl rfl rfl rfl ?_
  refine WL_guardOff rfl rfl rfl rfl ?_
  refine WL_guardOff rfl rfl rfl rfl ?_
  refine WL_v rfl (ov_pickF rfl rfl) ?_
  refine WL_v rfl (ov_assign rfl) ?_
  refine WL_nil ?_
  exact WT_ret1 Try.func48 Try.results48 rfl ⟨by simp [h0], hH⟩

theorem sKindValid_ok (hH : H w h Ls) (k : Int) : Rets Try.prog 91 #[.int .i64 k] w fun v w' => v = .bool (kindOk k) ∧ H w' h Ls := by
  refine rets_enter Try.func91 rfl Try.ntmps91 (by simp) ?_
  refine WT_seq ?_
  refine WT_region ?_
  refine WL_v rfl (ov_assign rfl) ?_
  refine WL_nil ?_
  refine WT_seq ?_
  refine WT_region ?_
  refine WL_v rfl (ov_move rfl) ?_
  refine WL_call rfl rfl cf_spec_l6In (l6In_ok hH k 0 5) ?_; rintro _ w1 ⟨rfl, hH1⟩
  refine WL_v rfl (ov_assign rfl) ?_
  refine WL_nil ?_
  exact WT_ret1 Try.func91 Try.results91 rfl ⟨rfl, hH1⟩

theorem sKindNeeds_ok (hH : H w h Ls) (k : Int) : Rets Try.prog 85 #[.int .i64 k] w fun v w' => v = .int .i64 (kindNeeds k) ∧ H w' h Ls := by
  refine rets_enter Try.func85 rfl Try.ntmps85 (by simp) ?_
  refine WT_seq ?_
  refine WT_region ?_
  refine WL_v rfl (ov_assign rfl) ?_
  refine WL_nil ?_
  refine WT_seq ?_
  refine WT_block ?_
  refine WT_seq ?_
  refine WT_region ?_
  refine WL_v rfl (ov_move rfl) ?_
  refine WL_call rfl rfl cf_spec_KindValid (sKindValid_ok hH k) ?_; rintro _ w1 ⟨rfl, hH1⟩
  refine WL_v rfl (ov_not rfl) ?_
  refine WL_v rfl (ov_assign rfl) ?_
  refine WL_nil ?_
  refine WT_cond rfl (fun hk => ?_) (fun hk => ?_)
  · skip
    first | with_reducible replace hk := of_decide_eq_true hk | with_reducible replace hk := bn_T hk | with_reducible replace hk := bb_T hk | skip
    refine WT_seq ?_
    refine WT_region ?_
    refine WL_v rfl (ov_assign rfl) ?_
    refine WL_nil ?_
    exact WT_ret1 Try.func85 Try.results85 rfl ⟨by rw [kindNeeds_bad hk], hH1⟩
  first | with_reducible replace hk := of_decide_eq_false hk | with_reducible replace hk := bn_F hk | with_reducible replace hk := bb_F hk | skip
  have hk' := (kindOk_iff k).1 hk
  refine WT_seq ?_
  refine WT_region ?_
  refine WL_v rfl (ov_move rfl) ?_
  refine WL_v rfl (ov_eql rfl rfl) ?_
  refine WL_v rfl (ov_assign rfl) ?_
  refine WL_nil ?_
  refine WT_cond rfl (fun h0 => ?_) (fun h0 => ?_)
  · skip
    first | with_reducible replace h0 := of_decide_eq_true h0 | with_reducible replace h0 := bn_T h0 | with_reducible replace h0 := bb_T h0 | skip
    refine WT_seq ?_
    refine WT_region ?_
    refine WL_v rfl (ov_assign rfl) ?_
    refine WL_nil ?_
    exact WT_ret1 Try.func85 Try.results85 rfl ⟨by simp [kindNeeds, h0], hH1⟩
  first | with_reducible replace h0 := of_decide_eq_false h0 | with_reducible replace h0 := bn_F h0 | with_reducible replace h0 := bb_F h0 | skip
  by_cases h1 : k = 1
  · skip
    refine WT_seq ?_
    refine WT_region ?_
    refine WL_v rfl (ov_move rfl) ?_
    refine WL_v rfl (ov_T (ov_eql rfl rfl) (by first | exact decide_eq_true h1 | exact nb_T h1 | exact mb_T h1 | exact h1 | (simp only [decide_eq_true_eq]; omega) | simpa using h1)) ?_
    refine WL_v rfl (ov_move rfl) ?_
    refine WL_guardOff rfl rfl rfl rfl ?_
    refine WL_guardOff rfl rfl rfl rfl ?_
    refine WL_v rfl (ov_pickT rfl rfl) ?_
    refine WL_v rfl (ov_assign rfl) ?_
    refine WL_nil ?_
    refine WT_condT rfl ?_
    refine WT_seq ?_
    refine WT_region ?_
    refine WL_v rfl (ov_assign rfl) ?_
    refine WL_nil ?_
    exact WT_ret1 Try.func85 Try.results85 rfl ⟨by simp [kindNeeds, h1], hH1⟩
  refine WT_seq ?_
  refine WT_region ?_
  refine WL_v rfl (ov_move rfl) ?_
  refine WL_v rfl (ov_F (ov_eql rfl rfl) (by first | exact decide_eq_false h1 | exact nb_F h1 | exact mb_F h1 | exact h1 | (simp only [decide_eq_false_iff_not]; omega) | simpa using h1)) ?_
  refine WL_v rfl (ov_move rfl) ?_
  refine WL_guardOn rfl rfl ?_
  refine WL_v rfl (ov_move rfl) ?_
  refine WL_guardOn rfl rfl ?_
  refine WL_v rfl (ov_eql rfl rfl) ?_
  refine WL_v rfl (ov_pickF rfl rfl) ?_
  refine WL_v rfl (ov_assign rfl) ?_
  refine WL_nil ?_
  refine WT_cond rfl (fun h2 => ?_) (fun h2 => ?_)
  · skip
    first | with_reducible replace h2 := of_decide_eq_true h2 | with_reducible replace h2 := bn_T h2 | with_reducible replace h2 := bb_T h2 | skip
    refine WT_seq ?_
    refine WT_region ?_
    refine WL_v rfl (ov_assign rfl) ?_
    refine WL_nil ?_
    exact WT_ret1 Try.func85 Try.results85 rfl ⟨by simp [kindNeeds, h2], hH1⟩
  first | with_reducible replace h2 := of_decide_eq_false h2 | with_reducible replace h2 := bn_F h2 | with_reducible replace h2 := bb_F h2 | skip
  refine WT_skip ?_
  refine WT_inBlock ?_
  refine WT_seq ?_
  refine WT_region ?_
  refine WL_v rfl (ov_assign rfl) ?_
  refine WL_nil ?_
  exact WT_ret1 Try.func85 Try.results85 rfl ⟨by rw [kindNeeds, if_neg h0, if_neg (by omega), if_pos (by omega)], hH1⟩

theorem l31Cost_ok (hH : H w h Ls) (k : Int) : Rets Try.prog 69 #[.int .i64 k] w fun v w' => v = .int .i64 (kindCost k) ∧ H w' h Ls := by
  refine rets_enter Try.func69 rfl Try.ntmps69 (by simp) ?_
  by_cases h0 : k = 0
  · skip
    refine WT_seq ?_
    refine WT_region ?_
    refine WL_v rfl (ov_assign rfl) ?_
    refine WL_nil ?_
    refine WT_seq ?_
    refine WT_seq ?_
    refine WT_region ?_
    refine WL_v rfl (ov_move rfl) ?_
    refine WL_nil ?_
    refine WT_block ?_
    refine WT_seq ?_
    refine WT_seq ?_
    refine WT_region ?_
    refine WL_v rfl (ov_T (ov_eql rfl rfl) (by first | exact decide_eq_true h0 | exact nb_T h0 | exact mb_T h0 | exact h0 | (simp only [decide_eq_true_eq]; omega) | simpa using h0)) ?_
    refine WL_v rfl (ov_assign rfl) ?_
    refine WL_nil ?_
    refine WT_condT rfl ?_
    refine WT_skip ?_
    refine WT_condT rfl ?_
    refine WT_seq ?_
    refine WT_region ?_
    refine WL_v rfl (ov_assign rfl) ?_
    refine WL_nil ?_
    exact WT_ret1 Try.func69 Try.results69 rfl ⟨by simp [kindCost, h0], hH⟩
  by_cases h5 : k = 5
  · skip
    refine WT_seq ?_
    refine WT_region ?_
    refine WL_v rfl (ov_assign rfl) ?_
    refine WL_nil ?_
    refine WT_seq ?_
    refine WT_seq ?_
    refine WT_region ?_
    refine WL_v rfl (ov_move rfl) ?_
    refine WL_nil ?_
    refine WT_block ?_
    refine WT_seq ?_
    refine WT_seq ?_
    refine WT_region ?_
    refine WL_v rfl (ov_F (ov_eql rfl rfl) (by first | exact decide_eq_false h0 | exact nb_F h0 | exact mb_F h0 | exact h0 | (simp only [decide_eq_false_iff_not]; omega) | simpa using h0)) ?_
    refine WL_v rfl (ov_assign rfl) ?_
    refine WL_nil ?_
    refine WT_condF rfl ?_
    refine WT_region ?_
    refine WL_v rfl (ov_T (ov_eql rfl rfl) (by first | exact decide_eq_true h5 | exact nb_T h5 | exact mb_T h5 | exact h5 | (simp only [decide_eq_true_eq]; omega) | simpa using h5)) ?_
    refine WL_v rfl (ov_assign rfl) ?_
    refine WL_nil ?_
    refine WT_condT rfl ?_
    refine WT_seq ?_
    refine WT_region ?_
    refine WL_v rfl (ov_assign rfl) ?_
    refine WL_nil ?_
    exact WT_ret1 Try.func69 Try.results69 rfl ⟨by simp [kindCost, h5], hH⟩
  refine WT_seq ?_
  refine WT_region ?_
  refine WL_v rfl (ov_assign rfl) ?_
  refine WL_nil ?_
  refine WT_seq ?_
  refine WT_seq ?_
  refine WT_region ?_
  refine WL_v rfl (ov_move rfl) ?_
  refine WL_nil ?_
  refine WT_block ?_
  refine WT_seq ?_
  refine WT_seq ?_
  refine WT_region ?_
  refine WL_v rfl (ov_F (ov_eql rfl rfl) (by first | exact decide_eq_false h0 | exact nb_F h0 | exact mb_F h0 | exact h0 | (simp only [decide_eq_false_iff_not]; omega) | simpa using h0)) ?_
  refine WL_v rfl (ov_assign rfl) ?_
  refine WL_nil ?_
  refine WT_condF rfl ?_
  refine WT_region ?_
  refine WL_v rfl (ov_F (ov_eql rfl rfl) (by first | exact decide_eq_false h5 | exact nb_F h5 | exact mb_F h5 | exact h5 | (simp only [decide_eq_false_iff_not]; omega) | simpa using h5)) ?_
  refine WL_v rfl (ov_assign rfl) ?_
  refine WL_nil ?_
  refine WT_condF rfl ?_
  refine WT_seq ?_
  refine WT_region ?_
  refine WL_v rfl (ov_eql rfl rfl) ?_
  refine WL_v rfl (ov_assign rfl) ?_
  refine WL_nil ?_
  refine WT_cond rfl (fun h4 => ?_) (fun h4 => ?_)
  · skip
    first | with_reducible replace h4 := of_decide_eq_true h4 | with_reducible replace h4 := bn_T h4 | with_reducible replace h4 := bb_T h4 | skip
    refine WT_seq ?_
    refine WT_region ?_
    refine WL_v rfl (ov_assign rfl) ?_
    refine WL_nil ?_
    exact WT_ret1 Try.func69 Try.results69 rfl ⟨by simp [kindCost, h4], hH⟩
  first | with_reducible replace h4 := of_decide_eq_false h4 | with_reducible replace h4 := bn_F h4 | with_reducible replace h4 := bb_F h4 | skip
  refine WT_skip ?_
  refine WT_inBlock ?_
  refine WT_seq ?_
  refine WT_region ?_
  refine WL_v rfl (ov_assign rfl) ?_
  refine WL_nil ?_
  exact WT_ret1 Try.func69 Try.results69 rfl ⟨by simp [kindCost, h0, h4, h5], hH⟩

end
end Go.Proofs.Ytieoacpffdpgeaa
