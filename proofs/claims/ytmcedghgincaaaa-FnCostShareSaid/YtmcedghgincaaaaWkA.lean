/- Walks: kinds and what they cost. -/
import Derived.Test.YtmcedghgincaaaaSlT
import Derived.Test.YtmcedghgincaaaaPlA
namespace Go.Proofs.Ytmcedghgincaaaa
open Go.RowKit

section
variable {h : GH} {Ls : List Heaplet} {w : World}

/-- What a kind does, as a value: nil if there is no such kind. -/
def workV (k : Int) : Value :=
  if k = 0 then .iface 144 (.agg #[])
  else if k = 1 then .iface 137 (.agg #[.func (.func 125) #[] #[]])
  else if k = 2 then .iface 137 (.agg #[.func (.func 126) #[] #[]])
  else if k = 3 then .iface 139 (.agg #[.func (.func 127) #[] #[]])
  else if k = 4 then .iface 139 (.agg #[.func (.func 128) #[] #[]])
  else if k = 5 then .iface 139 (.agg #[.func (.func 129) #[] #[]])
  else .nilIface

theorem run_build_given (W : World) : (Instr.build 144 #[]).run Try.prog W = .ok (.agg #[]) W := by kernel_rfl
theorem run_build_pair (f : Nat) (W : World) : (Instr.build 137 #[(0, .func (.func f) #[] #[])]).run Try.prog W = .ok (.agg #[.func (.func f) #[] #[]]) W := by kernel_rfl
theorem run_build_lone (f : Nat) (W : World) : (Instr.build 139 #[(0, .func (.func f) #[] #[])]).run Try.prog W = .ok (.agg #[.func (.func f) #[] #[]]) W := by kernel_rfl
theorem mi_given (u : Value) (W : World) : (Instr.makeInterface 144 u).run Try.prog W = .ok (.iface 144 u) W := by kernel_rfl
theorem mi_pair (u : Value) (W : World) : (Instr.makeInterface 137 u).run Try.prog W = .ok (.iface 137 u) W := by kernel_rfl
theorem mi_lone (u : Value) (W : World) : (Instr.makeInterface 139 u).run Try.prog W = .ok (.iface 139 u) W := by kernel_rfl

theorem workOf_ok (hH : H w h Ls) (k : Int) : Rets Try.prog 115 #[.int .i64 k] w fun v w' => v = workV k ∧ H w' h Ls := by
  refine rets_enter Try.func115 rfl Try.ntmps115 (by simp) ?_
  refine WT_seq ?_
  refine WT_region ?_
  refine WL_v rfl (ov_assign rfl) ?_
  refine WL_nil ?_
  refine WT_seq ?_
  refine WT_seq ?_
  refine WT_region ?_
  refine WL_v rfl (ov_move rfl) ?_
  refine WL_nil ?_
  refine WT_block ?_
  refine WT_seq ?_
  refine WT_region ?_
  refine WL_v rfl (ov_eql rfl rfl) ?_
  refine WL_v rfl (ov_assign rfl) ?_
  refine WL_nil ?_
  refine WT_cond rfl (fun h0 => ?_) (fun h0 => ?_)
  · skip
    first | with_reducible replace h0 := of_decide_eq_true h0 | with_reducible replace h0 := bn_T h0 | with_reducible replace h0 := bb_T h0 | skip
    refine WT_seq ?_
    refine WT_region ?_
    refine WL_v rfl (ov_build rfl run_build_given) ?_
    refine WL_v rfl (ov_iface rfl mi_given) ?_
    refine WL_v rfl (ov_assign rfl) ?_
    refine WL_nil ?_
    exact WT_ret1 Try.func115 Try.results115 rfl ⟨by simp [workV, h0], hH⟩
  first | with_reducible replace h0 := of_decide_eq_false h0 | with_reducible replace h0 := bn_F h0 | with_reducible replace h0 := bb_F h0 | skip
  refine WT_seq ?_
  refine WT_region ?_
  refine WL_v rfl (ov_eql rfl rfl) ?_
  refine WL_v rfl (ov_assign rfl) ?_
  refine WL_nil ?_
  refine WT_cond rfl (fun h1 => ?_) (fun h1 => ?_)
  · skip
    first | with_reducible replace h1 := of_decide_eq_true h1 | with_reducible replace h1 := bn_T h1 | with_reducible replace h1 := bb_T h1 | skip
    refine WT_seq ?_
    refine WT_region ?_
    refine WL_v rfl (ov_build rfl (run_build_pair _)) ?_
    refine WL_v rfl (ov_iface rfl mi_pair) ?_
    refine WL_v rfl (ov_assign rfl) ?_
    refine WL_nil ?_
    exact WT_ret1 Try.func115 Try.results115 rfl ⟨by simp [workV, h1], hH⟩
  first | with_reducible replace h1 := of_decide_eq_false h1 | with_reducible replace h1 := bn_F h1 | with_reducible replace h1 := bb_F h1 | skip
  refine WT_seq ?_
  refine WT_region ?_
  refine WL_v rfl (ov_eql rfl rfl) ?_
  refine WL_v rfl (ov_assign rfl) ?_
  refine WL_nil ?_
  refine WT_cond rfl (fun h2 => ?_) (fun h2 => ?_)
  · skip
    first | with_reducible replace h2 := of_decide_eq_true h2 | with_reducible replace h2 := bn_T h2 | with_reducible replace h2 := bb_T h2 | skip
    refine WT_seq ?_
    refine WT_region ?_
    refine WL_v rfl (ov_build rfl (run_build_pair _)) ?_
    refine WL_v rfl (ov_iface rfl mi_pair) ?_
    refine WL_v rfl (ov_assign rfl) ?_
    refine WL_nil ?_
    exact WT_ret1 Try.func115 Try.results115 rfl ⟨by simp [workV, h2], hH⟩
  first | with_reducible replace h2 := of_decide_eq_false h2 | with_reducible replace h2 := bn_F h2 | with_reducible replace h2 := bb_F h2 | skip
  refine WT_seq ?_
  refine WT_region ?_
  refine WL_v rfl (ov_eql rfl rfl) ?_
  refine WL_v rfl (ov_assign rfl) ?_
  refine WL_nil ?_
  refine WT_cond rfl (fun h3 => ?_) (fun h3 => ?_)
  · skip
    first | with_reducible replace h3 := of_decide_eq_true h3 | with_reducible replace h3 := bn_T h3 | with_reducible replace h3 := bb_T h3 | skip
    refine WT_seq ?_
    refine WT_region ?_
    refine WL_v rfl (ov_build rfl (run_build_lone _)) ?_
    refine WL_v rfl (ov_iface rfl mi_lone) ?_
    refine WL_v rfl (ov_assign rfl) ?_
    refine WL_nil ?_
    exact WT_ret1 Try.func115 Try.results115 rfl ⟨by simp [workV, h3], hH⟩
  first | with_reducible replace h3 := of_decide_eq_false h3 | with_reducible replace h3 := bn_F h3 | with_reducible replace h3 := bb_F h3 | skip
  refine WT_seq ?_
  refine WT_region ?_
  refine WL_v rfl (ov_eql rfl rfl) ?_
  refine WL_v rfl (ov_assign rfl) ?_
  refine WL_nil ?_
  refine WT_cond rfl (fun h4 => ?_) (fun h4 => ?_)
  · skip
    first | with_reducible replace h4 := of_decide_eq_true h4 | with_reducible replace h4 := bn_T h4 | with_reducible replace h4 := bb_T h4 | skip
    refine WT_seq ?_
    refine WT_region ?_
    refine WL_v rfl (ov_build rfl (run_build_lone _)) ?_
    refine WL_v rfl (ov_iface rfl mi_lone) ?_
    refine WL_v rfl (ov_assign rfl) ?_
    refine WL_nil ?_
    exact WT_ret1 Try.func115 Try.results115 rfl ⟨by simp [workV, h4], hH⟩
  first | with_reducible replace h4 := of_decide_eq_false h4 | with_reducible replace h4 := bn_F h4 | with_reducible replace h4 := bb_F h4 | skip
  refine WT_seq ?_
  refine WT_region ?_
  refine WL_v rfl (ov_eql rfl rfl) ?_
  refine WL_v rfl (ov_assign rfl) ?_
  refine WL_nil ?_
  refine WT_cond rfl (fun h5 => ?_) (fun h5 => ?_)
  · skip
    first | with_reducible replace h5 := of_decide_eq_true h5 | with_reducible replace h5 := bn_T h5 | with_reducible replace h5 := bb_T h5 | skip
    refine WT_seq ?_
    refine WT_region ?_
    refine WL_v rfl (ov_build rfl (run_build_lone _)) ?_
    refine WL_v rfl (ov_iface rfl mi_lone) ?_
    refine WL_v rfl (ov_assign rfl) ?_
    refine WL_nil ?_
    exact WT_ret1 Try.func115 Try.results115 rfl ⟨by simp [workV, h5], hH⟩
  first | with_reducible replace h5 := of_decide_eq_false h5 | with_reducible replace h5 := bn_F h5 | with_reducible replace h5 := bb_F h5 | skip
  refine WT_skip ?_
  refine WT_inBlock ?_
  refine WT_seq ?_
  refine WT_region ?_
  refine WL_v rfl (ov_assign rfl) ?_
  refine WL_nil ?_
  exact WT_ret1 Try.func115 Try.results115 rfl ⟨by simp [workV, h0, h1, h2, h3, h4, h5], hH⟩

theorem workV_nil (k : Int) : ((!kindOk k) = true ∧ workV k = .nilIface) ∨ ((!kindOk k) = false ∧ ∃ u z, workV k = .iface u z) := by
  rcases kindCases k with rfl | rfl | rfl | rfl | rfl | rfl | hk
  · exact .inr ⟨by decide, _, _, rfl⟩
  · exact .inr ⟨by decide, _, _, rfl⟩
  · exact .inr ⟨by decide, _, _, rfl⟩
  · exact .inr ⟨by decide, _, _, rfl⟩
  · exact .inr ⟨by decide, _, _, rfl⟩
  · exact .inr ⟨by decide, _, _, rfl⟩
  · refine .inl ⟨by simp [hk], ?_⟩
    have : ¬ (0 ≤ k ∧ k ≤ 5) := by simpa [kindOk] using hk
    unfold workV
    rw [if_neg (by omega), if_neg (by omega), if_neg (by omega), if_neg (by omega), if_neg (by omega), if_neg (by omega)]

theorem kindValid_ok (hH : H w h Ls) (k : Int) : Rets Try.prog 96 #[.int .i64 k] w fun v w' => v = .bool (kindOk k) ∧ H w' h Ls := by
  refine rets_enter Try.func96 rfl Try.ntmps96 (by simp) ?_
  refine WT_seq ?_
  refine WT_region ?_
  refine WL_v rfl (ov_assign rfl) ?_
  refine WL_nil ?_
  refine WT_seq ?_
  refine WT_region ?_
  refine WL_v rfl (ov_move rfl) ?_
  refine WL_call rfl rfl cf_impl_workOf (workOf_ok hH k) ?_; rintro _ w1 ⟨rfl, hH1⟩
  refine WL_v rfl (ov_neqNil rfl rfl Try.underlying133 (workV_nil k)) ?_
  refine WL_v rfl (ov_assign rfl) ?_
  refine WL_nil ?_
  exact WT_ret1 Try.func96 Try.results96 rfl ⟨by simp, hH1⟩

theorem cm_given (W : World) : (callMethod (.iface 144 (.agg #[])) "loop.example/workplans/impl.needs" #[]).run Try.prog W = .ok (.enter 174 #[.agg #[]]) W := by kernel_rfl
theorem cm_pair (f : Nat) (W : World) : (callMethod (.iface 137 (.agg #[.func (.func f) #[] #[]])) "loop.example/workplans/impl.needs" #[]).run Try.prog W = .ok (.enter 116 #[.agg #[.func (.func f) #[] #[]]]) W := by kernel_rfl
theorem cm_lone (f : Nat) (W : World) : (callMethod (.iface 139 (.agg #[.func (.func f) #[] #[]])) "loop.example/workplans/impl.needs" #[]).run Try.prog W = .ok (.enter 117 #[.agg #[.func (.func f) #[] #[]]]) W := by kernel_rfl

theorem needs_given (hH : H w h Ls) (u : Value) : Rets Try.prog 174 #[u] w fun v w' => v = .int .i64 0 ∧ H w' h Ls := by
  refine rets_enter Try.func174 rfl Try.ntmps174 (by simp) ?_
  refine WT_seq ?_
  refine WT_region ?_
  refine WL_box _ rfl hH rfl rfl ?_; rintro g w1 hH1
  refine WL_v rfl (ov_assign rfl) ?_
  refine WL_nil ?_
  refine WT_seq ?_
  refine WT_region ?_
  refine WL_v rfl (ov_assign rfl) ?_
  refine WL_nil ?_
  exact WT_ret1 Try.func174 Try.results174 rfl ⟨rfl, hH1.drop⟩
theorem needs_pair (hH : H w h Ls) (u : Value) : Rets Try.prog 116 #[u] w fun v w' => v = .int .i64 2 ∧ H w' h Ls := by
  refine rets_enter Try.func116 rfl Try.ntmps116 (by simp) ?_
  refine WT_seq ?_
  refine WT_region ?_
  refine WL_box _ rfl hH rfl rfl ?_; rintro g w1 hH1
  refine WL_v rfl (ov_assign rfl) ?_
  refine WL_nil ?_
  refine WT_seq ?_
  refine WT_region ?_
  refine WL_v rfl (ov_assign rfl) ?_
  refine WL_nil ?_
  exact WT_ret1 Try.func116 Try.results116 rfl ⟨rfl, hH1.drop⟩
theorem needs_lone (hH : H w h Ls) (u : Value) : Rets Try.prog 117 #[u] w fun v w' => v = .int .i64 1 ∧ H w' h Ls := by
  refine rets_enter Try.func117 rfl Try.ntmps117 (by simp) ?_
  refine WT_seq ?_
  refine WT_region ?_
  refine WL_box _ rfl hH rfl rfl ?_; rintro g w1 hH1
  refine WL_v rfl (ov_assign rfl) ?_
  refine WL_nil ?_
  refine WT_seq ?_
  refine WT_region ?_
  refine WL_v rfl (ov_assign rfl) ?_
  refine WL_nil ?_
  exact WT_ret1 Try.func117 Try.results117 rfl ⟨rfl, hH1.drop⟩

theorem needs_of (k : Int) (hk : kindOk k = true) : ∃ (f : Nat) (ws : List Value), (∀ W, (callMethod (workV k) "loop.example/workplans/impl.needs" #[]).run Try.prog W = .ok (.enter f ws.toArray) W) ∧
    ∀ {h : GH} {Ls : List Heaplet} {w : World}, H w h Ls → Rets Try.prog f ws.toArray w fun v w' => v = .int .i64 (kindNeeds k) ∧ H w' h Ls := by
  rcases (kindOk_iff k).1 hk with rfl | rfl | rfl | rfl | rfl | rfl
  · exact ⟨_, [_], fun W => cm_given W, fun hH => needs_given hH _⟩
  · exact ⟨_, [_], fun W => cm_pair _ W, fun hH => needs_pair hH _⟩
  · exact ⟨_, [_], fun W => cm_pair _ W, fun hH => needs_pair hH _⟩
  · exact ⟨_, [_], fun W => cm_lone _ W, fun hH => needs_lone hH _⟩
  · exact ⟨_, [_], fun W => cm_lone _ W, fun hH => needs_lone hH _⟩
  · exact ⟨_, [_], fun W => cm_lone _ W, fun hH => needs_lone hH _⟩

theorem kindNeeds_bad {k : Int} (hk : kindOk k = false) : kindNeeds k = -1 := by
  have : ¬ (0 ≤ k ∧ k ≤ 5) := by simpa [kindOk] using hk
  unfold kindNeeds
  rw [if_neg (by omega), if_neg (by omega), if_neg (by omega)]

theorem kindNeeds_ok (hH : H w h Ls) (k : Int) : Rets Try.prog 120 #[.int .i64 k] w fun v w' => v = .int .i64 (kindNeeds k) ∧ H w' h Ls := by
  refine rets_enter Try.func120 rfl Try.ntmps120 (by simp) ?_
  refine WT_seq ?_
  refine WT_region ?_
  refine WL_v rfl (ov_assign rfl) ?_
  refine WL_nil ?_
  refine WT_seq ?_
  refine WT_region ?_
  refine WL_v rfl (ov_move rfl) ?_
  refine WL_call rfl rfl cf_impl_workOf (workOf_ok hH k) ?_; rintro _ w1 ⟨rfl, hH1⟩
  refine WL_v rfl (ov_assign rfl) ?_
  refine WL_nil ?_
  refine WT_seq ?_
  refine WT_seq ?_
  refine WT_region ?_
  refine WL_v rfl (ov_move rfl) ?_
  refine WL_v rfl (ov_eqlNil rfl rfl Try.underlying133 (workV_nil k)) ?_
  refine WL_nil ?_
  refine WT_cond rfl (fun hk => ?_) (fun hk => ?_)
  · skip
    first | with_reducible replace hk := of_decide_eq_true hk | with_reducible replace hk := bn_T hk | with_reducible replace hk := bb_T hk | skip
    refine WT_seq ?_
    refine WT_region ?_
    refine WL_v rfl (ov_assign rfl) ?_
    refine WL_nil ?_
    exact WT_ret1 Try.func120 Try.results120 rfl ⟨by rw [kindNeeds_bad hk], hH1⟩
  first | with_reducible replace hk := of_decide_eq_false hk | with_reducible replace hk := bn_F hk | with_reducible replace hk := bb_F hk | skip
  obtain ⟨f, ws, hcm, hcall⟩ := needs_of k hk
  refine WT_skip ?_
  refine WT_seq ?_
  refine WT_region ?_
  refine WL_v rfl (ov_move rfl) ?_
  refine WL_invoke rfl rfl rfl (hcm) (hcall hH1) ?_; rintro _ w2 ⟨rfl, hH2⟩
  refine WL_v rfl (ov_assign rfl) ?_
  refine WL_nil ?_
  exact WT_ret1 Try.func120 Try.results120 rfl ⟨rfl, hH2⟩

theorem costKind_ok (hH : H w h Ls) (k : Int) : Rets Try.prog 54 #[.int .i64 k] w fun v w' => v = .int .i64 (costKind k) ∧ H w' h Ls := by
  refine rets_enter Try.func54 rfl Try.ntmps54 (by simp) ?_
  refine WT_seq ?_
  refine WT_region ?_
  refine WL_v rfl (ov_assign rfl) ?_
  refine WL_nil ?_
  refine WT_seq ?_
  refine WT_block ?_
  refine WT_seq ?_
  refine WT_region ?_
  refine WL_v rfl (ov_move rfl) ?_
  refine WL_call rfl rfl cf_impl_KindValid (kindValid_ok hH k) ?_; rintro _ w1 ⟨rfl, hH1⟩
  refine WL_v rfl (ov_not rfl) ?_
  refine WL_v rfl (ov_assign rfl) ?_
  refine WL_nil ?_
  refine WT_cond rfl (fun hk => ?_) (fun hk => ?_)
  · skip
    first | with_reducible replace hk := of_decide_eq_true hk | with_reducible replace hk := bn_T hk | with_reducible replace hk := bb_T hk | skip
    refine WT_seq ?_
    refine WT_region ?_
    refine WL_v rfl (ov_assign rfl) ?_
    refine WL_nil ?_
    exact WT_ret1 Try.func54 Try.results54 rfl ⟨by simp [costKind, hk], hH1⟩
  first | with_reducible replace hk := of_decide_eq_false hk | with_reducible replace hk := bn_F hk | with_reducible replace hk := bb_F hk | skip
  by_cases h0 : k = 0
  · skip
    refine WT_seq ?_
    refine WT_region ?_
    refine WL_v rfl (ov_move rfl) ?_
    refine WL_v rfl (ov_T (ov_eql rfl rfl) (by first | exact decide_eq_true h0 | exact nb_T h0 | exact mb_T h0 | exact h0 | (simp only [decide_eq_true_eq]; omega) | simpa using h0)) ?_
    refine WL_v rfl (ov_move rfl) ?_
    refine WL_guardOff rfl rfl rfl rfl ?_
    refine WL_guardOff rfl rfl rfl rfl ?_
    refine WL_v rfl (ov_pickT rfl rfl) ?_
    refine WL_v rfl (ov_assign rfl) ?_
    refine WL_nil ?_
    refine WT_condT rfl ?_
    refine WT_seq ?_
    refine WT_region ?_
    refine WL_v rfl (ov_assign rfl) ?_
    refine WL_nil ?_
    exact WT_ret1 Try.func54 Try.results54 rfl ⟨by rw [costKind, if_pos hk]; simp [kindCost, h0], hH1⟩
  by_cases h5 : k = 5
  · skip
    refine WT_seq ?_
    refine WT_region ?_
    refine WL_v rfl (ov_move rfl) ?_
    refine WL_v rfl (ov_F (ov_eql rfl rfl) (by first | exact decide_eq_false h0 | exact nb_F h0 | exact mb_F h0 | exact h0 | (simp only [decide_eq_false_iff_not]; omega) | simpa using h0)) ?_
    refine WL_v rfl (ov_move rfl) ?_
    refine WL_guardOn rfl rfl ?_
    refine WL_v rfl (ov_move rfl) ?_
    refine WL_guardOn rfl rfl ?_
    refine WL_v rfl (ov_T (ov_eql rfl rfl) (by first | exact decide_eq_true h5 | exact nb_T h5 | exact mb_T h5 | exact h5 | (simp only [decide_eq_true_eq]; omega) | simpa using h5)) ?_
    refine WL_v rfl (ov_pickF rfl rfl) ?_
    refine WL_v rfl (ov_assign rfl) ?_
    refine WL_nil ?_
    refine WT_condT rfl ?_
    refine WT_seq ?_
    refine WT_region ?_
    refine WL_v rfl (ov_assign rfl) ?_
    refine WL_nil ?_
    exact WT_ret1 Try.func54 Try.results54 rfl ⟨by rw [costKind, if_pos hk]; simp [kindCost, h5], hH1⟩
  refine WT_seq ?_
  refine WT_region ?_
  refine WL_v rfl (ov_move rfl) ?_
  refine WL_v rfl (ov_F (ov_eql rfl rfl) (by first | exact decide_eq_false h0 | exact nb_F h0 | exact mb_F h0 | exact h0 | (simp only [decide_eq_false_iff_not]; omega) | simpa using h0)) ?_
  refine WL_v rfl (ov_move rfl) ?_
  refine WL_guardOn rfl rfl ?_
  refine WL_v rfl (ov_move rfl) ?_
  refine WL_guardOn rfl rfl ?_
  refine WL_v rfl (ov_F (ov_eql rfl rfl) (by first | exact decide_eq_false h5 | exact nb_F h5 | exact mb_F h5 | exact h5 | (simp only [decide_eq_false_iff_not]; omega) | simpa using h5)) ?_
  refine WL_v rfl (ov_pickF rfl rfl) ?_
  refine WL_v rfl (ov_assign rfl) ?_
  refine WL_nil ?_
  refine WT_condF rfl ?_
  refine WT_seq ?_
  refine WT_region ?_
  refine WL_v rfl (ov_move rfl) ?_
  refine WL_v rfl (ov_eql rfl rfl) ?_
  refine WL_v rfl (ov_assign rfl) ?_
  refine WL_nil ?_
  refine WT_cond rfl (fun h4 => ?_) (fun h4 => ?_)
  · skip
    first | with_reducible replace h4 := of_decide_eq_true h4 | with_reducible replace h4 := bn_T h4 | with_reducible replace h4 := bb_T h4 | skip
    refine WT_seq ?_
    refine WT_region ?_
    refine WL_v rfl (ov_assign rfl) ?_
    refine WL_nil ?_
    exact WT_ret1 Try.func54 Try.results54 rfl ⟨by rw [costKind, if_pos hk]; simp [kindCost, h4], hH1⟩
  first | with_reducible replace h4 := of_decide_eq_false h4 | with_reducible replace h4 := bn_F h4 | with_reducible replace h4 := bb_F h4 | skip
  refine WT_skip ?_
  refine WT_inBlock ?_
  refine WT_seq ?_
  refine WT_region ?_
  refine WL_v rfl (ov_assign rfl) ?_
  refine WL_nil ?_
  exact WT_ret1 Try.func54 Try.results54 rfl ⟨by rw [costKind, if_pos hk]; simp [kindCost, h0, h4, h5], hH1⟩

theorem l6In_ok (hH : H w h Ls) (n lo hi : Int) : Rets Try.prog 88 #[.int .i64 n, .int .i64 lo, .int .i64 hi] w fun v w' => v = .bool (decide (lo ≤ n ∧ n ≤ hi)) ∧ H w' h Ls := by
  refine rets_enter Try.func88 rfl Try.ntmps88 (by simp) ?_
  by_cases h0 : lo ≤ n
  · skip
    refine WT_seq ?_
    refine WT_region ?_
    refine WL_v rfl (ov_assign rfl) ?_
    refine WL_nil ?_
    refine WT_seq ?_
    refine WT_region ?_
    refine WL_v rfl (ov_move rfl) ?_
    refine WL_v rfl (ov_move rfl) ?_
    refine WL_v rfl (ov_T (ov_geq rfl rfl) (by first | exact decide_eq_true h0 | exact nb_T h0 | exact mb_T h0 | exact h0 | (simp only [decide_eq_true_eq]; omega) | simpa using h0)) ?_
    refine WL_v rfl (ov_move rfl) ?_
    refine WL_guardOn rfl rfl ?_
    refine WL_v rfl (ov_move rfl) ?_
    refine WL_guardOn rfl rfl ?_
    refine WL_v rfl (ov_move rfl) ?_
    refine WL_guardOn rfl rfl ?_
    refine WL_v rfl (ov_leq rfl rfl) ?_
    refine WL_v rfl (ov_pickT rfl rfl) ?_
    refine WL_v rfl (ov_assign rfl) ?_
    refine WL_nil ?_
    exact WT_ret1 Try.func88 Try.results88 rfl ⟨by simp [h0], hH⟩
  refine WT_seq ?_
  refine WT_region ?_
  refine WL_v rfl (ov_assign rfl) ?_
  refine WL_nil ?_
  refine WT_seq ?_
  refine WT_region ?_
  refine WL_v rfl (ov_move rfl) ?_
  refine WL_v rfl (ov_move rfl) ?_
  refine WL_v rfl (ov_F (ov_geq rfl rfl) (by first | exact decide_eq_false h0 | exact nb_F h0 | exact mb_F h0 | exact h0 | (simp only [decide_eq_false_iff_not]; omega) | simpa using h0)) ?_
  refine WL_v rfl (ov_move rfl) ?_
  refine WL_guardOff rfl rfl rfl rfl ?_
  refine WL_guardOff rfl rfl rfl rfl ?_
  refine WL_guardOff rfl rfl rfl rfl ?_
  refine WL_v rfl (ov_pickF rfl rfl) ?_
  refine WL_v rfl (ov_assign rfl) ?_
  refine WL_nil ?_
  exact WT_ret1 Try.func88 Try.results88 rfl ⟨by simp [h0], hH⟩

theorem sKindValid_ok (hH : H w h Ls) (k : Int) : Rets Try.prog 119 #[.int .i64 k] w fun v w' => v = .bool (kindOk k) ∧ H w' h Ls := by
  refine rets_enter Try.func119 rfl Try.ntmps119 (by simp) ?_
  refine WT_seq ?_
  refine WT_region ?_
  refine WL_v rfl (ov_assign rfl) ?_
  refine WL_nil ?_
  refine WT_seq ?_
  refine WT_region ?_
  refine WL_v rfl (ov_move rfl) ?_
  refine WL_call rfl rfl cf_spec_l6In (l6In_ok hH k 0 5) ?_; rintro _ w1 ⟨rfl, hH1⟩
  refine WL_v rfl (ov_assign rfl) ?_
  refine WL_nil ?_
  exact WT_ret1 Try.func119 Try.results119 rfl ⟨rfl, hH1⟩

theorem sKindNeeds_ok (hH : H w h Ls) (k : Int) : Rets Try.prog 106 #[.int .i64 k] w fun v w' => v = .int .i64 (kindNeeds k) ∧ H w' h Ls := by
  refine rets_enter Try.func106 rfl Try.ntmps106 (by simp) ?_
  refine WT_seq ?_
  refine WT_region ?_
  refine WL_v rfl (ov_assign rfl) ?_
  refine WL_nil ?_
  refine WT_seq ?_
  refine WT_block ?_
  refine WT_seq ?_
  refine WT_region ?_
  refine WL_v rfl (ov_move rfl) ?_
  refine WL_call rfl rfl cf_spec_KindValid (sKindValid_ok hH k) ?_; rintro _ w1 ⟨rfl, hH1⟩
  refine WL_v rfl (ov_not rfl) ?_
  refine WL_v rfl (ov_assign rfl) ?_
  refine WL_nil ?_
  refine WT_cond rfl (fun hk => ?_) (fun hk => ?_)
  · skip
    first | with_reducible replace hk := of_decide_eq_true hk | with_reducible replace hk := bn_T hk | with_reducible replace hk := bb_T hk | skip
    refine WT_seq ?_
    refine WT_region ?_
    refine WL_v rfl (ov_assign rfl) ?_
    refine WL_nil ?_
    exact WT_ret1 Try.func106 Try.results106 rfl ⟨by rw [kindNeeds_bad hk], hH1⟩
  first | with_reducible replace hk := of_decide_eq_false hk | with_reducible replace hk := bn_F hk | with_reducible replace hk := bb_F hk | skip
  have hk' := (kindOk_iff k).1 hk
  refine WT_seq ?_
  refine WT_region ?_
  refine WL_v rfl (ov_move rfl) ?_
  refine WL_v rfl (ov_eql rfl rfl) ?_
  refine WL_v rfl (ov_assign rfl) ?_
  refine WL_nil ?_
  refine WT_cond rfl (fun h0 => ?_) (fun h0 => ?_)
  · skip
    first | with_reducible replace h0 := of_decide_eq_true h0 | with_reducible replace h0 := bn_T h0 | with_reducible replace h0 := bb_T h0 | skip
    refine WT_seq ?_
    refine WT_region ?_
    refine WL_v rfl (ov_assign rfl) ?_
    refine WL_nil ?_
    exact WT_ret1 Try.func106 Try.results106 rfl ⟨by simp [kindNeeds, h0], hH1⟩
  first | with_reducible replace h0 := of_decide_eq_false h0 | with_reducible replace h0 := bn_F h0 | with_reducible replace h0 := bb_F h0 | skip
  by_cases h1 : k = 1
  · skip
    refine WT_seq ?_
    refine WT_region ?_
    refine WL_v rfl (ov_move rfl) ?_
    refine WL_v rfl (ov_T (ov_eql rfl rfl) (by first | exact decide_eq_true h1 | exact nb_T h1 | exact mb_T h1 | exact h1 | (simp only [decide_eq_true_eq]; omega) | simpa using h1)) ?_
    refine WL_v rfl (ov_move rfl) ?_
    refine WL_guardOff rfl rfl rfl rfl ?_
    refine WL_guardOff rfl rfl rfl rfl ?_
    refine WL_v rfl (ov_pickT rfl rfl) ?_
    refine WL_v rfl (ov_assign rfl) ?_
    refine WL_nil ?_
    refine WT_condT rfl ?_
    refine WT_seq ?_
    refine WT_region ?_
    refine WL_v rfl (ov_assign rfl) ?_
    refine WL_nil ?_
    exact WT_ret1 Try.func106 Try.results106 rfl ⟨by simp [kindNeeds, h1], hH1⟩
  refine WT_seq ?_
  refine WT_region ?_
  refine WL_v rfl (ov_move rfl) ?_
  refine WL_v rfl (ov_F (ov_eql rfl rfl) (by first | exact decide_eq_false h1 | exact nb_F h1 | exact mb_F h1 | exact h1 | (simp only [decide_eq_false_iff_not]; omega) | simpa using h1)) ?_
  refine WL_v rfl (ov_move rfl) ?_
  refine WL_guardOn rfl rfl ?_
  refine WL_v rfl (ov_move rfl) ?_
  refine WL_guardOn rfl rfl ?_
  refine WL_v rfl (ov_eql rfl rfl) ?_
  refine WL_v rfl (ov_pickF rfl rfl) ?_
  refine WL_v rfl (ov_assign rfl) ?_
  refine WL_nil ?_
  refine WT_cond rfl (fun h2 => ?_) (fun h2 => ?_)
  · skip
    first | with_reducible replace h2 := of_decide_eq_true h2 | with_reducible replace h2 := bn_T h2 | with_reducible replace h2 := bb_T h2 | skip
    refine WT_seq ?_
    refine WT_region ?_
    refine WL_v rfl (ov_assign rfl) ?_
    refine WL_nil ?_
    exact WT_ret1 Try.func106 Try.results106 rfl ⟨by simp [kindNeeds, h2], hH1⟩
  first | with_reducible replace h2 := of_decide_eq_false h2 | with_reducible replace h2 := bn_F h2 | with_reducible replace h2 := bb_F h2 | skip
  refine WT_skip ?_
  refine WT_inBlock ?_
  refine WT_seq ?_
  refine WT_region ?_
  refine WL_v rfl (ov_assign rfl) ?_
  refine WL_nil ?_
  exact WT_ret1 Try.func106 Try.results106 rfl ⟨by rw [kindNeeds, if_neg h0, if_neg (by omega), if_pos (by omega)], hH1⟩

theorem l31Cost_ok (hH : H w h Ls) (k : Int) : Rets Try.prog 64 #[.int .i64 k] w fun v w' => v = .int .i64 (kindCost k) ∧ H w' h Ls := by
  refine rets_enter Try.func64 rfl Try.ntmps64 (by simp) ?_
  by_cases h0 : k = 0
  · skip
    refine WT_seq ?_
    refine WT_region ?_
    refine WL_v rfl (ov_assign rfl) ?_
    refine WL_nil ?_
    refine WT_seq ?_
    refine WT_seq ?_
    refine WT_region ?_
    refine WL_v rfl (ov_move rfl) ?_
    refine WL_nil ?_
    refine WT_block ?_
    refine WT_seq ?_
    refine WT_seq ?_
    refine WT_region ?_
    refine WL_v rfl (ov_T (ov_eql rfl rfl) (by first | exact decide_eq_true h0 | exact nb_T h0 | exact mb_T h0 | exact h0 | (simp only [decide_eq_true_eq]; omega) | simpa using h0)) ?_
    refine WL_v rfl (ov_assign rfl) ?_
    refine WL_nil ?_
    refine WT_condT rfl ?_
    refine WT_skip ?_
    refine WT_condT rfl ?_
    refine WT_seq ?_
    refine WT_region ?_
    refine WL_v rfl (ov_assign rfl) ?_
    refine WL_nil ?_
    exact WT_ret1 Try.func64 Try.results64 rfl ⟨by simp [kindCost, h0], hH⟩
  by_cases h5 : k = 5
  · skip
    refine WT_seq ?_
    refine WT_region ?_
    refine WL_v rfl (ov_assign rfl) ?_
    refine WL_nil ?_
    refine WT_seq ?_
    refine WT_seq ?_
    refine WT_region ?_
    refine WL_v rfl (ov_move rfl) ?_
    refine WL_nil ?_
    refine WT_block ?_
    refine WT_seq ?_
    refine WT_seq ?_
    refine WT_region ?_
    refine WL_v rfl (ov_F (ov_eql rfl rfl) (by first | exact decide_eq_false h0 | exact nb_F h0 | exact mb_F h0 | exact h0 | (simp only [decide_eq_false_iff_not]; omega) | simpa using h0)) ?_
    refine WL_v rfl (ov_assign rfl) ?_
    refine WL_nil ?_
    refine WT_condF rfl ?_
    refine WT_region ?_
    refine WL_v rfl (ov_T (ov_eql rfl rfl) (by first | exact decide_eq_true h5 | exact nb_T h5 | exact mb_T h5 | exact h5 | (simp only [decide_eq_true_eq]; omega) | simpa using h5)) ?_
    refine WL_v rfl (ov_assign rfl) ?_
    refine WL_nil ?_
    refine WT_condT rfl ?_
    refine WT_seq ?_
    refine WT_region ?_
    refine WL_v rfl (ov_assign rfl) ?_
    refine WL_nil ?_
    exact WT_ret1 Try.func64 Try.results64 rfl ⟨by simp [kindCost, h5], hH⟩
  refine WT_seq ?_
  refine WT_region ?_
  refine WL_v rfl (ov_assign rfl) ?_
  refine WL_nil ?_
  refine WT_seq ?_
  refine WT_seq ?_
  refine WT_region ?_
  refine WL_v rfl (ov_move rfl) ?_
  refine WL_nil ?_
  refine WT_block ?_
  refine WT_seq ?_
  refine WT_seq ?_
  refine WT_region ?_
  refine WL_v rfl (ov_F (ov_eql rfl rfl) (by first | exact decide_eq_false h0 | exact nb_F h0 | exact mb_F h0 | exact h0 | (simp only [decide_eq_false_iff_not]; omega) | simpa using h0)) ?_
  refine WL_v rfl (ov_assign rfl) ?_
  refine WL_nil ?_
  refine WT_condF rfl ?_
  refine WT_region ?_
  refine WL_v rfl (ov_F (ov_eql rfl rfl) (by first | exact decide_eq_false h5 | exact nb_F h5 | exact mb_F h5 | exact h5 | (simp only [decide_eq_false_iff_not]; omega) | simpa using h5)) ?_
  refine WL_v rfl (ov_assign rfl) ?_
  refine WL_nil ?_
  refine WT_condF rfl ?_
  refine WT_seq ?_
  refine WT_region ?_
  refine WL_v rfl (ov_eql rfl rfl) ?_
  refine WL_v rfl (ov_assign rfl) ?_
  refine WL_nil ?_
  refine WT_cond rfl (fun h4 => ?_) (fun h4 => ?_)
  · skip
    first | with_reducible replace h4 := of_decide_eq_true h4 | with_reducible replace h4 := bn_T h4 | with_reducible replace h4 := bb_T h4 | skip
    refine WT_seq ?_
    refine WT_region ?_
    refine WL_v rfl (ov_assign rfl) ?_
    refine WL_nil ?_
    exact WT_ret1 Try.func64 Try.results64 rfl ⟨by simp [kindCost, h4], hH⟩
  first | with_reducible replace h4 := of_decide_eq_false h4 | with_reducible replace h4 := bn_F h4 | with_reducible replace h4 := bb_F h4 | skip
  refine WT_skip ?_
  refine WT_inBlock ?_
  refine WT_seq ?_
  refine WT_region ?_
  refine WL_v rfl (ov_assign rfl) ?_
  refine WL_nil ?_
  exact WT_ret1 Try.func64 Try.results64 rfl ⟨by simp [kindCost, h0, h4, h5], hH⟩

end
end Go.Proofs.Ytmcedghgincaaaa
