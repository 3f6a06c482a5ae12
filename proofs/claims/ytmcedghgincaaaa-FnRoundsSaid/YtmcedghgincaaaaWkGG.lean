/- Walks: the rounds. -/
import Derived.Test.YtmcedghgincaaaaWkCC
import Derived.Test.YtmcedghgincaaaaWkV
import Derived.Test.YtmcedghgincaaaaPlP
namespace Go.Proofs.Ytmcedghgincaaaa
open Go.RowKit

section
variable {h : GH} {Ls : List Heaplet} {w : World}

theorem IRow.hi {X : Heaplet} {e : TypeId} {v : Value} {xs : List Int} {n : Nat} (hX : IRow X e v xs) (hn : n ≤ xs.length) : IRow X e (reslice v 0 n 1) (xs.take n) := by
  have h1 := Row.reslice hX (lo := 0) (hi := n) (by omega) hn
  unfold IRow
  rw [List.length_take, Nat.min_eq_left hn, List.map_take]
  simpa using h1

theorem workersFit_ok (hH : H w h Ls) (n : Int) : Rets Try.prog 87 #[.int .i64 n] w fun v w' => v = .bool (decide (1 ≤ n ∧ n ≤ 4)) ∧ H w' h Ls := by
  refine rets_enter Try.func87 rfl Try.ntmps87 (by simp) ?_
  by_cases h1 : 1 ≤ n
  case neg =>
    refine WT_seq ?_
    refine WT_region ?_
    refine WL_v rfl (ov_assign rfl) ?_
    refine WL_nil ?_
    refine WT_seq ?_
    refine WT_region ?_
    refine WL_v rfl (ov_move rfl) ?_
    refine WL_v rfl (ov_F (ov_geq rfl rfl) (by first | exact decide_eq_false h1 | exact nb_F h1 | exact mb_F h1 | exact h1 | (simp only [decide_eq_false_iff_not]; omega) | simpa using h1)) ?_
    refine WL_v rfl (ov_move rfl) ?_
    refine WL_guardOff rfl rfl rfl rfl ?_
    refine WL_guardOff rfl rfl rfl rfl ?_
    refine WL_v rfl (ov_pickF rfl rfl) ?_
    refine WL_v rfl (ov_assign rfl) ?_
    refine WL_nil ?_
    exact WT_ret1 Try.func87 Try.results87 rfl ⟨by rw [decide_eq_false (fun hh => h1 hh.1)], hH⟩
  refine WT_seq ?_
  refine WT_region ?_
  refine WL_v rfl (ov_assign rfl) ?_
  refine WL_nil ?_
  refine WT_seq ?_
  refine WT_region ?_
  refine WL_v rfl (ov_move rfl) ?_
  refine WL_v rfl (ov_T (ov_geq rfl rfl) (by first | exact decide_eq_true h1 | exact nb_T h1 | exact mb_T h1 | exact h1 | (simp only [decide_eq_true_eq]; omega) | simpa using h1)) ?_
  refine WL_v rfl (ov_move rfl) ?_
  refine WL_guardOn rfl rfl ?_
  refine WL_v rfl (ov_move rfl) ?_
  refine WL_guardOn rfl rfl ?_
  refine WL_v rfl (ov_leq rfl rfl) ?_
  refine WL_v rfl (ov_pickT rfl rfl) ?_
  refine WL_v rfl (ov_assign rfl) ?_
  refine WL_nil ?_
  exact WT_ret1 Try.func87 Try.results87 rfl ⟨congrArg Value.bool (decide_eq_decide.2 (by omega)), hH⟩

/-- The rounds may be counted. -/
def turnsOk (p : List Nd) (n : Int) : Bool := planOk p && decide (1 ≤ n ∧ n ≤ 4)
/-- What the rounds are. -/
def TurnsV (p : List Nd) (n : Int) (v : Value) : Prop := (turnsOk p n = false ∧ v = .tuple #[.int .i64 0, .bool false]) ∨ ∃ k r : Nat, n = (k : Int) ∧ turnsOk p n = true ∧ Rounds p k r ∧ v = .tuple #[.int .i64 (r : Int), .bool true]

theorem schedule_ok (hH : H w h Ls) {pv : Value} {p : List Nd} (hP : Plan h pv p) (n : Int) : Rets Try.prog 42 #[pv, .int .i64 n] w fun v w' => TurnsV p n v ∧ H w' h Ls := by
  refine rets_enter Try.func42 rfl Try.ntmps42 (by simp) ?_
  by_cases hv : planOk p = true
  case neg =>
    have hv' : planOk p = false := by simpa using hv
    refine WT_seq ?_
    refine WT_region ?_
    refine WL_v rfl (ov_assign rfl) ?_
    refine WL_v rfl (ov_assign rfl) ?_
    refine WL_nil ?_
    refine WT_seq ?_
    refine WT_seq ?_
    refine WT_region ?_
    refine WL_v rfl (ov_move rfl) ?_
    refine WL_call rfl rfl cf_impl_PlanValid (planValid_ok hH hP) ?_; rintro _ w1 ⟨rfl, hH1⟩
    refine WL_v rfl (ov_T (ov_not rfl) (by first | exact decide_eq_true hv' | exact nb_T hv' | exact mb_T hv' | exact hv' | (simp only [decide_eq_true_eq]; omega) | simpa using hv')) ?_
    refine WL_v rfl (ov_move rfl) ?_
    refine WL_guardOff rfl rfl rfl rfl ?_
    refine WL_guardOff rfl rfl rfl rfl ?_
    refine WL_guardOff rfl rfl rfl rfl ?_
    refine WL_v rfl (ov_pickT rfl rfl) ?_
    refine WL_nil ?_
    refine WT_condT rfl ?_
    refine WT_seq ?_
    refine WT_region ?_
    refine WL_v rfl (ov_assign rfl) ?_
    refine WL_v rfl (ov_assign rfl) ?_
    refine WL_nil ?_
    exact WT_ret2 Try.func42 Try.results42 rfl rfl ⟨.inl ⟨by unfold turnsOk; rw [hv']; rfl, rfl⟩, hH1⟩
  refine WT_seq ?_
  refine WT_region ?_
  refine WL_v rfl (ov_assign rfl) ?_
  refine WL_v rfl (ov_assign rfl) ?_
  refine WL_nil ?_
  refine WT_seq ?_
  refine WT_seq ?_
  refine WT_region ?_
  refine WL_v rfl (ov_move rfl) ?_
  refine WL_call rfl rfl cf_impl_PlanValid (planValid_ok hH hP) ?_; rintro _ w1 ⟨rfl, hH1⟩
  refine WL_v rfl (ov_F (ov_not rfl) (by first | exact decide_eq_false hv | exact nb_F hv | exact mb_F hv | exact hv | (simp only [decide_eq_false_iff_not]; omega) | simpa using hv)) ?_
  refine WL_v rfl (ov_move rfl) ?_
  refine WL_guardOn rfl rfl ?_
  refine WL_v rfl (ov_move rfl) ?_
  refine WL_guardOn rfl rfl ?_
  refine WL_call rfl rfl cf_impl_workersFit (workersFit_ok hH1 n) ?_; rintro _ w2 ⟨rfl, hH2⟩
  refine WL_guardOn rfl rfl ?_
  refine WL_v rfl (ov_not rfl) ?_
  refine WL_v rfl (ov_pickF rfl rfl) ?_
  refine WL_nil ?_
  refine WT_cond rfl (fun hn => ?_) (fun hn => ?_)
  · skip
    first | with_reducible replace hn := of_decide_eq_true hn | with_reducible replace hn := bn_T hn | with_reducible replace hn := bb_T hn | skip
    have hn' : ¬ (1 ≤ n ∧ n ≤ 4) := by simpa using hn
    refine WT_seq ?_
    refine WT_region ?_
    refine WL_v rfl (ov_assign rfl) ?_
    refine WL_v rfl (ov_assign rfl) ?_
    refine WL_nil ?_
    exact WT_ret2 Try.func42 Try.results42 rfl rfl ⟨.inl ⟨by unfold turnsOk; rw [decide_eq_false hn', Bool.and_false], rfl⟩, hH2⟩
  first | with_reducible replace hn := of_decide_eq_false hn | with_reducible replace hn := bn_F hn | with_reducible replace hn := bb_F hn | skip
  have hn' : 1 ≤ n ∧ n ≤ 4 := by simpa using hn
  have hok : turnsOk p n = true := by unfold turnsOk; rw [hv, decide_eq_true hn']; rfl
  have hlen := PlanOk.len hv
  obtain ⟨k, hk⟩ := Int.eq_ofNat_of_zero_le (show 0 ≤ n by omega)
  subst hk
  refine WT_skip ?_
  refine WT_seq ?_
  refine WT_region ?_
  refine WL_v rfl (ov_assign rfl) ?_
  refine WL_nil ?_
  refine WT_seq ?_
  refine WT_region ?_
  refine WL_v rfl (ov_assign rfl) ?_
  refine WL_nil ?_
  refine WT_seq ?_
  refine WT_block ?_
  refine WT_while (fun s : Nat × Value => [(0, pv), (1, .int .i64 (k : Int)), (6, s.2), (7, .int .i64 (s.1 : Int))]) (fun s w => (∀ j, j < s.1 → (roundAt p k j).length < p.length) ∧ ∃ X, IRow X 3 s.2 (roundAt p k s.1) ∧ H w h (X :: Ls)) (fun s => p.length - (roundAt p k s.1).length) (0, .slice none 0 0) (by repeat (first | exact trivial | refine ⟨rfl, ?_⟩)) ⟨by simp, [], IRow.nil _, hH2.nilIn⟩ ?_
  clear hH hH1 hH2
  rintro ⟨r, sv⟩ w3 ⟨hr, X, hX, hH⟩ again
  simp only at hr hX
  have hcl := Closed.round p k r
  have hln := hcl.len
  refine WT_seq ?_
  refine WT_seq ?_
  refine WT_region ?_
  refine WL_v rfl (ov_move rfl) ?_
  refine WL_v rfl (ov_len rfl hX.sl st_sl_int) ?_
  refine WL_v rfl (ov_move rfl) ?_
  refine WL_v rfl (ov_len rfl hP.sl st_sl_impl_Node) ?_
  refine WL_v rfl (ov_lss rfl rfl) ?_
  refine WL_nil ?_
  refine WT_cond rfl (fun hc => ?_) (fun hc => ?_)
  · skip
    first | with_reducible replace hc := of_decide_eq_true hc | with_reducible replace hc := bn_T hc | with_reducible replace hc := bb_T hc | skip
    have hlt : (roundAt p k r).length < p.length := by omega
    have hup := roundAt_lt hv (k := k) (by omega) hlt
    have hr2 : readyOf p (roundAt p k r) = toI (readyL p (roundAt p k r)) := by unfold readyOf; rw [if_pos hv]
    have hrl := readyL_len p (roundAt p k r)
    have htl := toI_len (readyL p (roundAt p k r))
    have hrb : r ≤ (roundAt p k r).length := by
      have h1 : ∀ j, j ≤ r → j ≤ (roundAt p k j).length := by
        intro j
        induction j with
        | zero => intro _; omega
        | succ j ih =>
          intro hj
          have h2 := ih (by omega)
          have h3 := roundAt_lt hv (k := k) (by omega) (hr j (by omega))
          omega
      exact h1 r (Nat.le_refl _)
    refine WT_skip ?_
    refine WT_block ?_
    refine WT_seq ?_
    refine WT_region ?_
    refine WL_v rfl (ov_move rfl) ?_
    refine WL_v rfl (ov_move rfl) ?_
    refine WL_call rfl rfl cf_impl_ReadyOf (readyOf_ok hH hP (hX.rdl (i := 0) rfl) (by omega)) ?_; rintro rv w4 ⟨Y, hY, hH4⟩
    refine WL_v rfl (ov_assign rfl) ?_
    refine WL_nil ?_
    refine WT_seq ?_
    refine WT_region ?_
    refine WL_v rfl (ov_move rfl) ?_
    refine WL_v rfl (ov_move rfl) ?_
    refine WL_v rfl (ov_move rfl) ?_
    refine WL_v rfl (ov_move rfl) ?_
    rw [hr2] at hY
    have hmn : min (k : Int) ((toI (readyL p (roundAt p k r))).length : Int) = ((min k (toI (readyL p (roundAt p k r))).length : Nat) : Int) := by omega
    have hY2 := hY.hi (n := min k (toI (readyL p (roundAt p k r))).length) (Nat.min_le_right _ _)
    have hst : roundAt p k (r + 1) = roundAt p k r ++ (toI (readyL p (roundAt p k r))).take (min k (toI (readyL p (roundAt p k r))).length) := by
      show _ ++ (toI (readyL p (roundAt p k r))).take k = _
      rw [List.take_eq_take_min]
    have hl2 : ((toI (readyL p (roundAt p k r))).take (min k (toI (readyL p (roundAt p k r))).length)).length ≤ 10 := by rw [List.length_take]; omega
    refine WL_v rfl (ov_len rfl hY.sl st_sl_int) ?_
    refine WL_v rfl (ov_as (ov_min rfl rfl) (congrArg (Value.int .i64) hmn)) ?_
    refine WL_v rfl (ov_sliceHi rfl rfl st_sl_int hY.sl (Nat.min_le_right _ _)) ?_
    refine WL_appI (i := 1) (j := 0) rfl hH4 rfl rfl st_sl_int rfl hX rfl hY2 (by omega) (by omega) ?_; rintro X2 sv2 w5 hX2 hH5
    refine WL_v rfl (ov_assign rfl) ?_
    refine WL_nil ?_
    refine WT_region ?_
    refine WL_v rfl (ov_move rfl) ?_
    refine WL_v rfl (ov_as (ov_add rfl rfl (by omega)) (congrArg (Value.int .i64) ((show (r : Int) + 1 = ((r + 1 : Nat) : Int) by omega)))) ?_
    refine WL_v rfl (ov_assign rfl) ?_
    refine WL_nil ?_
    refine WT_inBlock ?_
    refine again (r + 1, sv2) _ _ (by simp only; omega) (by repeat (first | exact trivial | refine ⟨rfl, ?_⟩)) ⟨fun j hj => ?_, X2, by rw [hst]; exact hX2, hH5.drop⟩
    rcases Nat.lt_or_ge j r with h1 | h1
    · exact hr j h1
    · obtain rfl : j = r := by simp only at hj; omega
      exact hlt
  first | with_reducible replace hc := of_decide_eq_false hc | with_reducible replace hc := bn_F hc | with_reducible replace hc := bb_F hc | skip
  refine WT_exit rfl ?_
  refine WT_seq ?_
  refine WT_region ?_
  refine WL_v rfl (ov_move rfl) ?_
  refine WL_v rfl (ov_assign rfl) ?_
  refine WL_v rfl (ov_assign rfl) ?_
  refine WL_nil ?_
  exact WT_ret2 Try.func42 Try.results42 rfl rfl ⟨.inr ⟨k, r, rfl, hok, ⟨by omega, hr⟩, rfl⟩, hH.drop⟩

theorem sSchedule_ok (hH : H w h Ls) {pv : Value} {p : List Nd} (hP : Plan h pv p) (hl : p.length ≤ 1000000000) (n : Int) : Rets Try.prog 43 #[pv, .int .i64 n] w fun v w' => TurnsV p n v ∧ H w' h Ls := by
  refine rets_enter Try.func43 rfl Try.ntmps43 (by simp) ?_
  by_cases hv : planOk p = true
  case neg =>
    have hv' : planOk p = false := by simpa using hv
    refine WT_seq ?_
    refine WT_region ?_
    refine WL_v rfl (ov_assign rfl) ?_
    refine WL_v rfl (ov_assign rfl) ?_
    refine WL_nil ?_
    refine WT_seq ?_
    refine WT_seq ?_
    refine WT_region ?_
    refine WL_v rfl (ov_move rfl) ?_
    refine WL_call rfl rfl cf_spec_PlanValid (sPlanValid_ok hH hP hl) ?_; rintro _ w1 ⟨rfl, hH1⟩
    refine WL_v rfl (ov_T (ov_not rfl) (by first | exact decide_eq_true hv' | exact nb_T hv' | exact mb_T hv' | exact hv' | (simp only [decide_eq_true_eq]; omega) | simpa using hv')) ?_
    refine WL_v rfl (ov_move rfl) ?_
    refine WL_guardOff rfl rfl rfl rfl ?_
    refine WL_guardOff rfl rfl rfl rfl ?_
    refine WL_guardOff rfl rfl rfl rfl ?_
    refine WL_v rfl (ov_pickT rfl rfl) ?_
    refine WL_nil ?_
    refine WT_condT rfl ?_
    refine WT_seq ?_
    refine WT_region ?_
    refine WL_v rfl (ov_assign rfl) ?_
    refine WL_v rfl (ov_assign rfl) ?_
    refine WL_nil ?_
    exact WT_ret2 Try.func43 Try.results43 rfl rfl ⟨.inl ⟨by unfold turnsOk; rw [hv']; rfl, rfl⟩, hH1⟩
  refine WT_seq ?_
  refine WT_region ?_
  refine WL_v rfl (ov_assign rfl) ?_
  refine WL_v rfl (ov_assign rfl) ?_
  refine WL_nil ?_
  refine WT_seq ?_
  refine WT_seq ?_
  refine WT_region ?_
  refine WL_v rfl (ov_move rfl) ?_
  refine WL_call rfl rfl cf_spec_PlanValid (sPlanValid_ok hH hP hl) ?_; rintro _ w1 ⟨rfl, hH1⟩
  refine WL_v rfl (ov_F (ov_not rfl) (by first | exact decide_eq_false hv | exact nb_F hv | exact mb_F hv | exact hv | (simp only [decide_eq_false_iff_not]; omega) | simpa using hv)) ?_
  refine WL_v rfl (ov_move rfl) ?_
  refine WL_guardOn rfl rfl ?_
  refine WL_v rfl (ov_move rfl) ?_
  refine WL_guardOn rfl rfl ?_
  refine WL_call rfl rfl cf_spec_l6In (l6In_ok hH1 n 1 4) ?_; rintro _ w2 ⟨rfl, hH2⟩
  refine WL_guardOn rfl rfl ?_
  refine WL_v rfl (ov_not rfl) ?_
  refine WL_v rfl (ov_pickF rfl rfl) ?_
  refine WL_nil ?_
  refine WT_cond rfl (fun hn => ?_) (fun hn => ?_)
  · skip
    first | with_reducible replace hn := of_decide_eq_true hn | with_reducible replace hn := bn_T hn | with_reducible replace hn := bb_T hn | skip
    have hn' : ¬ (1 ≤ n ∧ n ≤ 4) := by simpa using hn
    refine WT_seq ?_
    refine WT_region ?_
    refine WL_v rfl (ov_assign rfl) ?_
    refine WL_v rfl (ov_assign rfl) ?_
    refine WL_nil ?_
    exact WT_ret2 Try.func43 Try.results43 rfl rfl ⟨.inl ⟨by unfold turnsOk; rw [decide_eq_false hn', Bool.and_false], rfl⟩, hH2⟩
  first | with_reducible replace hn := of_decide_eq_false hn | with_reducible replace hn := bn_F hn | with_reducible replace hn := bb_F hn | skip
  have hn' : 1 ≤ n ∧ n ≤ 4 := by simpa using hn
  have hok : turnsOk p n = true := by unfold turnsOk; rw [hv, decide_eq_true hn']; rfl
  have hlen := PlanOk.len hv
  obtain ⟨k, hk⟩ := Int.eq_ofNat_of_zero_le (show 0 ≤ n by omega)
  subst hk
  refine WT_skip ?_
  refine WT_seq ?_
  refine WT_region ?_
  refine WL_bsI0 rfl hH2 run_bs_int0 ?_; rintro X0 sv0 w3 hX0 hH3
  refine WL_v rfl (ov_assign rfl) ?_
  refine WL_nil ?_
  refine WT_seq ?_
  refine WT_region ?_
  refine WL_v rfl (ov_assign rfl) ?_
  refine WL_nil ?_
  refine WT_seq ?_
  refine WT_block ?_
  refine WT_while (fun s : Nat × Value => [(0, pv), (1, .int .i64 (k : Int)), (6, s.2), (7, .int .i64 (s.1 : Int))]) (fun s w => (∀ j, j < s.1 → (roundAt p k j).length < p.length) ∧ ∃ X, IRow X 3 s.2 (roundAt p k s.1) ∧ H w h (X :: Ls)) (fun s => p.length - (roundAt p k s.1).length) (0, sv0) (by repeat (first | exact trivial | refine ⟨rfl, ?_⟩)) ⟨by simp, X0, hX0, hH3⟩ ?_
  clear hH hH1 hH2 hH3 hX0
  rintro ⟨r, sv⟩ w3 ⟨hr, X, hX, hH⟩ again
  simp only at hr hX
  have hcl := Closed.round p k r
  have hln := hcl.len
  refine WT_seq ?_
  refine WT_seq ?_
  refine WT_region ?_
  refine WL_v rfl (ov_move rfl) ?_
  refine WL_v rfl (ov_len rfl hX.sl st_sl_int) ?_
  refine WL_v rfl (ov_move rfl) ?_
  refine WL_v rfl (ov_len rfl hP.sl st_sl_impl_Node) ?_
  refine WL_v rfl (ov_lss rfl rfl) ?_
  refine WL_nil ?_
  refine WT_cond rfl (fun hc => ?_) (fun hc => ?_)
  · skip
    first | with_reducible replace hc := of_decide_eq_true hc | with_reducible replace hc := bn_T hc | with_reducible replace hc := bb_T hc | skip
    have hlt : (roundAt p k r).length < p.length := by omega
    have hup := roundAt_lt hv (k := k) (by omega) hlt
    have hr2 : readyOf p (roundAt p k r) = toI (readyL p (roundAt p k r)) := by unfold readyOf; rw [if_pos hv]
    have hrl := readyL_len p (roundAt p k r)
    have htl := toI_len (readyL p (roundAt p k r))
    have hrb : r ≤ (roundAt p k r).length := by
      have h1 : ∀ j, j ≤ r → j ≤ (roundAt p k j).length := by
        intro j
        induction j with
        | zero => intro _; omega
        | succ j ih =>
          intro hj
          have h2 := ih (by omega)
          have h3 := roundAt_lt hv (k := k) (by omega) (hr j (by omega))
          omega
      exact h1 r (Nat.le_refl _)
    refine WT_skip ?_
    refine WT_block ?_
    refine WT_seq ?_
    refine WT_region ?_
    refine WL_v rfl (ov_move rfl) ?_
    refine WL_v rfl (ov_move rfl) ?_
    refine WL_call rfl rfl cf_spec_ReadyOf (sReadyOf_ok hH hP (hX.rdl (i := 0) rfl) hl) ?_; rintro rv w4 ⟨Y, hY, hH4⟩
    refine WL_v rfl (ov_assign rfl) ?_
    refine WL_nil ?_
    refine WT_seq ?_
    refine WT_region ?_
    refine WL_v rfl (ov_move rfl) ?_
    refine WL_v rfl (ov_move rfl) ?_
    refine WL_v rfl (ov_move rfl) ?_
    refine WL_v rfl (ov_move rfl) ?_
    rw [hr2] at hY
    have hmn : min (k : Int) ((toI (readyL p (roundAt p k r))).length : Int) = ((min k (toI (readyL p (roundAt p k r))).length : Nat) : Int) := by omega
    have hY2 := hY.hi (n := min k (toI (readyL p (roundAt p k r))).length) (Nat.min_le_right _ _)
    have hst : roundAt p k (r + 1) = roundAt p k r ++ (toI (readyL p (roundAt p k r))).take (min k (toI (readyL p (roundAt p k r))).length) := by
      show _ ++ (toI (readyL p (roundAt p k r))).take k = _
      rw [List.take_eq_take_min]
    have hl2 : ((toI (readyL p (roundAt p k r))).take (min k (toI (readyL p (roundAt p k r))).length)).length ≤ 10 := by rw [List.length_take]; omega
    refine WL_v rfl (ov_len rfl hY.sl st_sl_int) ?_
    refine WL_v rfl (ov_as (ov_min rfl rfl) (congrArg (Value.int .i64) hmn)) ?_
    refine WL_v rfl (ov_sliceHi rfl rfl st_sl_int hY.sl (Nat.min_le_right _ _)) ?_
    refine WL_appI (i := 1) (j := 0) rfl hH4 rfl rfl st_sl_int rfl hX rfl hY2 (by omega) (by omega) ?_; rintro X2 sv2 w5 hX2 hH5
    refine WL_v rfl (ov_assign rfl) ?_
    refine WL_nil ?_
    refine WT_region ?_
    refine WL_v rfl (ov_move rfl) ?_
    refine WL_v rfl (ov_as (ov_add rfl rfl (by omega)) (congrArg (Value.int .i64) ((show (r : Int) + 1 = ((r + 1 : Nat) : Int) by omega)))) ?_
    refine WL_v rfl (ov_assign rfl) ?_
    refine WL_nil ?_
    refine WT_inBlock ?_
    refine again (r + 1, sv2) _ _ (by simp only; omega) (by repeat (first | exact trivial | refine ⟨rfl, ?_⟩)) ⟨fun j hj => ?_, X2, by rw [hst]; exact hX2, hH5.drop⟩
    rcases Nat.lt_or_ge j r with h1 | h1
    · exact hr j h1
    · obtain rfl : j = r := by simp only at hj; omega
      exact hlt
  first | with_reducible replace hc := of_decide_eq_false hc | with_reducible replace hc := bn_F hc | with_reducible replace hc := bb_F hc | skip
  refine WT_exit rfl ?_
  refine WT_seq ?_
  refine WT_region ?_
  refine WL_v rfl (ov_move rfl) ?_
  refine WL_v rfl (ov_assign rfl) ?_
  refine WL_v rfl (ov_assign rfl) ?_
  refine WL_nil ?_
  exact WT_ret2 Try.func43 Try.results43 rfl rfl ⟨.inr ⟨k, r, rfl, hok, ⟨by omega, hr⟩, rfl⟩, hH.drop⟩
end
end Go.Proofs.Ytmcedghgincaaaa
