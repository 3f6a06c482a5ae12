/- Walks: what workers need at least; the draw of a plan and workers. -/
import Derived.Test.YtafljegjdanldaaBl3
import Derived.Test.YtafljegjdanldaaSlF
namespace Go.Proofs.Ytafljegjdanldaa
open Go.RowKit

section
variable {h : GH} {Ls : List Heaplet} {w : World}

theorem workersFit_ok (hH : H w h Ls) (m : Int) : Rets Try.prog 48 #[.int .i64 m] w fun v w' => v = .bool (decide (1 ≤ m ∧ m ≤ 4)) ∧ H w' h Ls := by
  refine rets_enter Try.func48 rfl Try.ntmps48 (by simp) ?_
  by_cases h0 : 1 ≤ m
  · skip
    refine WT_seq ?_
    refine WT_region ?_
    refine WL_v rfl (ov_assign rfl) ?_
    refine WL_nil ?_
    refine WT_seq ?_
    refine WT_region ?_
    refine WL_v rfl (ov_move rfl) ?_
    refine WL_v rfl (ov_T (ov_geq rfl rfl) (by first | exact decide_eq_true h0 | exact nb_T h0 | exact mb_T h0 | exact h0 | (simp only [decide_eq_true_eq]; omega) | simpa using h0)) ?_
    refine WL_v rfl (ov_move rfl) ?_
    refine WL_guardOn rfl rfl ?_
    refine WL_v rfl (ov_move rfl) ?_
    refine WL_guardOn rfl rfl ?_
    refine WL_v rfl (ov_leq rfl rfl) ?_
    refine WL_v rfl (ov_pickT rfl rfl) ?_
    refine WL_v rfl (ov_assign rfl) ?_
    refine WL_nil ?_
    exact WT_ret1 Try.func48 Try.results48 rfl ⟨by simp [h0], hH⟩
  refine WT_seq ?_
  refine WT_region ?_
  refine WL_v rfl (ov_assign rfl) ?_
  refine WL_nil ?_
  refine WT_seq ?_
  refine WT_region ?_
  refine WL_v rfl (ov_move rfl) ?_
  refine WL_v rfl (ov_F (ov_geq rfl rfl) (by first | exact decide_eq_false h0 | exact nb_F h0 | exact mb_F h0 | exact h0 | (simp only [decide_eq_false_iff_not]; omega) | simpa using h0)) ?_
  refine WL_v rfl (ov_move rfl) ?_
  refine WL_guardOff rfl rfl rfl rfl ?_
  refine WL_guardOff rfl rfl rfl rfl ?_
  refine WL_v rfl (ov_pickF rfl rfl) ?_
  refine WL_v rfl (ov_assign rfl) ?_
  refine WL_nil ?_
  exact WT_ret1 Try.func48 Try.results48 rfl ⟨by simp [h0], hH⟩

theorem costLeast_ok (hH : H w h Ls) {pv : Value} {p : List Nd} (hP : Plan h pv p) (m : Int) : Rets Try.prog 29 #[pv, .int .i64 m] w fun v w' => v = .int .i64 (costLeast p m) ∧ H w' h Ls := by
  refine rets_enter Try.func29 rfl Try.ntmps29 (by simp) ?_
  by_cases hv : planOk p = true
  case neg =>
    have hv' : planOk p = false := by simpa using hv
    refine WT_seq ?_
    refine WT_region ?_
    refine WL_v rfl (ov_assign rfl) ?_
    refine WL_nil ?_
    refine WT_seq ?_
    refine WT_seq ?_
    refine WT_region ?_
    refine WL_v rfl (ov_move rfl) ?_
    refine WL_call rfl rfl cf_impl_PlanValid (planValid_ok hH hP) ?_; rintro _ w1 ⟨rfl, hH1⟩
    refine WL_v rfl (ov_T (ov_not rfl) (by first | exact decide_eq_true hv' | exact nb_T hv' | exact mb_T hv' | exact hv' | (simp only [decide_eq_true_eq]; omega) | simpa using hv')) ?_
    refine WL_v rfl (ov_move rfl) ?_
    refine WL_guardOff rfl rfl rfl rfl ?_
    refine WL_guardOff rfl rfl rfl rfl ?_
    refine WL_guardOff rfl rfl rfl rfl ?_
    refine WL_v rfl (ov_pickT rfl rfl) ?_
    refine WL_nil ?_
    refine WT_condT rfl ?_
    refine WT_seq ?_
    refine WT_region ?_
    refine WL_v rfl (ov_assign rfl) ?_
    refine WL_nil ?_
    exact WT_ret1 Try.func29 Try.results29 rfl ⟨by unfold costLeast; rw [if_neg (fun hh => hv hh.1)], hH1⟩
  have hlen := PlanOk.len hv
  have hsr := sumTo_rg p p.length
  refine WT_seq ?_
  refine WT_region ?_
  refine WL_v rfl (ov_assign rfl) ?_
  refine WL_nil ?_
  refine WT_seq ?_
  refine WT_seq ?_
  refine WT_region ?_
  refine WL_v rfl (ov_move rfl) ?_
  refine WL_call rfl rfl cf_impl_PlanValid (planValid_ok hH hP) ?_; rintro _ w1 ⟨rfl, hH1⟩
  refine WL_v rfl (ov_F (ov_not rfl) (by first | exact decide_eq_false hv | exact nb_F hv | exact mb_F hv | exact hv | (simp only [decide_eq_false_iff_not]; omega) | simpa using hv)) ?_
  refine WL_v rfl (ov_move rfl) ?_
  refine WL_guardOn rfl rfl ?_
  refine WL_v rfl (ov_move rfl) ?_
  refine WL_guardOn rfl rfl ?_
  refine WL_call rfl rfl cf_impl_workersFit (workersFit_ok hH1 m) ?_; rintro _ w2 ⟨rfl, hH2⟩
  refine WL_guardOn rfl rfl ?_
  refine WL_v rfl (ov_not rfl) ?_
  refine WL_v rfl (ov_pickF rfl rfl) ?_
  refine WL_nil ?_
  refine WT_cond rfl (fun hm => ?_) (fun hm => ?_)
  · skip
    first | with_reducible replace hm := of_decide_eq_true hm | with_reducible replace hm := bn_T hm | with_reducible replace hm := bb_T hm | skip
    refine WT_seq ?_
    refine WT_region ?_
    refine WL_v rfl (ov_assign rfl) ?_
    refine WL_nil ?_
    exact WT_ret1 Try.func29 Try.results29 rfl ⟨by unfold costLeast; rw [if_neg (fun hh => hm hh.2)], hH2⟩
  first | with_reducible replace hm := of_decide_eq_false hm | with_reducible replace hm := bn_F hm | with_reducible replace hm := bb_F hm | skip
  refine WT_skip ?_
  refine WT_seq ?_
  refine WT_region ?_
  refine WL_v rfl (ov_move rfl) ?_
  refine WL_call rfl rfl cf_impl_CostPath (costPath_ok hH2 hP) ?_; rintro _ w3 ⟨rfl, hH3⟩
  refine WL_v rfl (ov_move rfl) ?_
  refine WL_call rfl rfl cf_impl_CostAll (costAll_ok hH3 hP) ?_; rintro _ w4 ⟨rfl, hH4⟩
  refine WL_v rfl (ov_move rfl) ?_
  refine WL_v rfl (ov_add rfl rfl (by rw [if_pos hv]; omega)) ?_
  refine WL_v rfl (ov_sub rfl rfl (by rw [if_pos hv]; omega)) ?_
  refine WL_v rfl (ov_move rfl) ?_
  refine WL_v rfl (ov_quo rfl rfl (by rw [if_pos hv]; omega) (by omega) (by rw [if_pos hv]; omega)) ?_
  refine WL_v rfl (ov_max rfl rfl) ?_
  refine WL_v rfl (ov_assign rfl) ?_
  refine WL_nil ?_
  exact WT_ret1 Try.func29 Try.results29 rfl ⟨by unfold costLeast leastOf; rw [if_pos (show planOk p = true ∧ 1 ≤ m ∧ m ≤ 4 from ⟨hv, hm⟩), if_pos hv, if_pos hv], hH4⟩

theorem least_valid {p : List Nd} {m : Int} (h : ¬ costLeast p m < 0) : planOk p = true ∧ 1 ≤ m ∧ m ≤ 4 := by
  unfold costLeast at h
  by_cases hc : planOk p = true ∧ 1 ≤ m ∧ m ≤ 4
  · exact hc
  · rw [if_neg hc] at h; exact absurd (by simp) h

end
end Go.Proofs.Ytafljegjdanldaa

/- Plain: what is next, step by step; ticks between two finishes. No program in sight. -/
namespace Go.Proofs.Ytafljegjdanldaa

theorem find_skip {l : List Int} {q : Int → Bool} {i : Nat} (h : ∀ a ∈ l.take i, q a = false) : l.find? q = (l.drop i).find? q := by
  conv => lhs; rw [← List.take_append_drop i l]
  rw [List.find?_append]
  have : (l.take i).find? q = none := List.find?_eq_none.2 fun a ha => by simp [h a ha]
  rw [this]; rfl
theorem nextN_at {p : List Nd} {bg dn : List Int} {i : Nat} (hi : i < (readyI p dn).length) (h : ∀ a ∈ (readyI p dn).take i, a ∈ bg) (hn : (readyI p dn)[i] ∉ bg) : nextN p bg dn = some (readyI p dn)[i] := by
  unfold nextN
  rw [find_skip (i := i) fun a ha => by simp [h a ha], List.drop_eq_getElem_cons hi, List.find?_cons_of_pos (by simpa using hn)]
theorem nextN_end {p : List Nd} {bg dn : List Int} {i : Nat} (hi : (readyI p dn).length ≤ i) (h : ∀ a ∈ (readyI p dn).take i, a ∈ bg) : nextN p bg dn = none := by
  unfold nextN
  rw [find_skip (i := i) fun a ha => by simp [h a ha], List.drop_eq_nil_of_le hi]; rfl
theorem takeW_busy {p : List Nd} {s : Gs} {w : Nat} (h : ¬ s.has.getD w 0 < 0) : takeW p s w = s := by
  unfold takeW
  rw [if_neg h]
theorem takeW_none {p : List Nd} {s : Gs} {w : Nat} (h : nextN p s.bg s.dn = none) : takeW p s w = s := by
  unfold takeW
  split
  · rw [h]
  · rfl
theorem takeW_some {p : List Nd} {s : Gs} {w : Nat} {a : Int} (hn : s.has.getD w 0 < 0) (h : nextN p s.bg s.dn = some a) : takeW p s w = ⟨s.t, s.has.set w a, s.unt.set w ((s.t : Int) + costN p a), s.bg ++ [a], s.dn⟩ := by
  unfold takeW
  rw [if_pos hn, h]

/-- Who works, in order. -/
def runL (s : Gs) : Nat → List Ft
  | 0 => []
  | k + 1 => runL s k ++ (if 0 ≤ s.has.getD k 0 then [⟨s.unt.getD k 0, (k : Int), s.has.getD k 0⟩] else [])
theorem mem_runL {s : Gs} {f : Ft} : ∀ {k : Nat}, f ∈ runL s k ↔ ∃ w, w < k ∧ 0 ≤ s.has.getD w 0 ∧ f = ⟨s.unt.getD w 0, (w : Int), s.has.getD w 0⟩
  | 0 => by simp [runL]
  | k + 1 => by
    simp only [runL, List.mem_append, mem_runL (k := k)]
    constructor
    · rintro (⟨w, h1, h2, h3⟩ | h1)
      · exact ⟨w, by omega, h2, h3⟩
      · split at h1
        · rw [List.mem_singleton] at h1
          exact ⟨k, by omega, by assumption, h1⟩
        · cases h1
    · rintro ⟨w, h1, h2, h3⟩
      rcases Nat.lt_or_ge w k with h4 | h4
      · exact .inl ⟨w, h4, h2, h3⟩
      · obtain rfl : w = k := by omega
        right
        rw [if_pos h2]
        simp [h3]
theorem runL_len (s : Gs) : ∀ k, (runL s k).length ≤ k
  | 0 => by simp [runL]
  | k + 1 => by
    have := runL_len s k
    simp only [runL, List.length_append]
    split <;> simp <;> omega
theorem runL_congr {s s' : Gs} : ∀ {k : Nat}, (∀ w, w < k → s.has.getD w 0 = s'.has.getD w 0 ∧ (0 ≤ s.has.getD w 0 → s.unt.getD w 0 = s'.unt.getD w 0)) → runL s k = runL s' k
  | 0, _ => rfl
  | k + 1, h => by
    simp only [runL]
    rw [runL_congr fun w hw => h w (by omega)]
    obtain ⟨h1, h2⟩ := h k (by omega)
    rw [← h1]
    split
    · rename_i h3
      rw [h2 h3]
    · rfl
/-- One more works. -/
theorem runL_more {s s' : Gs} {v : Nat} : ∀ {k : Nat}, v < k → (∀ w, w < k → w ≠ v → s.has.getD w 0 = s'.has.getD w 0 ∧ (0 ≤ s.has.getD w 0 → s.unt.getD w 0 = s'.unt.getD w 0)) → s.has.getD v 0 < 0 → 0 ≤ s'.has.getD v 0 →
    (runL s' k).Perm (runL s k ++ [⟨s'.unt.getD v 0, (v : Int), s'.has.getD v 0⟩])
  | k + 1, hv, h, h1, h2 => by
    simp only [runL]
    rcases Nat.lt_or_ge v k with h3 | h3
    · have ih := runL_more h3 (fun w hw hne => h w (by omega) hne) h1 h2
      obtain ⟨h4, h5⟩ := h k (by omega) (by omega)
      have h6 : (if 0 ≤ s'.has.getD k 0 then [(⟨s'.unt.getD k 0, (k : Int), s'.has.getD k 0⟩ : Ft)] else []) = (if 0 ≤ s.has.getD k 0 then [⟨s.unt.getD k 0, (k : Int), s.has.getD k 0⟩] else []) := by
        rw [← h4]
        split
        · rename_i h7; rw [h5 h7]
        · rfl
      rw [h6]
      refine (ih.append_right _).trans ?_
      rw [List.append_assoc, List.append_assoc]
      exact List.Perm.append_left _ List.perm_append_comm
    · obtain rfl : v = k := by omega
      rw [if_pos h2, if_neg (by omega), List.append_nil, runL_congr (s := s) (s' := s') fun w hw => h w (by omega) (by omega)]
theorem runL_take {p : List Nd} {wk : Nat} {s : Gs} (hI : GI p wk (fun _ => 1) s) {w : Nat} (hw : w < wk) {a : Int} (hn : s.has.getD w 0 < 0) (h : nextN p s.bg s.dn = some a) :
    (runL (takeW p s w) wk).Perm (runL s wk ++ [⟨(s.t : Int) + costN p a, (w : Int), a⟩]) := by
  have ha := (mem_readyI.1 (nextN_some h).1).1
  rw [takeW_some hn h]
  have hg : ∀ v, (s.has.set w a).getD v 0 = if w = v then a else s.has.getD v 0 := fun v => getD_setI (by rw [hI.hl]; exact hw)
  have hu : ∀ v, (s.unt.set w ((s.t : Int) + costN p a)).getD v 0 = if w = v then (s.t : Int) + costN p a else s.unt.getD v 0 := fun v => getD_setI (by rw [hI.ul]; exact hw)
  have := runL_more (s := s) (s' := ⟨s.t, s.has.set w a, s.unt.set w ((s.t : Int) + costN p a), s.bg ++ [a], s.dn⟩) hw (fun v hv hne => by
    simp only [hg, hu, if_neg (Ne.symm hne)]
    exact ⟨trivial, fun _ => trivial⟩) hn (by simp only [hg, if_true]; exact ha.1)
  simpa only [hg, hu, if_true] using this
theorem runL_fin {wk : Nat} {s : Gs} (hl : s.has.length = wk) {w : Nat} (hw : w < wk) (h0 : 0 ≤ s.has.getD w 0) (ht : s.unt.getD w 0 = (s.t : Int)) :
    (runL s wk).Perm (runL (finW s w) wk ++ [⟨s.unt.getD w 0, (w : Int), s.has.getD w 0⟩]) := by
  have hf : finW s w = ⟨s.t, s.has.set w (-1), s.unt, s.bg, s.dn ++ [s.has.getD w 0]⟩ := by unfold finW; rw [if_pos ⟨h0, ht⟩]
  rw [hf]
  have hg : ∀ v, (s.has.set w (-1)).getD v 0 = if w = v then -1 else s.has.getD v 0 := fun v => getD_setI (by rw [hl]; exact hw)
  exact runL_more (s := ⟨s.t, s.has.set w (-1), s.unt, s.bg, s.dn ++ [s.has.getD w 0]⟩) (s' := s) hw (fun v hv hne => by
    simp only [hg, if_neg (Ne.symm hne)]
    exact ⟨trivial, fun _ => trivial⟩) (by simp only [hg, if_true]; omega) h0
theorem runL_at (s : Gs) (t k : Nat) : runL (s.at t) k = runL s k := runL_congr fun _ _ => ⟨rfl, fun _ => rfl⟩

/-! who finishes nothing -/
theorem finW_skip {s : Gs} {w : Nat} (h : ¬ (0 ≤ s.has.getD w 0 ∧ s.unt.getD w 0 = (s.t : Int))) : finW s w = s := by
  unfold finW
  rw [if_neg h]
theorem finTo_skip {s : Gs} {k : Nat} : ∀ (m : Nat), (∀ w, k ≤ w → w < k + m → ¬ (0 ≤ (finTo s k).has.getD w 0 ∧ (finTo s k).unt.getD w 0 = ((finTo s k).t : Int))) → finTo s (k + m) = finTo s k
  | 0, _ => rfl
  | m + 1, h => by
    have ih := finTo_skip (s := s) (k := k) m fun w h1 h2 => h w h1 (by omega)
    show finW (finTo s (k + m)) (k + m) = _
    rw [ih]
    exact finW_skip (h (k + m) (by omega) (by omega))
theorem Gs.at_at (s : Gs) (a b : Nat) : (s.at a).at b = s.at b := rfl
/-- Between two finishes nothing happens. -/
theorem ticks_still {p : List Nd} {wk k t' : Nat} (ht : ∀ w, w < wk → 0 ≤ (takeTo p (stN p wk k) wk).has.getD w 0 → (t' : Int) ≤ (takeTo p (stN p wk k) wk).unt.getD w 0) :
    ∀ m, k + m + 1 ≤ t' → takeTo p (stN p wk (k + m)) wk = (takeTo p (stN p wk k) wk).at (k + m)
  | 0, _ => by
    have := (takeTo_t p (stN p wk k) wk).1
    rw [stN_t] at this
    show takeTo p (stN p wk k) wk = ⟨k, _, _, _, _⟩
    generalize takeTo p (stN p wk k) wk = s at this ⊢
    rw [← this]
  | m + 1, h => by
    have ih := ticks_still ht m (by omega)
    have hc := calm_takes (GI.st p wk k) wk (Nat.le_refl _)
    have h1 : stN p wk (k + m + 1) = finTo (((takeTo p (stN p wk k) wk).at (k + m)).at (k + m + 1)) wk := by
      show finTo ((takeTo p (stN p wk (k + m)) wk).at ((stN p wk (k + m)).t + 1)) wk = _
      rw [ih, stN_t]
    rw [Gs.at_at] at h1
    have h2 : finTo ((takeTo p (stN p wk k) wk).at (k + m + 1)) wk = (takeTo p (stN p wk k) wk).at (k + m + 1) := by
      have := finTo_skip (s := (takeTo p (stN p wk k) wk).at (k + m + 1)) (k := 0) wk fun w _ hw => by
        rintro ⟨h3, h4⟩
        have := ht w (by omega) h3
        have h5 : (takeTo p (stN p wk k) wk).unt.getD w 0 = ((k + m + 1 : Nat) : Int) := h4
        omega
      rw [Nat.zero_add] at this
      exact this
    show takeTo p (stN p wk (k + m + 1)) wk = _
    rw [h1, h2]
    exact takeTo_calm wk (Nat.le_refl _) (show Calm p ((takeTo p (stN p wk k) wk).at (k + m + 1)) wk from hc)
/-- The next finish. -/
theorem ticks_to {p : List Nd} {wk k t' : Nat} (hk : k < t') (ht : ∀ w, w < wk → 0 ≤ (takeTo p (stN p wk k) wk).has.getD w 0 → (t' : Int) ≤ (takeTo p (stN p wk k) wk).unt.getD w 0) :
    stN p wk t' = finTo ((takeTo p (stN p wk k) wk).at t') wk ∧ ∀ j, k ≤ j → j < t' → (stN p wk j).dn = (stN p wk k).dn := by
  have hd := (takeTo_t p (stN p wk k) wk).2
  refine ⟨?_, fun j hj hjt => ?_⟩
  · obtain ⟨m, rfl⟩ : ∃ m, t' = k + m + 1 := ⟨t' - k - 1, by omega⟩
    have h1 := ticks_still ht m (Nat.le_refl _)
    show finTo ((takeTo p (stN p wk (k + m)) wk).at ((stN p wk (k + m)).t + 1)) wk = _
    rw [h1, stN_t, Gs.at_at]
  · obtain ⟨m, rfl⟩ : ∃ m, j = k + m := ⟨j - k, by omega⟩
    have h1 := ticks_still ht m (by omega)
    have h2 := (takeTo_t p (stN p wk (k + m)) wk).2
    rw [← h2, h1]
    exact hd
end Go.Proofs.Ytafljegjdanldaa

/- Walks: greedy workers, by the program. -/
namespace Go.Proofs.Ytafljegjdanldaa
open Go.RowKit

theorem run_build_fin (a b c : Int) (W : World) : (Instr.build 114 #[(0, .int .i64 a), (1, .int .i64 b), (2, .int .i64 c)]).run Try.prog W = .ok (.agg #[.int .i64 a, .int .i64 b, .int .i64 c]) W := by kernel_rfl
theorem run_build_gr' (a b : Option Addr) (n c m d : Nat) (W : World) : (Instr.build 68 #[(0, .slice a n c), (2, .slice b m d)]).run Try.prog W = .ok (.agg #[.slice a n c, .int .i64 0, .slice b m d, .int .u16 0, .slice none 0 0, .slice none 0 0]) W := by kernel_rfl
theorem run_build_gr {u v : Value} {n m : Nat} (hu : Sl u n) (hv : Sl v m) (W : World) : (Instr.build 68 #[(0, u), (2, v)]).run Try.prog W = .ok (.agg #[u, .int .i64 0, v, .int .u16 0, .slice none 0 0, .slice none 0 0]) W := by
  obtain ⟨_, _, rfl, _⟩ := hu.form
  obtain ⟨_, _, rfl, _⟩ := hv.form
  exact run_build_gr' _ _ _ _ _ _ W
theorem zero_impl_greedyRun (W : World) : (zeroValue 68).run Try.prog W = .ok (.agg #[.slice none 0 0, .int .i64 0, .slice none 0 0, .int .u16 0, .slice none 0 0, .slice none 0 0]) W := by kernel_rfl

theorem bmL_congr {S S' : Nat → Bool} {n : Nat} (h : ∀ i, i < n → S i = S' i) : bmL S n = bmL S' n := by
  unfold bmL
  exact List.map_congr_left fun i hi => by rw [h i (List.mem_range.1 hi)]
theorem bmL_clr (S : Nat → Bool) (n j : Nat) : (bmL S n).set j (.bool false) = bmL (fun i => S i && decide (i ≠ j)) n := by
  apply List.ext_getElem?
  intro i
  rw [List.getElem?_set]
  by_cases hi : i < n
  · rw [bmL_get hi, bmL_get hi, bmL_len]
    by_cases hij : j = i
    · subst hij
      rw [if_pos rfl, if_pos hi]
      simp
    · rw [if_neg hij]
      simp [Ne.symm hij]
  · have h1 : (bmL (fun i => S i && decide (i ≠ j)) n)[i]? = none := List.getElem?_eq_none (by rw [bmL_len]; omega)
    have h2 : (bmL S n)[i]? = none := List.getElem?_eq_none (by rw [bmL_len]; omega)
    rw [h1, h2, bmL_len]
    split
    · split
      · omega
      · rfl
    · rfl
theorem readyOf_J {p : List Nd} (hv : planOk p = true) (D : List Int) : readyOf p D = readyI p D := by
  unfold readyOf
  rw [if_pos hv]; rfl
def bsyB (s : Gs) : Nat → Bool := fun w => decide (0 ≤ s.has.getD w 0)
theorem bsy_set {s : Gs} {wk k : Nat} {a : Int} {un bg dn : List Int} (hl : s.has.length = wk) (hk : k < wk) (ha : 0 ≤ a) : bmL (putB (bsyB s) k) wk = bmL (bsyB ⟨s.t, s.has.set k a, un, bg, dn⟩) wk := bmL_congr fun i hi => by
  unfold putB bsyB
  simp only
  rw [getD_setI (by omega)]
  by_cases h : k = i
  · subst h; simp [ha]
  · rw [if_neg h]; simp [Ne.symm h]
theorem bsy_fin {s : Gs} {wk k : Nat} (hl : s.has.length = wk) (hk : k < wk) {un bg dn : List Int} : bmL (fun i => bsyB s i && decide (i ≠ k)) wk = bmL (bsyB ⟨s.t, s.has.set k (-1), un, bg, dn⟩) wk := bmL_congr fun i hi => by
  unfold bsyB
  simp only
  rw [getD_setI (by omega)]
  by_cases h : k = i
  · subst h; simp
  · rw [if_neg h]; simp [Ne.symm h]
theorem bits_add {m a : Nat} {bg : List Int} (hb : ∀ j : Nat, m.testBit j = decide ((j : Int) ∈ bg)) (j : Nat) : (m ||| 2 ^ a).testBit j = decide ((j : Int) ∈ bg ++ [(a : Int)]) := by
  rw [Nat.testBit_or, hb, Nat.testBit_two_pow, ← Bool.decide_or]
  refine decide_eq_decide.2 ?_
  rw [List.mem_append, List.mem_singleton]
  constructor
  · rintro (h1 | h1)
    · exact .inl h1
    · exact .inr (by omega)
  · rintro (h1 | h1)
    · exact .inl h1
    · exact .inr (by omega)

/-- A run: the state lies in memory. -/
def ISt (h : GH) (Ls : List Heaplet) (wk g : Nat) (pv bv : Value) (s : Gs) (t : Int) (w : World) : Prop :=
  ∃ (tv dv : Value) (tk : Nat) (X BB DD : Heaplet) (T : List Ft), FRow X tv T ∧ T.Perm (runL s wk) ∧ Hp T T.length ∧ Row BB 4 1 bv wk (bmL (bsyB s) wk) ∧ IRow DD 3 dv s.dn ∧ tk < 1024 ∧ (∀ a : Nat, tk.testBit a = decide ((a : Int) ∈ s.bg)) ∧ H w h (rbx g pv t bv (tk : Int) dv tv :: X :: BB :: DD :: Ls)
theorem run_WB {s : Gs} {wk : Nat} (hwk : wk ≤ 4) {T : List Ft} (hp : T.Perm (runL s wk)) : WB T := fun f hf => by
  obtain ⟨w, hw, _, rfl⟩ := mem_runL.1 (hp.mem_iff.1 hf)
  simp only
  omega

/-- The run's variable, whatever its heap is. -/
abbrev CB (h : GH) (g : Nat) (pv : Value) (t : Int) (bv : Value) (tk : Int) (dv : Value) : World → Prop := fun w => ∃ q : Value × List Heaplet, H w h (rbx g pv t bv tk dv q.1 :: q.2)

section
variable {h : GH} {Ls : List Heaplet} {w : World}

set_option maxHeartbeats 4000000 in
theorem start_ok {pv bv : Value} {g : Nat} {p : List Nd} {wk : Nat} {s : Gs} (hP : Plan h pv p) (hpv : planOk p = true) (hI : GI p wk (fun _ => 1) s) (hwk : wk ≤ 4) (ht : s.t ≤ 1000) (hS : ISt h Ls wk g pv bv s (s.t : Int) w) :
    Rets Try.prog 49 #[ptr g] w fun _ w' => ISt h Ls wk g pv bv (takeTo p s wk) (s.t : Int) w' := by
  have hlen := PlanOk.len hpv
  have hdl := hI.cl.len
  obtain ⟨tv, dv, tk, X, BB, DD, T, hX, hp, hh, hBB, hDD, htk, hbits, hH⟩ := hS
  have hbs := hBB.sl
  have hrd := fun {w : World} (hH : H w h (rbx g pv s.t bv (tk : Int) dv tv :: X :: BB :: DD :: Ls)) => readyOf_ok hH hP (hDD.rdl (i := 3) rfl) (by omega)
  rw [readyOf_J hpv] at hrd
  refine rets_enter Try.func49 rfl Try.ntmps49 (by simp) ?_
  refine WT_seq ?_
  refine WT_mixL [(0, 1), (1, 1), (2, 1), (3, 0), (4, 1), (5, 1), (6, 1), (7, 0), (8, 3), (9, 1)] mixed (by kernel_rfl) hH ?_
  clear hH
  intro w1 hH hC
  refine WM_p rfl rfl (fun _ => ov_move rfl) ?_
  refine WM_p rfl rfl (fun _ => ov_nilCheck rfl) ?_
  refine WM_p rfl rfl (fun _ => ov_field rfl fo_impl_greedyRun_0) ?_
  refine WM_v rfl rfl hC (fun _ ⟨_, hH⟩ => ov_load rfl one_sl_impl_Node (hH.cb 1 rfl 0)) ?_
  refine WM_p rfl rfl (fun _ => ov_move rfl) ?_
  refine WM_p rfl rfl (fun _ => ov_nilCheck rfl) ?_
  refine WM_p rfl rfl (fun _ => ov_field rfl fo_impl_greedyRun_4) ?_
  refine WM_v rfl rfl hC (fun _ ⟨_, hH⟩ => ov_load rfl one_sl_int (hH.cb 1 rfl 4)) ?_
  refine WM_e rfl ?_
  refine WL_call rfl rfl cf_impl_ReadyOf (hrd hH) ?_; rintro rv0 w2 ⟨R, hR0, hH2⟩
  refine WL_mix (fun h => absurd rfl h) ?_
  refine WM_p rfl rfl (fun _ => ov_assign rfl) ?_
  refine WM_nil ?_
  refine WT_seq ?_
  refine WT_region ?_
  refine WL_v rfl (ov_move rfl) ?_
  refine WL_v rfl (ov_nilCheck rfl) ?_
  refine WL_v rfl (ov_field rfl fo_impl_greedyRun_2) ?_
  have hRl := readyI_len_le p s.dn
  have hH3 : H w2 h (rbx g pv s.t bv (tk : Int) dv tv :: X :: BB :: DD :: R :: Ls) := (((hH2.pull 4 rfl).pull 4 rfl).pull 4 rfl).pull 4 rfl
  clear hH2 hrd
  refine WL_v rfl (ov_load rfl one_sl_bool (hH3.cb 0 rfl 2)) ?_
  refine WL_v rfl (ov_len rfl hbs st_sl_bool) ?_
  refine WL_v rfl (ov_move rfl) ?_
  refine WL_nil ?_
  refine WT_block ?_
  refine WT_while (fun s' : Nat × Value => [(0, ptr g), (2, s'.2), (18, bv), (19, .int .i64 (wk : Int)), (20, .int .i64 (s'.1 : Int))]) (fun s' w => s'.1 ≤ wk ∧ ∃ j, j ≤ (readyI p s.dn).length ∧ IRow R 3 s'.2 ((readyI p s.dn).drop j) ∧ (∀ a ∈ (readyI p s.dn).take j, a ∈ (takeTo p s s'.1).bg) ∧ ISt h (R :: Ls) wk g pv bv (takeTo p s s'.1) (s.t : Int) w) (fun s' => wk - s'.1) (0, rv0) (by repeat (first | exact trivial | refine ⟨rfl, ?_⟩)) ⟨by omega, 0, by omega, hR0, by simp, tv, dv, tk, X, BB, DD, T, hX, hp, hh, hBB, hDD, htk, hbits, hH3⟩ ?_
  clear hC hH hH3 hX hp hh hBB hDD htk hbits hR0 tv dv tk X BB DD T
  rintro ⟨k, rv⟩ w3 ⟨hk, j0, hj0, hR0, hta0, hS⟩ again
  simp only at hk hR0 hta0 hS
  have hIk := hI.takes k hk
  have htt := takeTo_t p s k
  refine WT_seq ?_
  refine WT_region ?_
  refine WL_v rfl (ov_lss rfl rfl) ?_
  refine WL_nil ?_
  refine WT_seq ?_
  refine WT_cond rfl (fun hc => ?_) (fun hc => ?_)
  · skip
    first | with_reducible replace hc := of_decide_eq_true hc | with_reducible replace hc := bn_T hc | with_reducible replace hc := bb_T hc | skip
    have hkw : k < wk := by simp only at hc; omega
    obtain ⟨tv, dv, tk, X, BB, DD, T, hX, hp, hh, hBB, hDD, htk, hbits, hH⟩ := hS
    refine WT_skip ?_
    refine WT_seq ?_
    refine WT_block ?_
    refine WT_seq ?_
    refine WT_region ?_
    refine WL_v rfl (ov_move rfl) ?_
    refine WL_v rfl (ov_index rfl rfl st_sl_bool hbs hkw) ?_
    refine WL_v rfl (ov_load rfl one_bool (by rw [Nat.mul_one]; exact hBB.cell hH (i := 2) rfl (bmL_get hkw))) ?_
    refine WL_v rfl (ov_assign rfl) ?_
    refine WL_v rfl (ov_assign rfl) ?_
    refine WL_nil ?_
    refine WT_block ?_
    refine WT_while (fun s' : Nat × Value × Bool => [(0, ptr g), (2, s'.2.1), (3, .int .i64 (k : Int)), (4, .bool s'.2.2), (18, bv), (19, .int .i64 (wk : Int)), (20, .int .i64 (k : Int))]) (fun s' w => s'.1 ≤ (readyI p s.dn).length ∧ IRow R 3 s'.2.1 ((readyI p s.dn).drop s'.1) ∧ ∃ st : Gs, (st = takeTo p s k ∨ (st = takeW p (takeTo p s k) k ∧ 0 ≤ st.has.getD k 0)) ∧ s'.2.2 = decide (0 ≤ st.has.getD k 0) ∧ (∀ a ∈ (readyI p s.dn).take s'.1, a ∈ st.bg) ∧ ISt h (R :: Ls) wk g pv bv st (s.t : Int) w) (fun s' => (readyI p s.dn).length - s'.1) (j0, rv, bsyB (takeTo p s k) k) (by repeat (first | exact trivial | refine ⟨rfl, ?_⟩)) ⟨hj0, hR0, takeTo p s k, .inl rfl, rfl, hta0, tv, dv, tk, X, BB, DD, T, hX, hp, hh, hBB, hDD, htk, hbits, hH⟩ ?_
    clear hH hX hp hh hBB hDD htk hbits hR0 hta0 hj0 j0 tv dv tk X BB DD T
    rintro ⟨j, rv, b⟩ w4 ⟨hj, hR, st, hst, hbb, hta, hS⟩ again2
    simp only at hj hR hbb hta hS
    have hRs := hR.sl
    have hdrl : ((readyI p s.dn).drop j).length = (readyI p s.dn).length - j := List.length_drop
    have hout : st = takeTo p s (k + 1) → ∀ {w : World}, ISt h (R :: Ls) wk g pv bv st (s.t : Int) w → k + 1 ≤ wk ∧ ∃ j, j ≤ (readyI p s.dn).length ∧ IRow R 3 rv ((readyI p s.dn).drop j) ∧ (∀ a ∈ (readyI p s.dn).take j, a ∈ (takeTo p s (k + 1)).bg) ∧ ISt h (R :: Ls) wk g pv bv (takeTo p s (k + 1)) (s.t : Int) w := fun he {w} hS => by
      rw [← he]
      exact ⟨by omega, j, hj, hR, hta, hS⟩
    cases b with
    | true =>
      have h0 : 0 ≤ st.has.getD k 0 := of_decide_eq_true hbb.symm
      have he : st = takeTo p s (k + 1) := by
        show st = takeW p (takeTo p s k) k
        rcases hst with rfl | ⟨rfl, _⟩
        · exact (takeW_busy (by omega)).symm
        · rfl
      refine WT_seq ?_
      refine WT_seq ?_
      refine WT_region ?_
      refine WL_v rfl (ov_move rfl) ?_
      refine WL_v rfl (ov_F (ov_not rfl) (by first | exact decide_eq_false rfl | exact nb_F rfl | exact mb_F rfl | exact rfl | (simp only [decide_eq_false_iff_not]; omega) | simpa using rfl)) ?_
      refine WL_v rfl (ov_move rfl) ?_
      refine WL_guardOff rfl rfl rfl rfl ?_
      refine WL_guardOff rfl rfl rfl rfl ?_
      refine WL_guardOff rfl rfl rfl rfl ?_
      refine WL_v rfl (ov_pickF rfl rfl) ?_
      refine WL_nil ?_
      refine WT_condF rfl ?_
      refine WT_exit rfl ?_
      refine WT_inBlock ?_
      refine WT_region ?_
      refine WL_v rfl (ov_add rfl rfl (by omega)) ?_
      refine WL_v rfl (ov_move rfl) ?_
      refine WL_nil ?_
      exact again (k + 1, rv) _ _ (by simp only; omega) (by repeat (first | exact trivial | refine ⟨rfl, ?_⟩)) (hout he hS)
    | false =>
      have h0 : ¬ 0 ≤ st.has.getD k 0 := of_decide_eq_false hbb.symm
      have hst2 : st = takeTo p s k := by
        rcases hst with h1 | ⟨_, h1⟩
        · exact h1
        · exact absurd h1 h0
      by_cases hjl : j < (readyI p s.dn).length
      · have hmem := (mem_readyI.1 (List.getElem_mem hjl)).1
        obtain ⟨a, hae⟩ : ∃ a : Nat, (readyI p s.dn)[j] = (a : Int) := ⟨((readyI p s.dn)[j]).toNat, by omega⟩
        have hap : a < p.length := by omega
        have hd0 : 0 < ((readyI p s.dn).drop j).length := by omega
        have hg0 : ((readyI p s.dn).drop j)[0] = (a : Int) := by rw [List.getElem_drop, ← hae]; rfl
        have hR2 : IRow R 3 (reslice rv 1 ((readyI p s.dn).drop j).length 1) ((readyI p s.dn).drop (j + 1)) := by
          have h1 := Row.reslice hR (lo := 1) (hi := ((readyI p s.dn).drop j).length) (by omega) (Nat.le_refl _)
          unfold IRow
          rw [show ((readyI p s.dn).drop (j + 1)).length = ((readyI p s.dn).drop j).length - 1 by rw [List.length_drop, hdrl]; omega]
          have h2 : ((readyI p s.dn).drop (j + 1)).map (Value.int .i64) = ((((readyI p s.dn).drop j).map (Value.int .i64)).drop (1 * 1)).take ((((readyI p s.dn).drop j).length - 1) * 1) := by
            rw [← List.map_drop, List.drop_drop, Nat.mul_one, Nat.mul_one, List.take_of_length_le (by rw [List.length_map, List.length_drop, hdrl]; omega)]
          rw [h2]
          exact h1
        have htake : (readyI p s.dn).take (j + 1) = (readyI p s.dn).take j ++ [(a : Int)] := by rw [List.take_succ_eq_append_getElem hjl, hae]
        obtain ⟨tv, dv, tk, X, BB, DD, T, hX, hp, hh, hBB, hDD, htk, hbits, hH⟩ := hS
        refine WT_seq ?_
        refine WT_seq ?_
        refine WT_region ?_
        refine WL_v rfl (ov_move rfl) ?_
        refine WL_v rfl (ov_T (ov_not rfl) (by first | exact decide_eq_true rfl | exact nb_T rfl | exact mb_T rfl | exact rfl | (simp only [decide_eq_true_eq]; omega) | simpa using rfl)) ?_
        refine WL_v rfl (ov_move rfl) ?_
        refine WL_guardOn rfl rfl ?_
        refine WL_v rfl (ov_move rfl) ?_
        refine WL_guardOn rfl rfl ?_
        refine WL_v rfl (ov_len rfl hRs st_sl_int) ?_
        refine WL_guardOn rfl rfl ?_
        refine WL_v rfl (ov_T (ov_gtr rfl rfl) (decide_eq_true (by omega))) ?_
        refine WL_v rfl (ov_pickT rfl rfl) ?_
        refine WL_nil ?_
        refine WT_condT rfl ?_
        refine WT_skip ?_
        refine WT_block ?_
        refine WT_seq ?_
        refine WT_region ?_
        refine WL_v rfl (ov_move rfl) ?_
        refine WL_v rfl (ov_index (i := 0) rfl rfl st_sl_int hRs hd0) ?_
        refine WL_v rfl (ov_load rfl one_int (hR.cell hH (i := 4) rfl hd0)) ?_; rw [hg0]
        refine WL_v rfl (ov_assign rfl) ?_
        refine WL_nil ?_
        refine WT_seq ?_
        refine WT_region ?_
        refine WL_v rfl (ov_move rfl) ?_
        refine WL_v rfl (ov_sliceLo (lo := 1) rfl rfl st_sl_int hRs (by omega)) ?_
        refine WL_v rfl (ov_assign rfl) ?_
        refine WL_nil ?_
        refine WT_seq ?_
        refine WT_seq ?_
        refine WT_region ?_
        refine WL_v rfl (ov_move rfl) ?_
        refine WL_v rfl (ov_nilCheck rfl) ?_
        refine WL_v rfl (ov_field rfl fo_impl_greedyRun_3) ?_
        refine WL_v rfl (ov_load rfl one_impl_nodeSet (hH.cb 0 rfl 3)) ?_
        refine WL_v rfl (ov_move rfl) ?_
        refine WL_call rfl rfl cf_impl_nodeSet_has (has_ok hH (by omega) (by omega)) ?_; rintro _ w5 ⟨rfl, hH5⟩
        refine WL_nil ?_
        refine WT_cond rfl (fun hin => ?_) (fun hin => ?_)
        · skip
          first | with_reducible replace hin := of_decide_eq_true hin | with_reducible replace hin := bn_T hin | with_reducible replace hin := bb_T hin | skip
          have hmb : (a : Int) ∈ st.bg := by rw [hbits] at hin; simpa using hin
          refine WT_exit rfl ?_
          refine again2 (j + 1, _, false) _ _ (by simp only; omega) (by repeat (first | exact trivial | refine ⟨rfl, ?_⟩)) ⟨by simp only; omega, hR2, st, hst, hbb, fun b hb => ?_, tv, dv, tk, X, BB, DD, T, hX, hp, hh, hBB, hDD, htk, hbits, hH5⟩
          simp only at hb
          rw [htake] at hb
          rcases List.mem_append.1 hb with h1 | h1
          · exact hta b h1
          · rw [List.mem_singleton] at h1
            exact h1 ▸ hmb
        first | with_reducible replace hin := of_decide_eq_false hin | with_reducible replace hin := bn_F hin | with_reducible replace hin := bb_F hin | skip
        subst hst2
        have hnb : (readyI p s.dn)[j] ∉ (takeTo p s k).bg := by rw [hae]; rw [hbits] at hin; simpa using hin
        have hnx : nextN p (takeTo p s k).bg (takeTo p s k).dn = some ((readyI p s.dn)[j]) := by rw [htt.2]; exact nextN_at hjl hta hnb
        rw [hae] at hnx
        have hneg : (takeTo p s k).has.getD k 0 < 0 := by omega
        have hts := takeW_some hneg hnx
        have hrun := runL_take hIk hkw hneg hnx
        have hcost : costN p (a : Int) = kindCost p[a].kind := by unfold costN; rw [Int.toNat_natCast, getD_of hap]
        have hck := costKind_valid (PlanOk.node hpv hap).kind
        have hcp := costN_pos p (a : Int)
        have hTl : T.length ≤ 4 := by
          have h1 := hp.length_eq
          have h2 := runL_len (takeTo p s k) wk
          omega
        obtain ⟨fv, rv2, hf, hrr, hcell⟩ := hP.node hap
        rw [htt.1] at hrun hts
        refine WT_skip ?_
        refine WT_seq ?_
        refine WT_region ?_
        refine WL_v rfl (ov_assign rfl) ?_
        refine WL_nil ?_
        refine WT_seq ?_
        refine WT_region ?_
        refine WL_v rfl (ov_move rfl) ?_
        refine WL_v rfl (ov_nilCheck rfl) ?_
        refine WL_v rfl (ov_field rfl fo_impl_greedyRun_2) ?_
        refine WL_v rfl (ov_load rfl one_sl_bool (hH5.cb 0 rfl 2)) ?_
        refine WL_v rfl (ov_move rfl) ?_
        refine WL_v rfl (ov_index rfl rfl st_sl_bool hbs hkw) ?_
        refine WL_storeRow (j := k * 1) hH5 rfl rfl (i := 2) rfl hBB (by rw [bmL_len]; omega) rfl sz_bool ?_; rintro BB2 w6 hBB2 hH6; rw [Nat.mul_one, bmL_set, bsy_set (a := (a : Int)) (un := (takeTo p s k).unt.set k ((s.t : Int) + costN p (a : Int))) (bg := (takeTo p s k).bg ++ [(a : Int)]) (dn := (takeTo p s k).dn) hIk.hl hkw (by omega)] at hBB2
        refine WL_nil ?_
        refine WT_seq ?_
        refine WT_region ?_
        refine WL_v rfl (ov_move rfl) ?_
        refine WL_v rfl (ov_move rfl) ?_
        refine WL_v rfl (ov_nilCheck rfl) ?_
        refine WL_v rfl (ov_field rfl fo_impl_greedyRun_3) ?_
        refine WL_v rfl (ov_load rfl one_impl_nodeSet (hH6.cb 0 rfl 3)) ?_
        refine WL_v rfl (ov_move rfl) ?_
        refine WL_call rfl rfl cf_impl_nodeSet_with (with_ok hH6 htk (show a < 10 by omega)) ?_; rintro _ w7 ⟨rfl, hH7⟩
        refine WL_v rfl (ov_nilCheck rfl) ?_
        refine WL_v rfl (ov_field rfl fo_impl_greedyRun_3) ?_
        refine WL_store hH7 rfl rfl (i := 0) (off := 3) rfl rfl (by simp) rfl sz_impl_nodeSet ?_; rintro w8 hH8; replace hH8 : H w8 h (rbx g pv s.t bv ((tk ||| 2 ^ a : Nat) : Int) dv tv :: X :: BB2 :: DD :: R :: Ls) := hH8
        refine WL_nil ?_
        refine WT_mix [(0, 1), (1, 1), (2, 1), (3, 1), (4, 1), (5, 1), (6, 1), (7, 0), (8, 1), (9, 1), (10, 1), (11, 0), (12, 1), (13, 1), (14, 1), (15, 0), (18, 1), (19, 1), (16, 2), (17, 1), (20, 1), (21, 1), (22, 2)] (CB h g pv s.t bv ((tk ||| 2 ^ a : Nat) : Int) dv) mixed (by kernel_rfl) hH8 ?_
        clear hH8
        intro w9 hH8
        have hC : (CB h g pv s.t bv ((tk ||| 2 ^ a : Nat) : Int) dv) _ := ⟨(_, _), hH8⟩
        refine WM_p rfl rfl (fun _ => ov_move rfl) ?_
        refine WM_p rfl rfl (fun _ => ov_nilCheck rfl) ?_
        refine WM_p rfl rfl (fun _ => ov_field rfl fo_impl_greedyRun_5) ?_
        refine WM_p rfl rfl (fun _ => ov_iface rfl mi_hp) ?_
        refine WM_p rfl rfl (fun _ => ov_move rfl) ?_
        refine WM_p rfl rfl (fun _ => ov_nilCheck rfl) ?_
        refine WM_p rfl rfl (fun _ => ov_field rfl fo_impl_greedyRun_1) ?_
        refine WM_v rfl rfl hC (fun _ ⟨_, hH⟩ => ov_load rfl one_int (hH.cb 0 rfl 1)) ?_
        refine WM_p rfl rfl (fun _ => ov_move rfl) ?_
        refine WM_p rfl rfl (fun _ => ov_nilCheck rfl) ?_
        refine WM_p rfl rfl (fun _ => ov_field rfl fo_impl_greedyRun_0) ?_
        refine WM_v rfl rfl hC (fun _ ⟨_, hH⟩ => ov_load rfl one_sl_impl_Node (hH.cb 0 rfl 0)) ?_
        refine WM_p rfl rfl (fun _ => ov_move rfl) ?_
        refine WM_p rfl rfl (fun _ => ov_index rfl rfl st_sl_impl_Node hP.sl hap) ?_
        refine WM_p rfl rfl (fun _ => ov_field rfl fo_impl_Node_0) ?_
        refine WM_v rfl rfl hC (fun _ ⟨_, hH⟩ => ov_load rfl one_int (hcell _ _ hH 0 _ rfl)) ?_
        refine WM_p rfl rfl (fun _ => ov_move rfl) ?_
        refine WM_p rfl rfl (fun _ => ov_move rfl) ?_
        refine WM_e rfl ?_
        refine WL_call rfl rfl cf_impl_CostKind (costKind_ok hH8 _) ?_; rintro _ w10 ⟨rfl, hH10⟩; rw [hck, ← hcost]
        replace hC : (CB h g pv s.t bv ((tk ||| 2 ^ a : Nat) : Int) dv) _ := ⟨(_, _), hH10⟩
        refine WL_mix (fun _ => hC) ?_
        refine WM_p rfl rfl (fun _ => ov_add rfl rfl (by omega)) ?_
        refine WM_p rfl rfl (fun _ => ov_build rfl (run_build_fin _ _ _)) ?_
        refine WM_p rfl rfl (fun _ => ov_iface rfl mi_fin) ?_
        refine WM_e rfl ?_
        refine WL_call rfl rfl cf_container_heap_Push (heapPush_ok hH10 hX (run_WB hwk hp) (by omega) hh ⟨(s.t : Int) + costN p (a : Int), (k : Int), (a : Int)⟩ (by simp only; omega)) ?_; rintro _ w11 ⟨tv2, X2, T2, hX2, hp2, hh2, hH11⟩
        replace hC : (CB h g pv s.t bv ((tk ||| 2 ^ a : Nat) : Int) dv) _ := ⟨(_, _), hH11⟩
        refine WL_mix (fun _ => hC) ?_
        refine WM_nil ?_
        refine WT_inBlock ?_
        refine again2 (j + 1, _, true) _ _ (by simp only; omega) (by repeat (first | exact trivial | refine ⟨rfl, ?_⟩)) ⟨by simp only; omega, hR2, takeW p (takeTo p s k) k, .inr ⟨rfl, ?_⟩, ?_, fun b hb => ?_, tv2, dv, tk ||| 2 ^ a, X2, BB2, DD, T2, hX2, ?_, hh2, ?_, ?_, ?_, fun i => ?_, hH11⟩
        · rw [hts]
          simp only
          rw [getD_setI (by rw [hIk.hl]; exact hkw), if_pos rfl]
          omega
        · rw [hts]
          simp only
          rw [getD_setI (by rw [hIk.hl]; exact hkw), if_pos rfl, decide_eq_true (by omega)]
        · simp only at hb
          rw [htake] at hb
          rw [hts]
          simp only
          rcases List.mem_append.1 hb with h1 | h1
          · exact List.mem_append_left _ (hta b h1)
          · exact List.mem_append_right _ h1
        · exact hp2.trans ((hp.append_right _).trans hrun.symm)
        · rw [hts]
          have : (⟨(takeTo p s k).t, (takeTo p s k).has.set k (a : Int), (takeTo p s k).unt.set k ((s.t : Int) + costN p (a : Int)), (takeTo p s k).bg ++ [(a : Int)], (takeTo p s k).dn⟩ : Gs) = ⟨s.t, (takeTo p s k).has.set k (a : Int), (takeTo p s k).unt.set k ((s.t : Int) + costN p (a : Int)), (takeTo p s k).bg ++ [(a : Int)], (takeTo p s k).dn⟩ := by rw [htt.1]
          rw [← this]
          exact hBB2
        · rw [hts]; exact hDD
        · exact Nat.or_lt_two_pow (n := 10) (by omega) (Nat.pow_lt_pow_right (by omega) (by omega))
        · rw [hts]
          exact bits_add hbits i
      · have he : st = takeTo p s (k + 1) := by
          show st = takeW p (takeTo p s k) k
          rw [hst2]
          rw [hst2] at hta
          exact (takeW_none (by rw [htt.2]; exact nextN_end (by omega) hta)).symm
        refine WT_seq ?_
        refine WT_seq ?_
        refine WT_region ?_
        refine WL_v rfl (ov_move rfl) ?_
        refine WL_v rfl (ov_T (ov_not rfl) (by first | exact decide_eq_true rfl | exact nb_T rfl | exact mb_T rfl | exact rfl | (simp only [decide_eq_true_eq]; omega) | simpa using rfl)) ?_
        refine WL_v rfl (ov_move rfl) ?_
        refine WL_guardOn rfl rfl ?_
        refine WL_v rfl (ov_move rfl) ?_
        refine WL_guardOn rfl rfl ?_
        refine WL_v rfl (ov_len rfl hRs st_sl_int) ?_
        refine WL_guardOn rfl rfl ?_
        refine WL_v rfl (ov_F (ov_gtr rfl rfl) (decide_eq_false (by omega))) ?_
        refine WL_v rfl (ov_pickT rfl rfl) ?_
        refine WL_nil ?_
        refine WT_condF rfl ?_
        refine WT_exit rfl ?_
        refine WT_inBlock ?_
        refine WT_region ?_
        refine WL_v rfl (ov_add rfl rfl (by omega)) ?_
        refine WL_v rfl (ov_move rfl) ?_
        refine WL_nil ?_
        exact again (k + 1, rv) _ _ (by simp only; omega) (by repeat (first | exact trivial | refine ⟨rfl, ?_⟩)) (hout he hS)
  first | with_reducible replace hc := of_decide_eq_false hc | with_reducible replace hc := bn_F hc | with_reducible replace hc := bb_F hc | skip
  have hkw : k = wk := by simp only at hc; omega
  subst hkw
  obtain ⟨tv, dv, tk, X, BB, DD, T, hX, hp, hh, hBB, hDD, htk, hbits, hH⟩ := hS
  refine WT_exit rfl ?_
  exact WT_end0 Try.func49 Try.results49 ⟨tv, dv, tk, X, BB, DD, T, hX, hp, hh, hBB, hDD, htk, hbits, hH.del 4 rfl⟩
end
end Go.Proofs.Ytafljegjdanldaa

/- Walks: greedy workers wait and are done, by the program. -/
namespace Go.Proofs.Ytafljegjdanldaa
open Go.RowKit

theorem runL_nil {s : Gs} {k : Nat} (h : runL s k = []) : ∀ w, w < k → ¬ 0 ≤ s.has.getD w 0 := fun w hw h0 => by
  have : (⟨s.unt.getD w 0, (w : Int), s.has.getD w 0⟩ : Ft) ∈ runL s k := mem_runL.2 ⟨w, hw, h0, rfl⟩
  rw [h] at this
  cases this
/-- The top of the heap. -/
theorem top_run {s : Gs} {wk : Nat} (hwk : wk ≤ 4) {T : List Ft} (hp : T.Perm (runL s wk)) (hh : Hp T T.length) (hl : 0 < T.length) :
    ∃ w0, w0 < wk ∧ 0 ≤ s.has.getD w0 0 ∧ T.getD 0 default = ⟨s.unt.getD w0 0, (w0 : Int), s.has.getD w0 0⟩ ∧ ∀ w, w < wk → 0 ≤ s.has.getD w 0 → s.unt.getD w0 0 < s.unt.getD w 0 ∨ (s.unt.getD w0 0 = s.unt.getD w 0 ∧ w0 ≤ w) := by
  have h0 : T.getD 0 default ∈ T := by rw [getD_ft hl]; exact List.getElem_mem hl
  obtain ⟨w0, h1, h2, h3⟩ := mem_runL.1 (hp.mem_iff.1 h0)
  refine ⟨w0, h1, h2, h3, fun w hw hr => ?_⟩
  have h4 : (⟨s.unt.getD w 0, (w : Int), s.has.getD w 0⟩ : Ft) ∈ T := hp.mem_iff.2 (mem_runL.2 ⟨w, hw, hr, rfl⟩)
  obtain ⟨k, hk, he⟩ := List.getElem_of_mem h4
  have h5 := hh.min k hk
  unfold kyT at h5
  rw [h3, getD_ft hk, he] at h5
  simp only [keyF] at h5
  omega

section
variable {h : GH} {Ls : List Heaplet} {w : World}

/-- What holds when all are done that can be. -/
def Wtd (h : GH) (Ls : List Heaplet) (wk g : Nat) (pv bv : Value) (s1 : Gs) (w' : World) : Prop :=
  ∃ t' : Nat, (∀ w, w < wk → 0 ≤ s1.has.getD w 0 → (t' : Int) ≤ s1.unt.getD w 0) ∧ s1.t < t' ∧ ISt h Ls wk g pv bv (finTo (s1.at t') wk) (t' : Int) w'

set_option maxHeartbeats 4000000 in
theorem wait_ok {pv bv : Value} {g : Nat} {p : List Nd} {wk : Nat} {s1 : Gs} (hlen : p.length ≤ 10) (hI1 : GI p wk (fun _ => 1) s1) (hwk : wk ≤ 4) {t0 : Int} (hne : runL s1 wk ≠ []) (hS : ISt h Ls wk g pv bv s1 t0 w) :
    Rets Try.prog 50 #[ptr g] w fun _ w' => Wtd h Ls wk g pv bv s1 w' := by
  obtain ⟨tv, dv, tk, X, BB, DD, T, hX, hp, hh, hBB, hDD, htk, hbits, hH⟩ := hS
  have hTl : 0 < T.length := by
    rcases Nat.eq_zero_or_pos T.length with h0 | h0
    · have : T = [] := List.eq_nil_of_length_eq_zero h0
      subst this
      exact absurd hp.nil_eq.symm hne
    · exact h0
  obtain ⟨w0, hw0, hr0, htop, hmin⟩ := top_run hwk hp hh hTl
  have hu0 := (hI1.rn w0 hw0 hr0).2.2
  obtain ⟨t', ht'⟩ : ∃ t' : Nat, s1.unt.getD w0 0 = (t' : Int) := ⟨(s1.unt.getD w0 0).toNat, by omega⟩
  have hle : ∀ w, w < wk → 0 ≤ s1.has.getD w 0 → (t' : Int) ≤ s1.unt.getD w 0 := fun w hw hr => by
    have := hmin w hw hr
    omega
  have hlt : s1.t < t' := by omega
  have hclk : GI p wk (fun _ => 0) (s1.at t') := hI1.clock hle
  have hbs := hBB.sl
  have hTs := hX.sl
  have hc0 := fun {w : World} {Ms : List Heaplet} {m : Nat} (hm : Ms[m]? = some X) (hH : H w h Ms) => hX.cell hm hTl hH 0 (.int .i64 (t' : Int)) (by rw [htop, ht']; rfl)
  refine rets_enter Try.func50 rfl Try.ntmps50 (by simp) ?_
  refine WT_seq ?_
  refine WT_region ?_
  refine WL_v rfl (ov_move rfl) ?_
  refine WL_v rfl (ov_move rfl) ?_
  refine WL_v rfl (ov_nilCheck rfl) ?_
  refine WL_v rfl (ov_field rfl fo_impl_greedyRun_5) ?_
  refine WL_v rfl (ov_load rfl one_impl_finishHeap (hH.cb 0 rfl 5)) ?_
  refine WL_v rfl (ov_index (i := 0) rfl rfl st_impl_finishHeap hTs hTl) ?_
  refine WL_v rfl (ov_field rfl fo_impl_finish_0) ?_
  refine WL_v rfl (ov_load rfl one_int (hc0 (m := 1) rfl hH)) ?_
  refine WL_v rfl (ov_nilCheck rfl) ?_
  refine WL_v rfl (ov_field rfl fo_impl_greedyRun_1) ?_
  refine WL_store hH rfl rfl (i := 0) (off := 1) rfl rfl (by simp) rfl sz_int ?_; rintro w1 hH1; replace hH1 : H w1 h (rbx g pv (t' : Int) bv (tk : Int) dv tv :: X :: BB :: DD :: Ls) := hH1
  refine WL_nil ?_
  refine WT_block ?_
  refine WT_while (fun m : Nat => [(0, ptr g)]) (fun m w => m ≤ wk ∧ ISt h Ls wk g pv bv (finTo (s1.at t') m) (t' : Int) w) (fun m => wk - m) 0 (by repeat (first | exact trivial | refine ⟨rfl, ?_⟩)) ⟨by omega, tv, dv, tk, X, BB, DD, T, hX, by show T.Perm (runL (s1.at t') wk); rw [runL_at]; exact hp, hh, hBB, hDD, htk, hbits, hH1⟩ ?_
  clear hH hH1 hX hp hh hBB hDD htk hbits hTl htop hTs hc0 tv dv tk X BB DD T
  rintro m w2 ⟨hm, tv, dv, tk, X, BB, DD, T, hX, hp, hh, hBB, hDD, htk, hbits, hH⟩ again
  have hIm := hclk.fins m hm
  have hft := (finTo_t (s1.at t') m).1
  have hftt : ((finTo (s1.at t') m).t : Int) = (t' : Int) := by rw [hft]; rfl
  have hTs := hX.sl
  have hTlim : T.length ≤ 4 := by
    have h1 := hp.length_eq
    have h2 := runL_len (finTo (s1.at t') m) wk
    omega
  have hdl := hIm.cl.len
  have hfin : (∀ w, m ≤ w → w < wk → ¬ (0 ≤ (finTo (s1.at t') m).has.getD w 0 ∧ (finTo (s1.at t') m).unt.getD w 0 = (t' : Int))) → ∀ {w : World}, H w h (rbx g pv (t' : Int) bv (tk : Int) dv tv :: X :: BB :: DD :: Ls) → Wtd h Ls wk g pv bv s1 w := fun hno {w} hH => by
    have h1 := finTo_skip (s := s1.at t') (k := m) (wk - m) fun w h1 h2 => by rw [hftt]; exact hno w h1 (by omega)
    rw [show m + (wk - m) = wk by omega] at h1
    exact ⟨t', hle, hlt, by rw [h1]; exact ⟨tv, dv, tk, X, BB, DD, T, hX, hp, hh, hBB, hDD, htk, hbits, hH⟩⟩
  by_cases hTl : 0 < T.length
  · obtain ⟨w0', hw0', hr0', htop', hmin'⟩ := top_run hwk hp hh hTl
    have hrn := (hIm.rn w0' hw0' hr0').2.2
    refine WT_seq ?_
    refine WT_seq ?_
    refine WT_quiet mixed (by kernel_rfl) hH ?_
    clear hH
    refine WQ_v rfl (fun _ _ => ov_move rfl) ?_
    refine WQ_v rfl (fun _ _ => ov_nilCheck rfl) ?_
    refine WQ_v rfl (fun _ _ => ov_field rfl fo_impl_greedyRun_5) ?_
    refine WQ_v rfl (fun _ hH => ov_load rfl one_impl_finishHeap (hH.cb 0 rfl 5)) ?_
    refine WQ_v rfl (fun _ _ => ov_len rfl hTs st_impl_finishHeap) ?_
    refine WQ_v rfl (fun _ _ => ov_T (ov_gtr rfl rfl) (decide_eq_true (by omega))) ?_
    refine WQ_v rfl (fun _ _ => ov_move rfl) ?_
    refine WQ_guardOn rfl rfl ?_
    refine WQ_v rfl (fun _ _ => ov_move rfl) ?_
    refine WQ_guardOn rfl rfl ?_
    refine WQ_v rfl (fun _ _ => ov_nilCheck rfl) ?_
    refine WQ_guardOn rfl rfl ?_
    refine WQ_v rfl (fun _ _ => ov_field rfl fo_impl_greedyRun_5) ?_
    refine WQ_guardOn rfl rfl ?_
    refine WQ_v rfl (fun _ hH => ov_load rfl one_impl_finishHeap (hH.cb 0 rfl 5)) ?_
    refine WQ_guardOn rfl rfl ?_
    refine WQ_v rfl (fun _ _ => ov_index (i := 0) rfl rfl st_impl_finishHeap hTs hTl) ?_
    refine WQ_guardOn rfl rfl ?_
    refine WQ_v rfl (fun _ _ => ov_field rfl fo_impl_finish_0) ?_
    refine WQ_guardOn rfl rfl ?_
    refine WQ_v rfl (fun _ hH => ov_load rfl one_int (hX.cell (m := 1) rfl hTl hH 0 _ (by rw [htop']; rfl))) ?_
    refine WQ_guardOn rfl rfl ?_
    refine WQ_v rfl (fun _ _ => ov_move rfl) ?_
    refine WQ_guardOn rfl rfl ?_
    refine WQ_v rfl (fun _ _ => ov_nilCheck rfl) ?_
    refine WQ_guardOn rfl rfl ?_
    refine WQ_v rfl (fun _ _ => ov_field rfl fo_impl_greedyRun_1) ?_
    refine WQ_guardOn rfl rfl ?_
    refine WQ_v rfl (fun _ hH => ov_load rfl one_int (hH.cb 0 rfl 1)) ?_
    refine WQ_guardOn rfl rfl ?_
    refine WQ_v rfl (fun _ _ => ov_eql rfl rfl) ?_
    refine WQ_v rfl (fun _ _ => ov_pickT rfl rfl) ?_
    refine WQ_nil ?_
    intro w3 hH
    refine WT_cond rfl (fun heq => ?_) (fun heq => ?_)
    · skip
      first | with_reducible replace heq := of_decide_eq_true heq | with_reducible replace heq := bn_T heq | with_reducible replace heq := bb_T heq | skip
      have hmw : m ≤ w0' := by
        rcases Nat.lt_or_ge w0' m with h1 | h1
        · simp only [eAt, if_pos h1] at hrn
          rw [hftt] at hrn
          simp only at heq
          omega
        · exact h1
      have hut : (finTo (s1.at t') m).unt.getD w0' 0 = (t' : Int) := heq
      have hsk := finTo_skip (s := s1.at t') (k := m) (w0' - m) fun w h1 h2 => by
        rintro ⟨h3, h4⟩
        rw [hftt] at h4
        have := hmin' w (by omega) h3
        omega
      rw [show m + (w0' - m) = w0' by omega] at hsk
      have hst : finTo (s1.at t') (w0' + 1) = finW (finTo (s1.at t') m) w0' := by
        show finW (finTo (s1.at t') w0') w0' = _
        rw [hsk]
      have hfw : finW (finTo (s1.at t') m) w0' = ⟨(finTo (s1.at t') m).t, (finTo (s1.at t') m).has.set w0' (-1), (finTo (s1.at t') m).unt, (finTo (s1.at t') m).bg, (finTo (s1.at t') m).dn ++ [(finTo (s1.at t') m).has.getD w0' 0]⟩ := by
        unfold finW
        rw [if_pos ⟨hr0', by rw [hftt]; exact hut⟩]
      have hrf := runL_fin hIm.hl hw0' hr0' (by rw [hftt]; exact hut)
      obtain ⟨n, hn⟩ : ∃ n, T.length = n + 1 := ⟨T.length - 1, by omega⟩
      obtain ⟨a, ha⟩ : ∃ a : Nat, (finTo (s1.at t') m).has.getD w0' 0 = (a : Int) := ⟨((finTo (s1.at t') m).has.getD w0' 0).toNat, by omega⟩
      have hpop := fun {w : World} (hH : H w h (rbx g pv (t' : Int) bv (tk : Int) dv tv :: X :: BB :: DD :: Ls)) => heapPop_ok hH hX (run_WB hwk hp) hn (by omega) hh
      rw [htop', ha] at hpop
      refine WT_skip ?_
      refine WT_block ?_
      refine WT_seq ?_
      refine WT_region ?_
      refine WL_v rfl (ov_move rfl) ?_
      refine WL_v rfl (ov_nilCheck rfl) ?_
      refine WL_v rfl (ov_field rfl fo_impl_greedyRun_5) ?_
      refine WL_v rfl (ov_iface rfl mi_hp) ?_
      refine WL_call rfl rfl cf_container_heap_Pop (hpop hH) ?_; rintro _ w4 ⟨rfl, tv2, X2, T2, hX2, hp2, hh2, hH4⟩
      refine WL_v rfl (ov_ta2 rfl (ta_fin _)) ?_
      refine WL_alloc _ rfl hH4 zero_impl_finish rfl ?_; rintro b w5 hH5
      refine WL_storeN hH5 rfl rfl (i := 0) rfl rfl rfl (ones_cons rfl (ones_cons rfl (ones_cons rfl ones_nil))) sz_impl_finish ?_; rintro w6 hH6
      refine WL_nil ?_
      refine WT_seq ?_
      refine WT_mixL [(0, 1), (1, 1), (2, 1), (3, 0), (4, 1), (5, 0), (6, 1), (7, 3)] mixed (by kernel_rfl) hH6 ?_
      clear hH6
      intro w7 hH6 hC
      refine WM_p rfl rfl (fun _ => ov_move rfl) ?_
      refine WM_p rfl rfl (fun _ => ov_nilCheck rfl) ?_
      refine WM_p rfl rfl (fun _ => ov_field rfl fo_impl_greedyRun_2) ?_
      refine WM_v rfl rfl hC (fun _ ⟨_, hH⟩ => ov_load rfl one_sl_bool (hH.cb 2 rfl 2)) ?_
      refine WM_p rfl rfl (fun _ => ov_field rfl fo_impl_finish_1) ?_
      refine WM_v rfl rfl hC (fun _ ⟨_, hH⟩ => ov_load rfl one_int (hH.cb 1 rfl 1)) ?_
      refine WM_p rfl rfl (fun _ => ov_index rfl rfl st_sl_bool hbs hw0') ?_
      refine WM_e rfl ?_
      refine WL_storeRow (j := w0' * 1) hH6 rfl rfl (i := 3) rfl hBB (by rw [bmL_len]; omega) rfl sz_bool ?_; rintro BB2 w8 hBB2 hH8; rw [Nat.mul_one, bmL_clr, bsy_fin (un := (finTo (s1.at t') m).unt) (bg := (finTo (s1.at t') m).bg) (dn := (finTo (s1.at t') m).dn ++ [(finTo (s1.at t') m).has.getD w0' 0]) hIm.hl hw0'] at hBB2
      refine WL_mix (fun h => absurd rfl h) ?_
      refine WM_nil ?_
      refine WT_mixL [(0, 1), (1, 1), (2, 1), (3, 1), (4, 0), (5, 1), (6, 0), (7, 2), (8, 3), (9, 1), (10, 1), (11, 3)] mixed (by kernel_rfl) hH8 ?_
      clear hH8
      intro w9 hH8 hC
      refine WM_p rfl rfl (fun _ => ov_move rfl) ?_
      refine WM_p rfl rfl (fun _ => ov_move rfl) ?_
      refine WM_p rfl rfl (fun _ => ov_nilCheck rfl) ?_
      refine WM_p rfl rfl (fun _ => ov_field rfl fo_impl_greedyRun_4) ?_
      refine WM_v rfl rfl hC (fun _ ⟨_, hH⟩ => ov_load rfl one_sl_int (hH.cb 2 rfl 4)) ?_
      refine WM_p rfl rfl (fun _ => ov_field rfl fo_impl_finish_2) ?_
      refine WM_v rfl rfl hC (fun _ ⟨_, hH⟩ => ov_load rfl one_int (hH.cb 1 rfl 2)) ?_
      refine WM_e rfl ?_
      refine WL_bsI rfl hH8 rfl (run_bs_int _) ?_; rintro Z zv w10 hZ hH10
      replace hC : Cl _ _ _ := Cl.manyM [Z] hH10
      refine WL_mix (fun _ => hC) ?_
      refine WM_e rfl ?_
      refine WL_appI (i := 5) (j := 0) rfl hH10 rfl rfl st_sl_int rfl hDD rfl hZ (by simp; omega) (by simp; omega) ?_; rintro DD2 dv2 w11 hDD2 hH11
      refine WL_mix (fun h => absurd rfl h) ?_
      refine WM_p rfl rfl (fun _ => ov_nilCheck rfl) ?_
      refine WM_p rfl rfl (fun _ => ov_field rfl fo_impl_greedyRun_4) ?_
      refine WM_e rfl ?_
      refine WL_store hH11 rfl rfl (i := 2) (off := 4) rfl rfl (by simp) hDD2.sl.one sz_sl_int ?_; rintro w12 hH12; replace hH12 : H w12 h (Z :: _ :: rbx g pv (t' : Int) bv (tk : Int) dv2 tv2 :: X2 :: BB2 :: DD2 :: Ls) := hH12
      refine WL_mix (fun h => absurd rfl h) ?_
      refine WM_nil ?_
      refine WT_inBlock ?_
      refine again (w0' + 1) _ _ (by omega) (by repeat (first | exact trivial | refine ⟨rfl, ?_⟩)) ⟨by omega, tv2, dv2, tk, X2, BB2, DD2, T2, hX2, ?_, hh2, ?_, ?_, htk, ?_, hH12.drop.drop⟩
      · rw [hst]
        have h1 := (hp2.trans hp).trans hrf
        rw [hut, ha] at h1
        exact (List.perm_append_right_iff _).1 h1
      · rw [hst, hfw]; exact hBB2
      · rw [hst, hfw]
        show IRow DD2 _ _ ((finTo (s1.at t') m).dn ++ [(finTo (s1.at t') m).has.getD w0' 0])
        rw [ha]
        exact hDD2
      · rw [hst, hfw]; exact hbits
    first | with_reducible replace heq := of_decide_eq_false heq | with_reducible replace heq := bn_F heq | with_reducible replace heq := bb_F heq | skip
    refine WT_exit rfl ?_
    exact WT_end0 Try.func50 Try.results50 (hfin (fun w h1 h2 => by
      rintro ⟨h3, h4⟩
      have h5 := hmin' w h2 h3
      have h6 := (hclk.fins m hm).rn w0' hw0' hr0'
      have h7 := h6.2.2
      rw [hftt] at h7
      have h8 : eAt m w0' = 0 ∨ eAt m w0' = 1 := by unfold eAt; split <;> simp
      simp only at heq
      omega) hH)
  · have hT0 : T = [] := List.eq_nil_of_length_eq_zero (by omega)
    refine WT_seq ?_
    refine WT_seq ?_
    refine WT_quiet mixed (by kernel_rfl) hH ?_
    clear hH
    refine WQ_v rfl (fun _ _ => ov_move rfl) ?_
    refine WQ_v rfl (fun _ _ => ov_nilCheck rfl) ?_
    refine WQ_v rfl (fun _ _ => ov_field rfl fo_impl_greedyRun_5) ?_
    refine WQ_v rfl (fun _ hH => ov_load rfl one_impl_finishHeap (hH.cb 0 rfl 5)) ?_
    refine WQ_v rfl (fun _ _ => ov_len rfl hTs st_impl_finishHeap) ?_
    refine WQ_v rfl (fun _ _ => ov_F (ov_gtr rfl rfl) (decide_eq_false (by omega))) ?_
    refine WQ_v rfl (fun _ _ => ov_move rfl) ?_
    refine WQ_guardOff rfl rfl rfl rfl ?_
    refine WQ_guardOff rfl rfl rfl rfl ?_
    refine WQ_guardOff rfl rfl rfl rfl ?_
    refine WQ_guardOff rfl rfl rfl rfl ?_
    refine WQ_guardOff rfl rfl rfl rfl ?_
    refine WQ_guardOff rfl rfl rfl rfl ?_
    refine WQ_guardOff rfl rfl rfl rfl ?_
    refine WQ_guardOff rfl rfl rfl rfl ?_
    refine WQ_guardOff rfl rfl rfl rfl ?_
    refine WQ_guardOff rfl rfl rfl rfl ?_
    refine WQ_guardOff rfl rfl rfl rfl ?_
    refine WQ_guardOff rfl rfl rfl rfl ?_
    refine WQ_v rfl (fun _ _ => ov_pickF rfl rfl) ?_
    refine WQ_nil ?_
    intro w3 hH
    refine WT_condF rfl ?_
    refine WT_exit rfl ?_
    exact WT_end0 Try.func50 Try.results50 (hfin (fun w h1 h2 h3 => by
      subst hT0
      exact runL_nil hp.nil_eq.symm w h2 h3.1) hH)
end
end Go.Proofs.Ytafljegjdanldaa

/- Walks: what greedy workers need, by the program. -/
namespace Go.Proofs.Ytafljegjdanldaa
open Go.RowKit

theorem start_has {p : List Nd} {wk : Nat} : ∀ w, w < wk → (stN p wk 0).has.getD w 0 = -1 := fun w hw => by
  show (List.replicate wk (-1 : Int)).getD w 0 = -1
  rw [List.getD_eq_getElem?_getD, List.getElem?_replicate, if_pos hw]; rfl
theorem start_run (p : List Nd) (wk : Nat) : runL (stN p wk 0) wk = [] := by
  cases hr : runL (stN p wk 0) wk with
  | nil => rfl
  | cons f l =>
    obtain ⟨w, h1, h2, _⟩ := mem_runL.1 (show f ∈ runL (stN p wk 0) wk by rw [hr]; simp)
    rw [start_has w h1] at h2
    omega
theorem start_bsy (p : List Nd) (wk : Nat) : bmL (fun _ => false) wk = bmL (bsyB (stN p wk 0)) wk := bmL_congr fun i hi => by
  unfold bsyB
  rw [start_has i hi]; rfl

section
variable {h : GH} {Ls : List Heaplet} {w : World}

set_option maxHeartbeats 2000000 in
theorem costGreedy_yes (hH : H w h Ls) {pv : Value} {p : List Nd} (hP : Plan h pv p) (hpv : planOk p = true) {wk : Nat} (h1 : 1 ≤ wk) (h4 : wk ≤ 4) :
    Rets Try.prog 17 #[pv, .int .i64 (wk : Int)] w fun v w' => (∃ T : Nat, v = .int .i64 (T : Int) ∧ IsEnd p wk T) ∧ H w' h Ls := by
  have hlen := PlanOk.len hpv
  have hsum := sumTo_rg p p.length
  have hva := fun {w : World} {Ls : List Heaplet} (hH : H w h Ls) => planValid_ok hH hP
  rw [hpv] at hva
  refine rets_enter Try.func17 rfl Try.ntmps17 (by simp) ?_
  refine WT_seq ?_
  refine WT_region ?_
  refine WL_v rfl (ov_assign rfl) ?_
  refine WL_nil ?_
  refine WT_seq ?_
  refine WT_seq ?_
  refine WT_region ?_
  refine WL_v rfl (ov_move rfl) ?_
  refine WL_call rfl rfl cf_impl_PlanValid (hva hH) ?_; rintro _ w1 ⟨rfl, hH1⟩
  refine WL_v rfl (ov_F (ov_not rfl) (by first | exact decide_eq_false rfl | exact nb_F rfl | exact mb_F rfl | exact rfl | (simp only [decide_eq_false_iff_not]; omega) | simpa using rfl)) ?_
  refine WL_v rfl (ov_move rfl) ?_
  refine WL_guardOn rfl rfl ?_
  refine WL_v rfl (ov_move rfl) ?_
  refine WL_guardOn rfl rfl ?_
  refine WL_call rfl rfl cf_impl_workersFit (workersFit_ok hH1 _) ?_; rintro _ w2 ⟨rfl, hH2⟩
  refine WL_guardOn rfl rfl ?_
  refine WL_v rfl (ov_F (ov_not rfl) (by rw [decide_eq_true (by omega)]; rfl)) ?_
  refine WL_v rfl (ov_pickF rfl rfl) ?_
  refine WL_nil ?_
  refine WT_condF rfl ?_
  refine WT_skip ?_
  refine WT_seq ?_
  refine WT_region ?_
  refine WL_v rfl (ov_move rfl) ?_
  refine WL_v rfl (ov_move rfl) ?_
  refine WL_make (sz := 1) (n := wk) (c := wk) rfl hH2 rfl rfl st_sl_bool (by omega) (by omega) (by omega) (by omega) ?_; rintro BB bv w3 hBB hH3; rw [bmL_nil, start_bsy p wk] at hBB
  refine WL_v rfl (ov_build rfl (run_build_gr hP.sl hBB.sl)) ?_
  refine WL_alloc _ rfl hH3 zero_impl_greedyRun rfl ?_; rintro g w4 hH4
  refine WL_storeN hH4 rfl rfl (i := 0) rfl rfl rfl (ones_cons hP.sl.one (ones_cons rfl (ones_cons hBB.sl.one (ones_cons rfl (ones_cons rfl (ones_cons rfl ones_nil)))))) sz_impl_greedyRun ?_; rintro w5 hH5; replace hH5 : H w5 h (rbx g pv 0 bv 0 (.slice none 0 0) (.slice none 0 0) :: BB :: Ls) := hH5
  refine WL_nil ?_
  refine WT_seq ?_
  refine WT_seq ?_
  refine WT_region ?_
  have hH6 : H w5 h (rbx g pv 0 bv 0 (.slice none 0 0) (.slice none 0 0) :: [] :: BB :: [] :: Ls) := by
    have h6 : H w5 h ([] :: rbx g pv 0 bv 0 (.slice none 0 0) (.slice none 0 0) :: [] :: BB :: Ls) := hH5.nilIn.swap.nilIn
    exact ((h6.pull 3 rfl).pull 1 rfl).pull 2 rfl
  have hS0 : ISt h Ls wk g pv bv (stN p wk 0) (((stN p wk 0).t : Nat) : Int) w5 := ⟨.slice none 0 0, .slice none 0 0, 0, [], BB, [], [], Row.nil _ _, by rw [start_run], fun k _ h => by simp at h, hBB, IRow.nil _, by omega, fun a => by simp [stN], hH6⟩
  refine WL_call rfl rfl cf_p_impl_greedyRun_start (start_ok hP hpv (GI.st p wk 0) h4 (by show (0 : Nat) ≤ 1000; omega) hS0) ?_; rintro _ w6 hS1
  refine WL_nil ?_
  refine WT_block ?_
  refine WT_while (fun k : Nat => [(0, pv), (1, .int .i64 (wk : Int)), (5, ptr g)]) (fun k w => (∀ j, j < k → (stN p wk j).dn.length < p.length) ∧ ISt h Ls wk g pv bv (takeTo p (stN p wk k) wk) (((stN p wk k).t : Nat) : Int) w) (fun k => 1000 - k) 0 (by repeat (first | exact trivial | refine ⟨rfl, ?_⟩)) ⟨fun j hj => absurd hj (Nat.not_lt_zero j), hS1⟩ ?_
  clear hH hH1 hH2 hH3 hH4 hH5 hH6 hBB hS0 hS1 BB
  rintro k w7 ⟨hall, hS⟩ again
  have hkt := stN_t p wk k
  have hkl := st_le hpv (by omega) hall
  have hI := GI.st p wk k
  have hI1 := hI.takes wk (Nat.le_refl _)
  have hcalm := calm_takes hI wk (Nat.le_refl _)
  have ht1 := takeTo_t p (stN p wk k) wk
  have hS2 := hS
  obtain ⟨tv, dv, tk, X, BB, DD, T, hX, hp, hh, hBB, hDD, htk, hbits, hH⟩ := hS2
  refine WT_seq ?_
  refine WT_seq ?_
  refine WT_region ?_
  refine WL_v rfl (ov_field rfl fo_impl_greedyRun_5) ?_
  refine WL_v rfl (ov_load rfl one_impl_finishHeap (hH.cb 0 rfl 5)) ?_
  refine WL_v rfl (ov_len rfl hX.sl st_impl_finishHeap) ?_
  refine WL_v rfl (ov_gtr rfl rfl) ?_
  refine WL_nil ?_
  refine WT_cond rfl (fun hc => ?_) (fun hc => ?_)
  · skip
    first | with_reducible replace hc := of_decide_eq_true hc | with_reducible replace hc := bn_T hc | with_reducible replace hc := bb_T hc | skip
    have hTl : 0 < T.length := by omega
    have hne : runL (takeTo p (stN p wk k) wk) wk ≠ [] := fun he => by
      rw [he] at hp
      have := hp.length_eq
      rw [List.length_nil] at this
      omega
    have hdl : (stN p wk k).dn.length < p.length := by
      rcases Nat.lt_or_ge (stN p wk k).dn.length p.length with h9 | h9
      · exact h9
      · exfalso
        obtain ⟨f, hf⟩ := List.exists_mem_of_ne_nil _ hne
        obtain ⟨v, hv, hr, _⟩ := mem_runL.1 hf
        have hb := hI1.br _ (hI1.bh v hv hr)
        have hcl := hI1.cl
        have h8 := hcl.all (i := ((takeTo p (stN p wk k) wk).has.getD v 0).toNat) (by rw [ht1.2]; exact h9) (by omega)
        rw [Int.toNat_of_nonneg hb.1] at h8
        exact (hI1.rn v hv hr).1 h8
    refine WT_skip ?_
    refine WT_seq ?_
    refine WT_block ?_
    refine WT_region ?_
    refine WL_call rfl rfl cf_p_impl_greedyRun_wait (wait_ok hlen hI1 h4 hne hS) ?_; rintro _ w8 ⟨t', hle, hlt, hSw⟩
    refine WL_nil ?_
    refine WT_inBlock ?_
    refine WT_region ?_
    rw [ht1.1, hkt] at hlt
    obtain ⟨htick, hdn⟩ := ticks_to hlt hle
    rw [← htick] at hSw
    have hall2 : ∀ j, j < t' → (stN p wk j).dn.length < p.length := fun j hj => by
      rcases Nat.lt_or_ge j k with h9 | h9
      · exact hall j h9
      · rw [hdn j h9 hj]; exact hdl
    have htl := st_le hpv (by omega) hall2
    have htt := stN_t p wk t'
    rw [show ((t' : Nat) : Int) = (((stN p wk t').t : Nat) : Int) by rw [htt]] at hSw
    refine WL_call rfl rfl cf_p_impl_greedyRun_start (start_ok hP hpv (GI.st p wk t') h4 (by omega) hSw) ?_; rintro _ w9 hSn
    refine WL_nil ?_
    exact again t' _ _ (by omega) (by repeat (first | exact trivial | refine ⟨rfl, ?_⟩)) ⟨hall2, hSn⟩
  first | with_reducible replace hc := of_decide_eq_false hc | with_reducible replace hc := bn_F hc | with_reducible replace hc := bb_F hc | skip
  have hT0 : T = [] := List.eq_nil_of_length_eq_zero (by omega)
  have hend : p.length ≤ (stN p wk k).dn.length := by
    rcases Nat.lt_or_ge (stN p wk k).dn.length p.length with h9 | h9
    · exfalso
      obtain ⟨v, hv, hr⟩ := hI1.busy hpv (by omega) hcalm (by rw [ht1.2]; exact h9)
      subst hT0
      exact runL_nil hp.nil_eq.symm v hv hr
    · exact h9
  refine WT_exit rfl ?_
  refine WT_seq ?_
  refine WT_region ?_
  refine WL_v rfl (ov_field rfl fo_impl_greedyRun_1) ?_
  refine WL_v rfl (ov_load rfl one_int (hH.cb 0 rfl 1)) ?_
  refine WL_v rfl (ov_assign rfl) ?_
  refine WL_nil ?_
  exact WT_ret1 Try.func17 Try.results17 rfl ⟨⟨k, by rw [hkt]; rfl, hend, hall⟩, hH.drop.drop.drop.drop⟩

theorem costGreedy_no (hH : H w h Ls) {pv : Value} {p : List Nd} (hP : Plan h pv p) {n : Int} (hb : ¬ (planOk p = true ∧ 1 ≤ n ∧ n ≤ 4)) :
    Rets Try.prog 17 #[pv, .int .i64 n] w fun v w' => v = .int .i64 (-1) ∧ H w' h Ls := by
  have hva := fun {w : World} {Ls : List Heaplet} (hH : H w h Ls) => planValid_ok hH hP
  refine rets_enter Try.func17 rfl Try.ntmps17 (by simp) ?_
  by_cases hv : planOk p = true
  · rw [hv] at hva
    have hn : ¬ (1 ≤ n ∧ n ≤ 4) := fun h0 => hb ⟨hv, h0⟩
    refine WT_seq ?_
    refine WT_region ?_
    refine WL_v rfl (ov_assign rfl) ?_
    refine WL_nil ?_
    refine WT_seq ?_
    refine WT_seq ?_
    refine WT_region ?_
    refine WL_v rfl (ov_move rfl) ?_
    refine WL_call rfl rfl cf_impl_PlanValid (hva hH) ?_; rintro _ w1 ⟨rfl, hH1⟩
    refine WL_v rfl (ov_F (ov_not rfl) (by first | exact decide_eq_false rfl | exact nb_F rfl | exact mb_F rfl | exact rfl | (simp only [decide_eq_false_iff_not]; omega) | simpa using rfl)) ?_
    refine WL_v rfl (ov_move rfl) ?_
    refine WL_guardOn rfl rfl ?_
    refine WL_v rfl (ov_move rfl) ?_
    refine WL_guardOn rfl rfl ?_
    refine WL_call rfl rfl cf_impl_workersFit (workersFit_ok hH1 _) ?_; rintro _ w2 ⟨rfl, hH2⟩
    refine WL_guardOn rfl rfl ?_
    refine WL_v rfl (ov_T (ov_not rfl) (by rw [decide_eq_false hn]; rfl)) ?_
    refine WL_v rfl (ov_pickF rfl rfl) ?_
    refine WL_nil ?_
    refine WT_condT rfl ?_
    refine WT_seq ?_
    refine WT_region ?_
    refine WL_v rfl (ov_assign rfl) ?_
    refine WL_nil ?_
    exact WT_ret1 Try.func17 Try.results17 rfl ⟨rfl, hH2⟩
  · rw [show planOk p = false by simpa using hv] at hva
    refine WT_seq ?_
    refine WT_region ?_
    refine WL_v rfl (ov_assign rfl) ?_
    refine WL_nil ?_
    refine WT_seq ?_
    refine WT_seq ?_
    refine WT_region ?_
    refine WL_v rfl (ov_move rfl) ?_
    refine WL_call rfl rfl cf_impl_PlanValid (hva hH) ?_; rintro _ w1 ⟨rfl, hH1⟩
    refine WL_v rfl (ov_T (ov_not rfl) (by first | exact decide_eq_true rfl | exact nb_T rfl | exact mb_T rfl | exact rfl | (simp only [decide_eq_true_eq]; omega) | simpa using rfl)) ?_
    refine WL_v rfl (ov_move rfl) ?_
    refine WL_guardOff rfl rfl rfl rfl ?_
    refine WL_guardOff rfl rfl rfl rfl ?_
    refine WL_guardOff rfl rfl rfl rfl ?_
    refine WL_v rfl (ov_pickT rfl rfl) ?_
    refine WL_nil ?_
    refine WT_condT rfl ?_
    refine WT_seq ?_
    refine WT_region ?_
    refine WL_v rfl (ov_assign rfl) ?_
    refine WL_nil ?_
    exact WT_ret1 Try.func17 Try.results17 rfl ⟨rfl, hH1⟩
end
end Go.Proofs.Ytafljegjdanldaa

/- Walks: greedy workers, by the reference. -/
namespace Go.Proofs.Ytafljegjdanldaa
open Go.RowKit

theorem getD_get {l : List Int} {i : Nat} (h : i < l.length) : l.getD i 0 = l[i] := getD_elem h
theorem readyOf_I {p : List Nd} (hv : planOk p = true) (D : List Int) : readyOf p D = readyI p D := by
  unfold readyOf
  rw [if_pos hv]; rfl

section
variable {h : GH} {Ls : List Heaplet} {w : World}

set_option maxHeartbeats 2000000 in
theorem l31Take_ok {pv gv dv hv uv : Value} {p : List Nd} {wk : Nat} {s : Gs} {G HS UN DN : Heaplet} (hP : Plan h pv p) (hpv : planOk p = true) (hI : GI p wk (fun _ => 1) s) (hwk : wk ≤ 4) (ht : s.t ≤ 1000) (hG : IRow G 3 gv s.bg) (hHS : IRow HS 3 hv s.has) (hUN : IRow UN 3 uv s.unt) (hDN : IRow DN 3 dv s.dn)
    (hH : H w h (G :: HS :: UN :: DN :: Ls)) : Rets Try.prog 52 #[pv, gv, dv, hv, uv, .int .i64 (s.t : Int)] w fun v w' => ∃ gv' G' HS' UN', v = .tuple #[gv', hv, uv] ∧ IRow G' 3 gv' (takeTo p s wk).bg ∧ IRow HS' 3 hv (takeTo p s wk).has ∧ IRow UN' 3 uv (takeTo p s wk).unt ∧ H w' h (G' :: HS' :: UN' :: DN :: Ls) := by
  have hlen := PlanOk.len hpv
  have hdl := hI.cl.len
  refine rets_enter Try.func52 rfl Try.ntmps52 (by simp) ?_
  refine WT_seq ?_
  refine WT_region ?_
  refine WL_v rfl (ov_assign rfl) ?_
  refine WL_v rfl (ov_assign rfl) ?_
  refine WL_v rfl (ov_assign rfl) ?_
  refine WL_nil ?_
  refine WT_seq ?_
  refine WT_seq ?_
  refine WT_region ?_
  refine WL_v rfl (ov_assign rfl) ?_
  refine WL_nil ?_
  refine WT_block ?_
  refine WT_while (fun s' : Nat × Value => [(0, pv), (1, s'.2), (2, dv), (3, hv), (4, uv), (5, .int .i64 (s.t : Int)), (15, .int .i64 (s'.1 : Int))]) (fun s' w => s'.1 ≤ wk ∧ ∃ G HS UN, IRow G 3 s'.2 (takeTo p s s'.1).bg ∧ IRow HS 3 hv (takeTo p s s'.1).has ∧ IRow UN 3 uv (takeTo p s s'.1).unt ∧ H w h (G :: HS :: UN :: DN :: Ls)) (fun s' => wk - s'.1) (0, gv) (by repeat (first | exact trivial | refine ⟨rfl, ?_⟩)) ⟨by omega, G, HS, UN, hG, hHS, hUN, hH⟩ ?_
  clear hH hG hHS hUN G HS UN
  rintro ⟨k, gv⟩ w1 ⟨hk, G, HS, UN, hG, hHS, hUN, hH⟩ again
  simp only at hk hG hHS hUN hH
  have hIk := hI.takes k hk
  have htk := takeTo_t p s k
  have hhl := hIk.hl
  have hul := hIk.ul
  have hbl : (takeTo p s k).bg.length ≤ p.length := nodup_lenI hIk.bn hIk.br
  refine WT_seq ?_
  refine WT_seq ?_
  refine WT_region ?_
  refine WL_v rfl (ov_move rfl) ?_
  refine WL_v rfl (ov_move rfl) ?_
  refine WL_v rfl (ov_len rfl hHS.sl st_sl_int) ?_; rw [hhl]
  refine WL_v rfl (ov_lss rfl rfl) ?_
  refine WL_nil ?_
  refine WT_cond rfl (fun hc => ?_) (fun hc => ?_)
  · skip
    first | with_reducible replace hc := of_decide_eq_true hc | with_reducible replace hc := bn_T hc | with_reducible replace hc := bb_T hc | skip
    have hkw : k < wk := by simp only at hc; omega
    have hkh : k < (takeTo p s k).has.length := by omega
    have hrd := fun {w : World} (hH : H w h (G :: HS :: UN :: DN :: Ls)) => sReadyOf_ok hH hP (hDN.rdl (i := 3) rfl) (by omega)
    rw [readyOf_I hpv] at hrd
    refine WT_skip ?_
    refine WT_seq ?_
    refine WT_block ?_
    refine WT_seq ?_
    refine WT_region ?_
    refine WL_v rfl (ov_move rfl) ?_
    refine WL_v rfl (ov_move rfl) ?_
    refine WL_call rfl rfl cf_spec_ReadyOf (hrd hH) ?_; rintro rv w2 ⟨R, hR, hH2⟩
    refine WL_v rfl (ov_assign rfl) ?_
    refine WL_nil ?_
    refine WT_seq ?_
    refine WT_region ?_
    refine WL_v rfl (ov_assign rfl) ?_
    refine WL_nil ?_
    refine WT_block ?_
    have hRlen := readyI_len_le p s.dn
    refine WT_while (fun s' : Nat × Value => [(0, pv), (1, s'.2), (2, dv), (3, hv), (4, uv), (5, .int .i64 (s.t : Int)), (15, .int .i64 (k : Int)), (16, rv), (17, .int .i64 (s'.1 : Int))]) (fun s' w => s'.1 ≤ (readyI p s.dn).length ∧ ∃ st : Gs, ((st = takeTo p s k ∧ ∀ a ∈ (readyI p s.dn).take s'.1, a ∈ (takeTo p s k).bg) ∨ (st = takeW p (takeTo p s k) k ∧ ¬ st.has.getD k 0 < 0)) ∧ st.has.length = wk ∧ st.unt.length = wk ∧ ∃ G HS UN, IRow G 3 s'.2 st.bg ∧ IRow HS 3 hv st.has ∧ IRow UN 3 uv st.unt ∧ H w h (R :: G :: HS :: UN :: DN :: Ls)) (fun s' => (readyI p s.dn).length - s'.1) (0, gv) (by repeat (first | exact trivial | refine ⟨rfl, ?_⟩)) ⟨by omega, takeTo p s k, .inl ⟨rfl, by simp⟩, hhl, hul, G, HS, UN, hG, hHS, hUN, hH2⟩ ?_
    clear hrd hH hH2 hG hHS hUN G HS UN
    rintro ⟨i, gv⟩ w3 ⟨hi, st, hst, hsl, hsu, G, HS, UN, hG, hHS, hUN, hH⟩ again2
    simp only at hi hst hG hHS hUN hH
    have hend : (¬ i < (readyI p s.dn).length ∨ ¬ st.has.getD k 0 < 0) → st = takeTo p s (k + 1) := fun ho => by
      show st = takeW p (takeTo p s k) k
      rcases hst with ⟨rfl, ha⟩ | ⟨rfl, ha⟩
      · rcases ho with ho | ho
        · exact (takeW_none (by rw [htk.2]; exact nextN_end (by omega) ha)).symm
        · exact (takeW_busy ho).symm
      · rfl
    have hout : (¬ i < (readyI p s.dn).length ∨ ¬ st.has.getD k 0 < 0) → ∀ {w : World}, H w h (R :: G :: HS :: UN :: DN :: Ls) → k + 1 ≤ wk ∧ ∃ G HS UN, IRow G 3 gv (takeTo p s (k + 1)).bg ∧ IRow HS 3 hv (takeTo p s (k + 1)).has ∧ IRow UN 3 uv (takeTo p s (k + 1)).unt ∧ H w h (G :: HS :: UN :: DN :: Ls) := fun ho {w} hH => by
      rw [← hend ho]
      exact ⟨by omega, G, HS, UN, hG, hHS, hUN, hH.drop⟩
    have hks : k < st.has.length := by omega
    have hku : k < st.unt.length := by omega
    have hgk : st.has.getD k 0 = st.has[k] := getD_get hks
    by_cases hil : i < (readyI p s.dn).length
    · skip
      refine WT_seq ?_
      refine WT_seq ?_
      refine WT_region ?_
      refine WL_v rfl (ov_move rfl) ?_
      refine WL_v rfl (ov_move rfl) ?_
      refine WL_v rfl (ov_len rfl hR.sl st_sl_int) ?_
      refine WL_v rfl (ov_T (ov_lss rfl rfl) (decide_eq_true (by omega))) ?_
      refine WL_v rfl (ov_move rfl) ?_
      refine WL_guardOn rfl rfl ?_
      refine WL_v rfl (ov_move rfl) ?_
      refine WL_guardOn rfl rfl ?_
      refine WL_v rfl (ov_move rfl) ?_
      refine WL_guardOn rfl rfl ?_
      refine WL_v rfl (ov_index rfl rfl st_sl_int hHS.sl hks) ?_
      refine WL_guardOn rfl rfl ?_
      refine WL_v rfl (ov_load rfl one_int (hHS.cell hH (i := 2) rfl hks)) ?_; rw [← hgk]
      refine WL_guardOn rfl rfl ?_
      refine WL_v rfl (ov_lss rfl rfl) ?_
      refine WL_v rfl (ov_pickT rfl rfl) ?_
      refine WL_nil ?_
      refine WT_cond rfl (fun hneg => ?_) (fun hneg => ?_)
      · skip
        first | with_reducible replace hneg := of_decide_eq_true hneg | with_reducible replace hneg := bn_T hneg | with_reducible replace hneg := bb_T hneg | skip
        obtain ⟨rfl, ha⟩ : st = takeTo p s k ∧ ∀ a ∈ (readyI p s.dn).take i, a ∈ (takeTo p s k).bg := by
          rcases hst with h1 | h1
          · exact h1
          · exact absurd hneg h1.2
        have hmem := (mem_readyI.1 (List.getElem_mem hil)).1
        obtain ⟨a, hae⟩ : ∃ a : Nat, (readyI p s.dn)[i] = (a : Int) := ⟨((readyI p s.dn)[i]).toNat, by omega⟩
        have hap : a < p.length := by omega
        obtain ⟨fv, rv2, hf, hrr, hcell⟩ := hP.node hap
        refine WT_skip ?_
        refine WT_seq ?_
        refine WT_block ?_
        refine WT_seq ?_
        refine WT_region ?_
        refine WL_v rfl (ov_move rfl) ?_
        refine WL_v rfl (ov_move rfl) ?_
        refine WL_v rfl (ov_move rfl) ?_
        refine WL_v rfl (ov_index rfl rfl st_sl_int hR.sl hil) ?_
        refine WL_v rfl (ov_load rfl one_int (hR.cell hH (i := 0) rfl hil)) ?_; rw [hae]
        refine WL_call rfl rfl cf_spec_l3Has (l3HasR_ok hH (hG.rdl (i := 1) rfl) (a : Int)) ?_; rintro _ w4 ⟨rfl, hH4⟩
        refine WL_v rfl (ov_not rfl) ?_
        refine WL_nil ?_
        refine WT_cond rfl (fun hnb => ?_) (fun hnb => ?_)
        · skip
          first | with_reducible replace hnb := of_decide_eq_true hnb | with_reducible replace hnb := bn_T hnb | with_reducible replace hnb := bb_T hnb | skip
          have hnb2 : (readyI p s.dn)[i] ∉ (takeTo p s k).bg := by rw [hae]; simpa using hnb
          have hnx : nextN p (takeTo p s k).bg (takeTo p s k).dn = some ((readyI p s.dn)[i]) := by rw [htk.2]; exact nextN_at hil ha hnb2
          have hcost : costN p (a : Int) = kindCost p[a].kind := by unfold costN; rw [Int.toNat_natCast, getD_of hap]
          have hcp := costN_pos p (a : Int)
          have hts := takeW_some hneg hnx
          rw [hae, htk.1] at hts
          have hsetlen : ((takeTo p s k).has.set k (a : Int)).length = wk := by rw [List.length_set]; exact hhl
          refine WT_seq ?_
          refine WT_region ?_
          refine WL_v rfl (ov_move rfl) ?_
          refine WL_v rfl (ov_move rfl) ?_
          refine WL_v rfl (ov_move rfl) ?_
          refine WL_v rfl (ov_move rfl) ?_
          refine WL_v rfl (ov_index rfl rfl st_sl_int hR.sl hil) ?_
          refine WL_v rfl (ov_load rfl one_int (hR.cell hH4 (i := 0) rfl hil)) ?_; rw [hae]
          refine WL_v rfl (ov_index rfl rfl st_sl_int hHS.sl hks) ?_
          refine WL_storeI hH4 rfl rfl (i := 2) rfl hHS hks sz_int ?_; rintro HS2 w5 hHS2 hH5
          refine WL_nil ?_
          refine WT_seq ?_
          refine WT_region ?_
          refine WL_v rfl (ov_move rfl) ?_
          refine WL_v rfl (ov_move rfl) ?_
          refine WL_v rfl (ov_move rfl) ?_
          refine WL_v rfl (ov_move rfl) ?_
          refine WL_v rfl (ov_move rfl) ?_
          refine WL_v rfl (ov_move rfl) ?_
          refine WL_v rfl (ov_index rfl rfl st_sl_int hR.sl hil) ?_
          refine WL_v rfl (ov_load rfl one_int (hR.cell hH5 (i := 0) rfl hil)) ?_; rw [hae]
          refine WL_v rfl (ov_index rfl rfl st_sl_impl_Node hP.sl hap) ?_
          refine WL_v rfl (ov_field rfl fo_impl_Node_0) ?_
          refine WL_v rfl (ov_load rfl one_int (hcell _ _ hH5 0 _ rfl)) ?_
          refine WL_call rfl rfl cf_spec_l31Cost (l31Cost_ok hH5 _) ?_; rintro _ w6 ⟨rfl, hH6⟩; rw [← hcost]
          refine WL_v rfl (ov_add rfl rfl (by omega)) ?_
          refine WL_v rfl (ov_index rfl rfl st_sl_int hUN.sl hku) ?_
          refine WL_storeI hH6 rfl rfl (i := 3) rfl hUN hku sz_int ?_; rintro UN2 w7 hUN2 hH7
          refine WL_nil ?_
          refine WT_region ?_
          refine WL_v rfl (ov_move rfl) ?_
          refine WL_v rfl (ov_move rfl) ?_
          refine WL_v rfl (ov_move rfl) ?_
          refine WL_v rfl (ov_index rfl rfl st_sl_int hR.sl hil) ?_
          refine WL_v rfl (ov_load rfl one_int (hR.cell hH7 (i := 0) rfl hil)) ?_; rw [hae]
          refine WL_bsI rfl hH7 rfl (run_bs_int _) ?_; rintro Z zv w8 hZ hH8
          refine WL_appI (i := 2) (j := 0) rfl hH8 rfl rfl st_sl_int rfl hG rfl hZ (by simp; omega) (by simp; omega) ?_; rintro G2 gv2 w9 hG2 hH9
          refine WL_v rfl (ov_assign rfl) ?_
          refine WL_nil ?_
          refine WT_inBlock ?_
          refine WT_region ?_
          refine WL_v rfl (ov_move rfl) ?_
          refine WL_v rfl (ov_add rfl rfl (by omega)) ?_
          refine WL_v rfl (ov_assign rfl) ?_
          refine WL_nil ?_
          refine again2 (i + 1, gv2) _ _ (by simp only; omega) (by repeat (first | exact trivial | refine ⟨rfl, ?_⟩)) ⟨by simp only; omega, takeW p (takeTo p s k) k, .inr ⟨rfl, ?_⟩, ?_, ?_, G2, HS2, UN2, ?_, ?_, ?_, hH9.drop⟩
          · rw [hts]
            simp only
            rw [getD_setI (by omega), if_pos rfl]
            omega
          · rw [hts]; exact hsetlen
          · rw [hts]; simp only; rw [List.length_set]; exact hul
          · rw [hts]; exact hG2
          · rw [hts]; exact hHS2
          · rw [hts]; exact hUN2
        first | with_reducible replace hnb := of_decide_eq_false hnb | with_reducible replace hnb := bn_F hnb | with_reducible replace hnb := bb_F hnb | skip
        have hin : (readyI p s.dn)[i] ∈ (takeTo p s k).bg := by rw [hae]; simpa using hnb
        refine WT_skip ?_
        refine WT_inBlock ?_
        refine WT_region ?_
        refine WL_v rfl (ov_move rfl) ?_
        refine WL_v rfl (ov_add rfl rfl (by omega)) ?_
        refine WL_v rfl (ov_assign rfl) ?_
        refine WL_nil ?_
        refine again2 (i + 1, gv) _ _ (by simp only; omega) (by repeat (first | exact trivial | refine ⟨rfl, ?_⟩)) ⟨by simp only; omega, takeTo p s k, .inl ⟨rfl, fun b hb => ?_⟩, hhl, hul, G, HS, UN, hG, hHS, hUN, hH4⟩
        simp only at hb
        rw [List.take_succ_eq_append_getElem hil] at hb
        rcases List.mem_append.1 hb with h1 | h1
        · exact ha b h1
        · rw [List.mem_singleton] at h1
          exact h1 ▸ hin
      first | with_reducible replace hneg := of_decide_eq_false hneg | with_reducible replace hneg := bn_F hneg | with_reducible replace hneg := bb_F hneg | skip
      refine WT_exit rfl ?_
      refine WT_inBlock ?_
      refine WT_region ?_
      refine WL_v rfl (ov_move rfl) ?_
      refine WL_v rfl (ov_add rfl rfl (by omega)) ?_
      refine WL_v rfl (ov_assign rfl) ?_
      refine WL_nil ?_
      exact again (k + 1, gv) _ _ (by simp only; omega) (by repeat (first | exact trivial | refine ⟨rfl, ?_⟩)) (hout (.inr hneg) hH)
    · skip
      refine WT_seq ?_
      refine WT_seq ?_
      refine WT_region ?_
      refine WL_v rfl (ov_move rfl) ?_
      refine WL_v rfl (ov_move rfl) ?_
      refine WL_v rfl (ov_len rfl hR.sl st_sl_int) ?_
      refine WL_v rfl (ov_F (ov_lss rfl rfl) (decide_eq_false (by omega))) ?_
      refine WL_v rfl (ov_move rfl) ?_
      refine WL_guardOff rfl rfl rfl rfl ?_
      refine WL_guardOff rfl rfl rfl rfl ?_
      refine WL_guardOff rfl rfl rfl rfl ?_
      refine WL_guardOff rfl rfl rfl rfl ?_
      refine WL_guardOff rfl rfl rfl rfl ?_
      refine WL_v rfl (ov_pickF rfl rfl) ?_
      refine WL_nil ?_
      refine WT_condF rfl ?_
      refine WT_exit rfl ?_
      refine WT_inBlock ?_
      refine WT_region ?_
      refine WL_v rfl (ov_move rfl) ?_
      refine WL_v rfl (ov_add rfl rfl (by omega)) ?_
      refine WL_v rfl (ov_assign rfl) ?_
      refine WL_nil ?_
      exact again (k + 1, gv) _ _ (by simp only; omega) (by repeat (first | exact trivial | refine ⟨rfl, ?_⟩)) (hout (.inl hil) hH)
  first | with_reducible replace hc := of_decide_eq_false hc | with_reducible replace hc := bn_F hc | with_reducible replace hc := bb_F hc | skip
  have hkw : k = wk := by simp only at hc; omega
  subst hkw
  refine WT_exit rfl ?_
  refine WT_seq ?_
  refine WT_region ?_
  refine WL_v rfl (ov_move rfl) ?_
  refine WL_v rfl (ov_move rfl) ?_
  refine WL_v rfl (ov_move rfl) ?_
  refine WL_v rfl (ov_assign rfl) ?_
  refine WL_v rfl (ov_assign rfl) ?_
  refine WL_v rfl (ov_assign rfl) ?_
  refine WL_nil ?_
  exact WT_ret3 Try.func52 Try.results52 rfl rfl rfl ⟨gv, G, HS, UN, rfl, hG, hHS, hUN, hH⟩

/-- When workers are done. -/
def GrV (p : List Nd) (n : Int) (v : Value) : Prop := if planOk p = true ∧ 1 ≤ n ∧ n ≤ 4 then ∃ T : Nat, v = .int .i64 (T : Int) ∧ IsEnd p n.toNat T else v = .int .i64 (-1)

theorem repl_get {n k : Nat} {a : Int} : (List.replicate k a) ++ [a] = List.replicate (k + 1) a := List.replicate_succ'.symm

set_option maxHeartbeats 2000000 in
theorem sCostGreedy_yes (hH : H w h Ls) {pv : Value} {p : List Nd} (hP : Plan h pv p) (hpv : planOk p = true) {wk : Nat} (h1 : 1 ≤ wk) (h4 : wk ≤ 4) :
    Rets Try.prog 18 #[pv, .int .i64 (wk : Int)] w fun v w' => (∃ T : Nat, v = .int .i64 (T : Int) ∧ IsEnd p wk T) ∧ H w' h Ls := by
  have hlen := PlanOk.len hpv
  have hsum := sumTo_rg p p.length
  have hsv := fun {w : World} (hH : H w h Ls) => sPlanValid_ok hH hP (by omega)
  rw [hpv] at hsv
  refine rets_enter Try.func18 rfl Try.ntmps18 (by simp) ?_
  refine WT_seq ?_
  refine WT_region ?_
  refine WL_v rfl (ov_assign rfl) ?_
  refine WL_nil ?_
  refine WT_seq ?_
  refine WT_seq ?_
  refine WT_region ?_
  refine WL_v rfl (ov_move rfl) ?_
  refine WL_call rfl rfl cf_spec_PlanValid (hsv hH) ?_; rintro _ w1 ⟨rfl, hH1⟩
  refine WL_v rfl (ov_F (ov_not rfl) (by first | exact decide_eq_false rfl | exact nb_F rfl | exact mb_F rfl | exact rfl | (simp only [decide_eq_false_iff_not]; omega) | simpa using rfl)) ?_
  refine WL_v rfl (ov_move rfl) ?_
  refine WL_guardOn rfl rfl ?_
  refine WL_v rfl (ov_move rfl) ?_
  refine WL_guardOn rfl rfl ?_
  refine WL_call rfl rfl cf_spec_l6In (l6In_ok hH1 _ _ _) ?_; rintro _ w2 ⟨rfl, hH2⟩
  refine WL_guardOn rfl rfl ?_
  refine WL_v rfl (ov_F (ov_not rfl) (by rw [decide_eq_true (by omega)]; rfl)) ?_
  refine WL_v rfl (ov_pickF rfl rfl) ?_
  refine WL_nil ?_
  refine WT_condF rfl ?_
  refine WT_skip ?_
  refine WT_seq ?_
  refine WT_region ?_
  refine WL_bsI0 rfl hH2 run_bs_int0 ?_; rintro G0 gv0 w3 hG0 hH3
  refine WL_v rfl (ov_assign rfl) ?_
  refine WL_nil ?_
  refine WT_seq ?_
  refine WT_region ?_
  refine WL_bsI0 rfl hH3 run_bs_int0 ?_; rintro D0 dv0 w4 hD0 hH4
  refine WL_v rfl (ov_assign rfl) ?_
  refine WL_nil ?_
  refine WT_seq ?_
  refine WT_region ?_
  refine WL_bsI0 rfl hH4 run_bs_int0 ?_; rintro S0 hv0 w5 hS0 hH5
  refine WL_v rfl (ov_assign rfl) ?_
  refine WL_nil ?_
  refine WT_seq ?_
  refine WT_region ?_
  refine WL_v rfl (ov_move rfl) ?_
  refine WL_makeI rfl hH5 rfl rfl st_sl_int (by omega) (by omega) ?_; rintro U0 uv w6 hU0 hH6
  refine WL_v rfl (ov_assign rfl) ?_
  refine WL_nil ?_
  refine WT_seq ?_
  refine WT_seq ?_
  refine WT_region ?_
  refine WL_v rfl (ov_assign rfl) ?_
  refine WL_nil ?_
  refine WT_block ?_
  refine WT_while (fun s : Nat × Value => [(0, pv), (1, .int .i64 (wk : Int)), (5, gv0), (6, dv0), (7, s.2), (8, uv), (9, .int .i64 (s.1 : Int))]) (fun s w => s.1 ≤ wk ∧ ∃ S, IRow S 3 s.2 (List.replicate s.1 (-1)) ∧ H w h (U0 :: S :: D0 :: G0 :: Ls)) (fun s => wk - s.1) (0, hv0) (by repeat (first | exact trivial | refine ⟨rfl, ?_⟩)) ⟨by omega, S0, hS0, hH6⟩ ?_
  clear hH hH1 hH2 hH3 hH4 hH5 hH6 hS0 S0
  rintro ⟨k, hv⟩ w7 ⟨hk, S, hS, hH⟩ again
  simp only at hk hS hH
  refine WT_seq ?_
  refine WT_seq ?_
  refine WT_region ?_
  refine WL_v rfl (ov_move rfl) ?_
  refine WL_v rfl (ov_move rfl) ?_
  refine WL_v rfl (ov_lss rfl rfl) ?_
  refine WL_nil ?_
  refine WT_cond rfl (fun hc => ?_) (fun hc => ?_)
  · skip
    first | with_reducible replace hc := of_decide_eq_true hc | with_reducible replace hc := bn_T hc | with_reducible replace hc := bb_T hc | skip
    have hkw : k < wk := by simp only at hc; omega
    refine WT_skip ?_
    refine WT_seq ?_
    refine WT_block ?_
    refine WT_region ?_
    refine WL_v rfl (ov_move rfl) ?_
    refine WL_bsI rfl hH rfl (run_bs_int _) ?_; rintro Z zv w8 hZ hH8
    refine WL_appI (i := 2) (j := 0) rfl hH8 rfl rfl st_sl_int rfl hS rfl hZ (by simp; omega) (by simp; omega) ?_; rintro S2 hv2 w9 hS2 hH9
    refine WL_v rfl (ov_assign rfl) ?_
    refine WL_nil ?_
    refine WT_inBlock ?_
    refine WT_region ?_
    refine WL_v rfl (ov_move rfl) ?_
    refine WL_v rfl (ov_add rfl rfl (by omega)) ?_
    refine WL_v rfl (ov_assign rfl) ?_
    refine WL_nil ?_
    refine again (k + 1, hv2) _ _ (by simp only; omega) (by repeat (first | exact trivial | refine ⟨rfl, ?_⟩)) ⟨by simp only; omega, S2, ?_, hH9.drop⟩
    show IRow S2 _ _ (List.replicate (k + 1) (-1))
    rw [← repl_get (n := 0)]
    exact hS2
  first | with_reducible replace hc := of_decide_eq_false hc | with_reducible replace hc := bn_F hc | with_reducible replace hc := bb_F hc | skip
  have hkw : k = wk := by simp only at hc; omega
  subst hkw
  clear again hc
  refine WT_exit rfl ?_
  refine WT_seq ?_
  refine WT_region ?_
  refine WL_v rfl (ov_assign rfl) ?_
  refine WL_nil ?_
  refine WT_seq ?_
  refine WT_block ?_
  refine WT_while (fun s : Nat × Value × Value => [(0, pv), (1, .int .i64 (k : Int)), (5, s.2.1), (6, s.2.2), (7, hv), (8, uv), (10, .int .i64 (s.1 : Int))]) (fun s w => (∀ j, j < s.1 → (stN p k j).dn.length < p.length) ∧ ∃ G HS UN DN, IRow G 3 s.2.1 (stN p k s.1).bg ∧ IRow HS 3 hv (stN p k s.1).has ∧ IRow UN 3 uv (stN p k s.1).unt ∧ IRow DN 3 s.2.2 (stN p k s.1).dn ∧ H w h (G :: HS :: UN :: DN :: Ls)) (fun s => 1000 - s.1) (0, gv0, dv0) (by repeat (first | exact trivial | refine ⟨rfl, ?_⟩)) ⟨fun j hj => absurd hj (Nat.not_lt_zero j), G0, S, U0, D0, hG0, hS, hU0, hD0, ?_⟩ ?_
  · exact hH.swap.pull 3 rfl
  clear hH hS hG0 hD0 hU0
  rintro ⟨t, gv, dv⟩ w8 ⟨hall, G, HS, UN, DN, hG, hHS, hUN, hDN, hH⟩ again
  simp only at hall hG hHS hUN hDN hH
  have hts := stN_t p k t
  have htl := st_le hpv (by omega) hall
  have hI := GI.st p k t
  refine WT_seq ?_
  refine WT_seq ?_
  refine WT_region ?_
  refine WL_v rfl (ov_move rfl) ?_
  refine WL_v rfl (ov_len rfl hDN.sl st_sl_int) ?_
  refine WL_v rfl (ov_move rfl) ?_
  refine WL_v rfl (ov_len rfl hP.sl st_sl_impl_Node) ?_
  refine WL_v rfl (ov_lss rfl rfl) ?_
  refine WL_nil ?_
  refine WT_cond rfl (fun hc => ?_) (fun hc => ?_)
  · skip
    first | with_reducible replace hc := of_decide_eq_true hc | with_reducible replace hc := bn_T hc | with_reducible replace hc := bb_T hc | skip
    have hdl : (stN p k t).dn.length < p.length := by omega
    have hI1 := hI.takes k (Nat.le_refl _)
    have ht1 := takeTo_t p (stN p k t) k
    have htake := l31Take_ok hP hpv hI h4 (by omega) hG hHS hUN hDN hH
    rw [hts] at htake
    have hst : stN p k (t + 1) = finTo ((takeTo p (stN p k t) k).at (t + 1)) k := by
      show finTo ((takeTo p (stN p k t) k).at ((stN p k t).t + 1)) k = _
      rw [hts]
    have hclk : GI p k (fun _ => 0) ((takeTo p (stN p k t) k).at (t + 1)) := hI1.clock fun w hw h6 => by
      have := (hI1.rn w hw h6).2.2
      rw [ht1.1, hts] at this
      omega
    refine WT_skip ?_
    refine WT_block ?_
    refine WT_seq ?_
    refine WT_region ?_
    refine WL_v rfl (ov_move rfl) ?_
    refine WL_v rfl (ov_move rfl) ?_
    refine WL_v rfl (ov_move rfl) ?_
    refine WL_v rfl (ov_move rfl) ?_
    refine WL_v rfl (ov_move rfl) ?_
    refine WL_v rfl (ov_move rfl) ?_
    refine WL_call rfl rfl cf_spec_l31Take (htake) ?_; rintro _ w9 ⟨gv2, G2, HS2, UN2, rfl, hG2, hHS2, hUN2, hH9⟩
    refine WL_v rfl (ov_move rfl) ?_
    refine WL_v rfl (ov_extract rfl rfl) ?_
    refine WL_v rfl (ov_extract rfl rfl) ?_
    refine WL_v rfl (ov_extract rfl rfl) ?_
    refine WL_v rfl (ov_assign rfl) ?_
    refine WL_v rfl (ov_assign rfl) ?_
    refine WL_v rfl (ov_assign rfl) ?_
    refine WL_nil ?_
    refine WT_seq ?_
    refine WT_region ?_
    refine WL_v rfl (ov_move rfl) ?_
    refine WL_v rfl (ov_assign rfl) ?_
    refine WL_nil ?_
    refine WT_seq ?_
    refine WT_region ?_
    refine WL_v rfl (ov_move rfl) ?_
    refine WL_v rfl (ov_assign rfl) ?_
    refine WL_nil ?_
    refine WT_seq ?_
    refine WT_region ?_
    refine WL_v rfl (ov_move rfl) ?_
    refine WL_v rfl (ov_assign rfl) ?_
    refine WL_nil ?_
    refine WT_seq ?_
    refine WT_region ?_
    refine WL_v rfl (ov_move rfl) ?_
    refine WL_v rfl (ov_add rfl rfl (by omega)) ?_
    refine WL_v rfl (ov_assign rfl) ?_
    refine WL_nil ?_
    refine WT_seq ?_
    refine WT_region ?_
    refine WL_v rfl (ov_assign rfl) ?_
    refine WL_nil ?_
    refine WT_block ?_
    refine WT_while (fun s : Nat × Value => [(0, pv), (1, .int .i64 (k : Int)), (5, gv2), (6, s.2), (7, hv), (8, uv), (10, .int .i64 ((t + 1 : Nat) : Int)), (14, .int .i64 (s.1 : Int))]) (fun s w => s.1 ≤ k ∧ ∃ HS DN, IRow HS 3 hv (finTo ((takeTo p (stN p k t) k).at (t + 1)) s.1).has ∧ IRow DN 3 s.2 (finTo ((takeTo p (stN p k t) k).at (t + 1)) s.1).dn ∧ H w h (G2 :: HS :: UN2 :: DN :: Ls)) (fun s => k - s.1) (0, dv) ⟨rfl, rfl, rfl, rfl, rfl, rfl, by rw [show ((t + 1 : Nat) : Int) = (t : Int) + 1 by omega]; rfl, rfl, trivial⟩ ⟨by omega, HS2, DN, hHS2, by
      show IRow DN _ _ (takeTo p (stN p k t) k).dn
      rw [ht1.2]
      exact hDN, hH9⟩ ?_
    clear hH hH9 hHS hHS2 hDN hG hUN G HS UN DN HS2 htake
    rintro ⟨m, dv⟩ w10 ⟨hm, HS, DN, hHS, hDN, hH⟩ again2
    simp only at hm hHS hDN hH
    have hIm := hclk.fins m hm
    have hft := finTo_t ((takeTo p (stN p k t) k).at (t + 1)) m
    have hfu : ∀ m, (finTo ((takeTo p (stN p k t) k).at (t + 1)) m).unt = (takeTo p (stN p k t) k).unt := fun m => by
      induction m with
      | zero => rfl
      | succ m ih =>
        show (finW (finTo ((takeTo p (stN p k t) k).at (t + 1)) m) m).unt = _
        unfold finW
        split <;> exact ih
    have hdl2 := hIm.cl.len
    refine WT_seq ?_
    refine WT_seq ?_
    refine WT_region ?_
    refine WL_v rfl (ov_move rfl) ?_
    refine WL_v rfl (ov_move rfl) ?_
    refine WL_v rfl (ov_lss rfl rfl) ?_
    refine WL_nil ?_
    refine WT_cond rfl (fun hc2 => ?_) (fun hc2 => ?_)
    · skip
      first | with_reducible replace hc2 := of_decide_eq_true hc2 | with_reducible replace hc2 := bn_T hc2 | with_reducible replace hc2 := bb_T hc2 | skip
      have hmk : m < k := by simp only at hc2; omega
      have hmh : m < (finTo ((takeTo p (stN p k t) k).at (t + 1)) m).has.length := by rw [hIm.hl]; exact hmk
      have hmu : m < (takeTo p (stN p k t) k).unt.length := by rw [hI1.ul]; exact hmk
      have hgh : (finTo ((takeTo p (stN p k t) k).at (t + 1)) m).has.getD m 0 = (finTo ((takeTo p (stN p k t) k).at (t + 1)) m).has[m] := getD_get hmh
      have hgu : (finTo ((takeTo p (stN p k t) k).at (t + 1)) m).unt.getD m 0 = (takeTo p (stN p k t) k).unt[m] := by rw [hfu m]; exact getD_get hmu
      have hftt : ((finTo ((takeTo p (stN p k t) k).at (t + 1)) m).t : Int) = ((t + 1 : Nat) : Int) := by rw [hft.1]; rfl
      have hskip : ¬ (0 ≤ (finTo ((takeTo p (stN p k t) k).at (t + 1)) m).has.getD m 0 ∧ (finTo ((takeTo p (stN p k t) k).at (t + 1)) m).unt.getD m 0 = ((t + 1 : Nat) : Int)) → finTo ((takeTo p (stN p k t) k).at (t + 1)) (m + 1) = finTo ((takeTo p (stN p k t) k).at (t + 1)) m := fun hn => finW_skip (by rw [hftt]; exact hn)
      have hnext : (0 ≤ (finTo ((takeTo p (stN p k t) k).at (t + 1)) m).has.getD m 0 ∧ (finTo ((takeTo p (stN p k t) k).at (t + 1)) m).unt.getD m 0 = ((t + 1 : Nat) : Int)) → finTo ((takeTo p (stN p k t) k).at (t + 1)) (m + 1) = ⟨(finTo ((takeTo p (stN p k t) k).at (t + 1)) m).t, (finTo ((takeTo p (stN p k t) k).at (t + 1)) m).has.set m (-1), (finTo ((takeTo p (stN p k t) k).at (t + 1)) m).unt, (finTo ((takeTo p (stN p k t) k).at (t + 1)) m).bg, (finTo ((takeTo p (stN p k t) k).at (t + 1)) m).dn ++ [(finTo ((takeTo p (stN p k t) k).at (t + 1)) m).has.getD m 0]⟩ := fun hn => by
        show finW _ m = _
        unfold finW
        rw [if_pos (by rw [hftt]; exact hn)]
      by_cases hpos : 0 ≤ (finTo ((takeTo p (stN p k t) k).at (t + 1)) m).has.getD m 0
      · skip
        refine WT_skip ?_
        refine WT_seq ?_
        refine WT_block ?_
        refine WT_seq ?_
        refine WT_region ?_
        refine WL_v rfl (ov_move rfl) ?_
        refine WL_v rfl (ov_move rfl) ?_
        refine WL_v rfl (ov_index rfl rfl st_sl_int hHS.sl hmh) ?_
        refine WL_v rfl (ov_load rfl one_int (hHS.cell hH (i := 1) rfl hmh)) ?_; rw [← hgh]
        refine WL_v rfl (ov_T (ov_geq rfl rfl) (decide_eq_true hpos)) ?_
        refine WL_v rfl (ov_move rfl) ?_
        refine WL_guardOn rfl rfl ?_
        refine WL_v rfl (ov_move rfl) ?_
        refine WL_guardOn rfl rfl ?_
        refine WL_v rfl (ov_move rfl) ?_
        refine WL_guardOn rfl rfl ?_
        refine WL_v rfl (ov_index rfl rfl st_sl_int hUN2.sl hmu) ?_
        refine WL_guardOn rfl rfl ?_
        refine WL_v rfl (ov_load rfl one_int (hUN2.cell hH (i := 2) rfl hmu)) ?_; rw [← hgu]
        refine WL_guardOn rfl rfl ?_
        refine WL_v rfl (ov_move rfl) ?_
        refine WL_guardOn rfl rfl ?_
        refine WL_v rfl (ov_eql rfl rfl) ?_
        refine WL_v rfl (ov_pickT rfl rfl) ?_
        refine WL_nil ?_
        refine WT_cond rfl (fun heq => ?_) (fun heq => ?_)
        · skip
          first | with_reducible replace heq := of_decide_eq_true heq | with_reducible replace heq := bn_T heq | with_reducible replace heq := bb_T heq | skip
          refine WT_seq ?_
          refine WT_region ?_
          refine WL_v rfl (ov_move rfl) ?_
          refine WL_v rfl (ov_move rfl) ?_
          refine WL_v rfl (ov_move rfl) ?_
          refine WL_v rfl (ov_index rfl rfl st_sl_int hHS.sl hmh) ?_
          refine WL_v rfl (ov_load rfl one_int (hHS.cell hH (i := 1) rfl hmh)) ?_; rw [← hgh]
          refine WL_bsI rfl hH rfl (run_bs_int _) ?_; rintro Z zv w11 hZ hH11
          refine WL_appI (i := 4) (j := 0) rfl hH11 rfl rfl st_sl_int rfl hDN rfl hZ (by simp; omega) (by simp; omega) ?_; rintro DN2 dv2 w12 hDN2 hH12
          refine WL_v rfl (ov_assign rfl) ?_
          refine WL_nil ?_
          refine WT_region ?_
          refine WL_v rfl (ov_move rfl) ?_
          refine WL_v rfl (ov_move rfl) ?_
          refine WL_v rfl (ov_index rfl rfl st_sl_int hHS.sl hmh) ?_
          refine WL_storeI hH12 rfl rfl (i := 2) rfl hHS hmh sz_int ?_; rintro HS3 w13 hHS3 hH13
          refine WL_nil ?_
          refine WT_inBlock ?_
          refine WT_region ?_
          refine WL_v rfl (ov_move rfl) ?_
          refine WL_v rfl (ov_add rfl rfl (by omega)) ?_
          refine WL_v rfl (ov_assign rfl) ?_
          refine WL_nil ?_
          refine again2 (m + 1, dv2) _ _ (by simp only; omega) (by repeat (first | exact trivial | refine ⟨rfl, ?_⟩)) ⟨by simp only; omega, HS3, DN2, ?_, ?_, hH13.drop⟩
          · show IRow HS3 _ _ (finTo ((takeTo p (stN p k t) k).at (t + 1)) (m + 1)).has
            rw [hnext ⟨hpos, heq⟩]
            exact hHS3
          · show IRow DN2 _ _ (finTo ((takeTo p (stN p k t) k).at (t + 1)) (m + 1)).dn
            rw [hnext ⟨hpos, heq⟩]
            exact hDN2
        first | with_reducible replace heq := of_decide_eq_false heq | with_reducible replace heq := bn_F heq | with_reducible replace heq := bb_F heq | skip
        refine WT_skip ?_
        refine WT_inBlock ?_
        refine WT_region ?_
        refine WL_v rfl (ov_move rfl) ?_
        refine WL_v rfl (ov_add rfl rfl (by omega)) ?_
        refine WL_v rfl (ov_assign rfl) ?_
        refine WL_nil ?_
        refine again2 (m + 1, dv) _ _ (by simp only; omega) (by repeat (first | exact trivial | refine ⟨rfl, ?_⟩)) ⟨by simp only; omega, HS, DN, ?_, ?_, hH⟩
        · show IRow HS _ _ (finTo ((takeTo p (stN p k t) k).at (t + 1)) (m + 1)).has
          rw [hskip fun hh => heq hh.2]
          exact hHS
        · show IRow DN _ _ (finTo ((takeTo p (stN p k t) k).at (t + 1)) (m + 1)).dn
          rw [hskip fun hh => heq hh.2]
          exact hDN
      · skip
        refine WT_skip ?_
        refine WT_seq ?_
        refine WT_block ?_
        refine WT_seq ?_
        refine WT_region ?_
        refine WL_v rfl (ov_move rfl) ?_
        refine WL_v rfl (ov_move rfl) ?_
        refine WL_v rfl (ov_index rfl rfl st_sl_int hHS.sl hmh) ?_
        refine WL_v rfl (ov_load rfl one_int (hHS.cell hH (i := 1) rfl hmh)) ?_; rw [← hgh]
        refine WL_v rfl (ov_F (ov_geq rfl rfl) (decide_eq_false hpos)) ?_
        refine WL_v rfl (ov_move rfl) ?_
        refine WL_guardOff rfl rfl rfl rfl ?_
        refine WL_guardOff rfl rfl rfl rfl ?_
        refine WL_guardOff rfl rfl rfl rfl ?_
        refine WL_guardOff rfl rfl rfl rfl ?_
        refine WL_guardOff rfl rfl rfl rfl ?_
        refine WL_guardOff rfl rfl rfl rfl ?_
        refine WL_v rfl (ov_pickF rfl rfl) ?_
        refine WL_nil ?_
        refine WT_condF rfl ?_
        refine WT_skip ?_
        refine WT_inBlock ?_
        refine WT_region ?_
        refine WL_v rfl (ov_move rfl) ?_
        refine WL_v rfl (ov_add rfl rfl (by omega)) ?_
        refine WL_v rfl (ov_assign rfl) ?_
        refine WL_nil ?_
        refine again2 (m + 1, dv) _ _ (by simp only; omega) (by repeat (first | exact trivial | refine ⟨rfl, ?_⟩)) ⟨by simp only; omega, HS, DN, ?_, ?_, hH⟩
        · show IRow HS _ _ (finTo ((takeTo p (stN p k t) k).at (t + 1)) (m + 1)).has
          rw [hskip fun hh => hpos hh.1]
          exact hHS
        · show IRow DN _ _ (finTo ((takeTo p (stN p k t) k).at (t + 1)) (m + 1)).dn
          rw [hskip fun hh => hpos hh.1]
          exact hDN
    first | with_reducible replace hc2 := of_decide_eq_false hc2 | with_reducible replace hc2 := bn_F hc2 | with_reducible replace hc2 := bb_F hc2 | skip
    have hmk : m = k := by simp only at hc2; omega
    subst hmk
    have hG3 : (finTo ((takeTo p (stN p m t) m).at (t + 1)) m).bg = (takeTo p (stN p m t) m).bg := hft.2
    refine WT_exit rfl ?_
    refine WT_inBlock ?_
    refine again (t + 1, gv2, dv) _ _ (by simp only; omega) (by repeat (first | exact trivial | refine ⟨rfl, ?_⟩)) ⟨fun j hj => ?_, G2, HS, UN2, DN, ?_, ?_, ?_, ?_, hH⟩
    · simp only at hj
      rcases Nat.lt_or_ge j t with h6 | h6
      · exact hall j h6
      · obtain rfl : j = t := by omega
        exact hdl
    · show IRow G2 _ _ (stN p m (t + 1)).bg
      rw [hst, hG3]
      exact hG2
    · show IRow HS _ _ (stN p m (t + 1)).has
      rw [hst]
      exact hHS
    · show IRow UN2 _ _ (stN p m (t + 1)).unt
      rw [hst, hfu m]
      exact hUN2
    · show IRow DN _ _ (stN p m (t + 1)).dn
      rw [hst]
      exact hDN
  first | with_reducible replace hc := of_decide_eq_false hc | with_reducible replace hc := bn_F hc | with_reducible replace hc := bb_F hc | skip
  have hdl : p.length ≤ (stN p k t).dn.length := by omega
  refine WT_exit rfl ?_
  refine WT_seq ?_
  refine WT_region ?_
  refine WL_v rfl (ov_move rfl) ?_
  refine WL_v rfl (ov_assign rfl) ?_
  refine WL_nil ?_
  exact WT_ret1 Try.func18 Try.results18 rfl ⟨⟨t, rfl, hdl, hall⟩, hH.drop.drop.drop.drop⟩

theorem sCostGreedy_no (hH : H w h Ls) {pv : Value} {p : List Nd} (hP : Plan h pv p) (hpl : p.length ≤ 1000000000) {n : Int} (hb : ¬ (planOk p = true ∧ 1 ≤ n ∧ n ≤ 4)) :
    Rets Try.prog 18 #[pv, .int .i64 n] w fun v w' => v = .int .i64 (-1) ∧ H w' h Ls := by
  have hsv := fun {w : World} (hH : H w h Ls) => sPlanValid_ok hH hP hpl
  refine rets_enter Try.func18 rfl Try.ntmps18 (by simp) ?_
  by_cases hv : planOk p = true
  · rw [hv] at hsv
    have hn : ¬ (1 ≤ n ∧ n ≤ 4) := fun h0 => hb ⟨hv, h0⟩
    refine WT_seq ?_
    refine WT_region ?_
    refine WL_v rfl (ov_assign rfl) ?_
    refine WL_nil ?_
    refine WT_seq ?_
    refine WT_seq ?_
    refine WT_region ?_
    refine WL_v rfl (ov_move rfl) ?_
    refine WL_call rfl rfl cf_spec_PlanValid (hsv hH) ?_; rintro _ w1 ⟨rfl, hH1⟩
    refine WL_v rfl (ov_F (ov_not rfl) (by first | exact decide_eq_false rfl | exact nb_F rfl | exact mb_F rfl | exact rfl | (simp only [decide_eq_false_iff_not]; omega) | simpa using rfl)) ?_
    refine WL_v rfl (ov_move rfl) ?_
    refine WL_guardOn rfl rfl ?_
    refine WL_v rfl (ov_move rfl) ?_
    refine WL_guardOn rfl rfl ?_
    refine WL_call rfl rfl cf_spec_l6In (l6In_ok hH1 _ _ _) ?_; rintro _ w2 ⟨rfl, hH2⟩
    refine WL_guardOn rfl rfl ?_
    refine WL_v rfl (ov_T (ov_not rfl) (by rw [decide_eq_false hn]; rfl)) ?_
    refine WL_v rfl (ov_pickF rfl rfl) ?_
    refine WL_nil ?_
    refine WT_condT rfl ?_
    refine WT_seq ?_
    refine WT_region ?_
    refine WL_v rfl (ov_assign rfl) ?_
    refine WL_nil ?_
    exact WT_ret1 Try.func18 Try.results18 rfl ⟨rfl, hH2⟩
  · rw [show planOk p = false by simpa using hv] at hsv
    refine WT_seq ?_
    refine WT_region ?_
    refine WL_v rfl (ov_assign rfl) ?_
    refine WL_nil ?_
    refine WT_seq ?_
    refine WT_seq ?_
    refine WT_region ?_
    refine WL_v rfl (ov_move rfl) ?_
    refine WL_call rfl rfl cf_spec_PlanValid (hsv hH) ?_; rintro _ w1 ⟨rfl, hH1⟩
    refine WL_v rfl (ov_T (ov_not rfl) (by first | exact decide_eq_true rfl | exact nb_T rfl | exact mb_T rfl | exact rfl | (simp only [decide_eq_true_eq]; omega) | simpa using rfl)) ?_
    refine WL_v rfl (ov_move rfl) ?_
    refine WL_guardOff rfl rfl rfl rfl ?_
    refine WL_guardOff rfl rfl rfl rfl ?_
    refine WL_guardOff rfl rfl rfl rfl ?_
    refine WL_v rfl (ov_pickT rfl rfl) ?_
    refine WL_nil ?_
    refine WT_condT rfl ?_
    refine WT_seq ?_
    refine WT_region ?_
    refine WL_v rfl (ov_assign rfl) ?_
    refine WL_nil ?_
    exact WT_ret1 Try.func18 Try.results18 rfl ⟨rfl, hH1⟩
end
end Go.Proofs.Ytafljegjdanldaa
