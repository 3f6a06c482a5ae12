/- Walks: lists of lists compared, marked, read again by the laws. -/
import Derived.Test.YtmcedghgincaaaaWkLL
namespace Go.Proofs.Ytmcedghgincaaaa
open Go.RowKit

/-- How many numbers lists have together. -/
def sumLen : List (List Int) → Nat
  | [] => 0
  | l :: r => l.length + sumLen r
theorem sumLen_snoc : ∀ (ls : List (List Int)) (l : List Int), sumLen (ls ++ [l]) = sumLen ls + l.length
  | [], l => by simp [sumLen]
  | x :: ls, l => by simp only [List.cons_append, sumLen]; rw [sumLen_snoc ls l]; omega
theorem sumLen_take {ls : List (List Int)} {k : Nat} (h : k < ls.length) : sumLen (ls.take (k + 1)) = sumLen (ls.take k) + ls[k].length := by
  rw [List.take_succ_eq_append_getElem h, sumLen_snoc]
theorem sumLen_take_le : ∀ (ls : List (List Int)) (k : Nat), sumLen (ls.take k) ≤ sumLen ls
  | [], k => by simp [sumLen]
  | l :: r, 0 => by simp [sumLen]
  | l :: r, k + 1 => by simp only [List.take_succ_cons, sumLen]; have := sumLen_take_le r k; omega
theorem sumLen_get {ls : List (List Int)} {k : Nat} (h : k < ls.length) : ls[k].length ≤ sumLen ls := by
  have := sumLen_take h
  have := sumLen_take_le ls (k + 1)
  omega
/-- Numbers from one on, list by list. -/
def markLL (k : Int) (ls : List (List Int)) : List (List Int) := (List.range ls.length).map fun i => marks (k + (sumLen (ls.take i) : Int)) (ls.getD i []).length
theorem markLL_len (k : Int) (ls : List (List Int)) : (markLL k ls).length = ls.length := by simp [markLL]
theorem getD_lst {ls : List (List Int)} {i : Nat} (h : i < ls.length) : ls.getD i [] = ls[i] := by simp [List.getD_eq_getElem?_getD, List.getElem?_eq_getElem h]
theorem markLL_get {k : Int} {ls : List (List Int)} {i : Nat} (h : i < (markLL k ls).length) (h2 : i < ls.length) : (markLL k ls)[i] = marks (k + (sumLen (ls.take i) : Int)) ls[i].length := by
  simp only [markLL, List.getElem_map, List.getElem_range]
  rw [getD_lst h2]

section
variable {h : GH} {Ls : List Heaplet} {w : World}

theorem eqIntSS_ok (hH : H w h Ls) {av bv : Value} {xs ys : List (List Int)} (hA : RdLL h Ls av xs) (hB : RdLL h Ls bv ys) : Rets Try.prog 47 #[av, bv] w fun v w' => v = .bool (decide (xs = ys)) ∧ H w' h Ls := by
  have hal := hA.sl.lim
  refine rets_enter Try.func47 rfl Try.ntmps47 (by simp) ?_
  refine WT_seq ?_
  refine WT_region ?_
  refine WL_v rfl (ov_assign rfl) ?_
  refine WL_nil ?_
  refine WT_seq ?_
  refine WT_seq ?_
  refine WT_region ?_
  refine WL_v rfl (ov_move rfl) ?_
  refine WL_v rfl (ov_len rfl hA.sl st_sl_sl_int) ?_
  refine WL_v rfl (ov_move rfl) ?_
  refine WL_v rfl (ov_len rfl hB.sl st_sl_sl_int) ?_
  refine WL_v rfl (ov_neq rfl rfl) ?_
  refine WL_nil ?_
  refine WT_cond rfl (fun hne => ?_) (fun hne => ?_)
  · skip
    first | with_reducible replace hne := of_decide_eq_true hne | with_reducible replace hne := bn_T hne | with_reducible replace hne := bb_T hne | skip
    refine WT_seq ?_
    refine WT_region ?_
    refine WL_v rfl (ov_assign rfl) ?_
    refine WL_nil ?_
    exact WT_ret1 Try.func47 Try.results47 rfl ⟨congrArg Value.bool (decide_eq_false fun h => by subst h; exact hne rfl).symm, hH⟩
  first | with_reducible replace hne := of_decide_eq_false hne | with_reducible replace hne := bn_F hne | with_reducible replace hne := bb_F hne | skip
  have hlen : xs.length = ys.length := by omega
  refine WT_skip ?_
  refine WT_seq ?_
  refine WT_seq ?_
  refine WT_region ?_
  refine WL_v rfl (ov_assign rfl) ?_
  refine WL_nil ?_
  refine WT_block ?_
  refine WT_while (fun s : Nat => [(0, av), (1, bv), (5, .int .i64 (s : Int))]) (fun k w => k ≤ xs.length ∧ (∀ j (_ : j < k) (h1 : j < xs.length) (h2 : j < ys.length), xs[j] = ys[j]) ∧ H w h Ls) (fun k => xs.length - k) 0 (by repeat (first | exact trivial | refine ⟨rfl, ?_⟩)) ⟨by omega, by omega, hH⟩ ?_
  clear hH
  rintro k w2 ⟨hk, hall, hH1⟩ again
  refine WT_seq ?_
  refine WT_seq ?_
  refine WT_region ?_
  refine WL_v rfl (ov_move rfl) ?_
  refine WL_v rfl (ov_move rfl) ?_
  refine WL_v rfl (ov_len rfl hA.sl st_sl_sl_int) ?_
  refine WL_v rfl (ov_lss rfl rfl) ?_
  refine WL_nil ?_
  refine WT_cond rfl (fun hc => ?_) (fun hc => ?_)
  · skip
    first | with_reducible replace hc := of_decide_eq_true hc | with_reducible replace hc := bn_T hc | with_reducible replace hc := bb_T hc | skip
    have hkx : k < xs.length := by omega
    have hky : k < ys.length := by omega
    obtain ⟨u1, g1, c1⟩ := hA.at_ hkx
    obtain ⟨u2, g2, c2⟩ := hB.at_ hky
    refine WT_skip ?_
    refine WT_seq ?_
    refine WT_block ?_
    refine WT_seq ?_
    refine WT_quiet mixed (by kernel_rfl) hH1 ?_
    clear hH1
    refine WQ_v rfl (fun _ _ => ov_move rfl) ?_
    refine WQ_v rfl (fun _ _ => ov_move rfl) ?_
    refine WQ_v rfl (fun _ _ => ov_index rfl rfl st_sl_sl_int hA.sl hkx) ?_
    refine WQ_v rfl (fun _ hH => ov_load rfl one_sl_int (c1 hH)) ?_
    refine WQ_v rfl (fun _ _ => ov_move rfl) ?_
    refine WQ_v rfl (fun _ _ => ov_move rfl) ?_
    refine WQ_v rfl (fun _ _ => ov_index rfl rfl st_sl_sl_int hB.sl hky) ?_
    refine WQ_v rfl (fun _ hH => ov_load rfl one_sl_int (c2 hH)) ?_
    refine WQ_call rfl rfl cf_laws_eqIntS (fun _ hH => eqIntS_ok hH g1 g2) ?_
    refine WQ_v rfl (fun _ _ => ov_not rfl) ?_
    refine WQ_nil ?_
    intro w3 hH1
    refine WT_cond rfl (fun hne => ?_) (fun hne => ?_)
    · skip
      first | with_reducible replace hne := of_decide_eq_true hne | with_reducible replace hne := bn_T hne | with_reducible replace hne := bb_T hne | skip
      refine WT_seq ?_
      refine WT_region ?_
      refine WL_v rfl (ov_assign rfl) ?_
      refine WL_nil ?_
      exact WT_ret1 Try.func47 Try.results47 rfl ⟨congrArg Value.bool (decide_eq_false fun h => by subst h; simp at hne).symm, hH1⟩
    first | with_reducible replace hne := of_decide_eq_false hne | with_reducible replace hne := bn_F hne | with_reducible replace hne := bb_F hne | skip
    refine WT_skip ?_
    refine WT_inBlock ?_
    refine WT_region ?_
    refine WL_v rfl (ov_move rfl) ?_
    refine WL_v rfl (ov_add rfl rfl (by omega)) ?_
    refine WL_v rfl (ov_assign rfl) ?_
    refine WL_nil ?_
    refine again (k + 1) _ _ (by omega) (by repeat (first | exact trivial | refine ⟨rfl, ?_⟩)) ⟨by omega, fun j hj h1 h2 => ?_, hH1⟩
    rcases Nat.lt_or_ge j k with h3 | h3
    · exact hall j h3 h1 h2
    · obtain rfl : j = k := by omega
      simpa using hne
  first | with_reducible replace hc := of_decide_eq_false hc | with_reducible replace hc := bn_F hc | with_reducible replace hc := bb_F hc | skip
  obtain rfl : k = xs.length := by omega
  refine WT_exit rfl ?_
  refine WT_seq ?_
  refine WT_region ?_
  refine WL_v rfl (ov_assign rfl) ?_
  refine WL_nil ?_
  exact WT_ret1 Try.func47 Try.results47 rfl ⟨congrArg Value.bool (decide_eq_true (List.ext_getElem hlen fun j h1 h2 => hall j h1 h1 h2)).symm, hH1⟩

theorem markIntSS_ok {O : Heaplet} {Is : List Heaplet} {v : Value} {ls : List (List Int)} (hO : OLists O Is v ls) (hH : H w h (O :: (Is ++ Ls))) {k : Int} (hk : 0 ≤ k ∧ k ≤ 1000000000000) (hs : sumLen ls ≤ 1000000000) :
    Rets Try.prog 48 #[v, .int .i64 k] w fun u w' => u = .int .i64 (k + sumLen ls) ∧ ∃ Is', OLists O Is' v (markLL k ls) ∧ H w' h (O :: (Is' ++ Ls)) := by
  have hsl := hO.sl
  have hlim := hsl.lim
  refine rets_enter Try.func48 rfl Try.ntmps48 (by simp) ?_
  refine WT_seq ?_
  refine WT_region ?_
  refine WL_v rfl (ov_assign rfl) ?_
  refine WL_nil ?_
  refine WT_seq ?_
  refine WT_seq ?_
  refine WT_region ?_
  refine WL_v rfl (ov_assign rfl) ?_
  refine WL_nil ?_
  refine WT_block ?_
  refine WT_while (fun s : Nat => [(0, v), (1, .int .i64 (k + (sumLen (ls.take s) : Int))), (5, .int .i64 (s : Int))]) (fun s w => s ≤ ls.length ∧ ∃ Is', OLists O Is' v ((markLL k ls).take s ++ ls.drop s) ∧ H w h (O :: (Is' ++ Ls))) (fun s => ls.length - s) 0 ⟨rfl, by rw [show k + ((sumLen (ls.take 0) : Nat) : Int) = k by simp [sumLen]]; rfl, rfl, trivial⟩ ⟨by omega, Is, by simpa using hO, hH⟩ ?_
  clear hH hO
  rintro s w1 ⟨hs1, Is1, hO, hH⟩ again
  refine WT_seq ?_
  refine WT_seq ?_
  refine WT_region ?_
  refine WL_v rfl (ov_move rfl) ?_
  refine WL_v rfl (ov_move rfl) ?_
  refine WL_v rfl (ov_len rfl hsl st_sl_sl_int) ?_
  refine WL_v rfl (ov_lss rfl rfl) ?_
  refine WL_nil ?_
  refine WT_cond rfl (fun hc => ?_) (fun hc => ?_)
  · skip
    first | with_reducible replace hc := of_decide_eq_true hc | with_reducible replace hc := bn_T hc | with_reducible replace hc := bb_T hc | skip
    have hsx : s < ls.length := by omega
    have hml := markLL_len k ls
    have htl : ((markLL k ls).take s).length = s := by rw [List.length_take]; omega
    have hcl : s < ((markLL k ls).take s ++ ls.drop s).length := by rw [List.length_append, htl, List.length_drop]; omega
    have hgs : ((markLL k ls).take s ++ ls.drop s)[s] = ls[s] := by
      rw [List.getElem_append_right (by omega)]
      simp [htl]
    obtain ⟨hil, xs, hR, hat⟩ := hO
    obtain ⟨u, F, g1, g2, g3⟩ := hat s hcl
    rw [hgs] at g3
    have hstk := sumLen_take hsx
    have hsle := sumLen_take_le ls (s + 1)
    have hFi : (O :: (Is1 ++ Ls))[s + 1]? = some F := by rw [List.getElem?_cons_succ, List.getElem?_append_left (List.getElem?_eq_some_iff.1 g2).1]; exact g2
    have hmk := markIntS_ok hH hFi g3 (k := k + (sumLen (ls.take s) : Int)) (by omega) (by omega)
    have hxs : xs.set s u = xs := by
      apply List.ext_getElem?
      intro j
      rw [List.getElem?_set]
      split
      · rename_i hij; subst hij; rw [g1, if_pos (List.getElem?_eq_some_iff.1 g1).1]
      · rfl
    refine WT_skip ?_
    refine WT_seq ?_
    refine WT_block ?_
    refine WT_region ?_
    refine WL_v rfl (ov_move rfl) ?_
    refine WL_v rfl (ov_move rfl) ?_
    refine WL_v rfl (ov_index rfl rfl st_sl_sl_int hsl hsx) ?_
    refine WL_v rfl (ov_load rfl one_sl_int (by rw [Nat.mul_one]; exact hR.cell hH (i := 0) rfl g1)) ?_
    refine WL_v rfl (ov_move rfl) ?_
    refine WL_call rfl rfl cf_laws_markIntS (hmk) ?_; rintro _ w2 ⟨rfl, F2, hF2, hH2⟩
    refine WL_v rfl (ov_assign rfl) ?_
    refine WL_nil ?_
    refine WT_inBlock ?_
    refine WT_region ?_
    refine WL_v rfl (ov_move rfl) ?_
    refine WL_v rfl (ov_add rfl rfl (by omega)) ?_
    refine WL_v rfl (ov_assign rfl) ?_
    refine WL_nil ?_
    have hH3 : H w2 h (O :: (Is1.set s F2 ++ Ls)) := by
      rw [List.set_cons_succ, List.set_append_left _ _ (List.getElem?_eq_some_iff.1 g2).1] at hH2
      exact hH2
    have hset := OLists.set (O' := O) (v := v) (k := s) (u := u) hcl hil (by have := hR.len; rw [Nat.mul_one] at this; exact this) hat (by rw [hxs]; exact hR) hF2
    have he : ((markLL k ls).take s ++ ls.drop s).set s (marks (k + (sumLen (ls.take s) : Int)) ls[s].length) = (markLL k ls).take (s + 1) ++ ls.drop (s + 1) := by
      rw [List.take_succ_eq_append_getElem (by omega), markLL_get (by omega) hsx, List.drop_eq_getElem_cons hsx, List.set_append_right _ _ (by omega), htl, Nat.sub_self, List.set_cons_zero, List.append_assoc]; rfl
    rw [he] at hset
    refine again (s + 1) _ _ (by omega) ⟨rfl, by rw [hstk, show k + ((sumLen (ls.take s) + ls[s].length : Nat) : Int) = k + (sumLen (ls.take s) : Int) + (ls[s].length : Int) by omega]; rfl, rfl, trivial⟩ ⟨by omega, _, hset, hH3⟩
  first | with_reducible replace hc := of_decide_eq_false hc | with_reducible replace hc := bn_F hc | with_reducible replace hc := bb_F hc | skip
  obtain rfl : s = ls.length := by omega
  rw [List.take_of_length_le (by rw [markLL_len]; omega), List.drop_eq_nil_of_le (by omega), List.append_nil] at hO
  refine WT_exit rfl ?_
  refine WT_seq ?_
  refine WT_region ?_
  refine WL_v rfl (ov_move rfl) ?_
  refine WL_v rfl (ov_assign rfl) ?_
  refine WL_nil ?_
  exact WT_ret1 Try.func48 Try.results48 rfl ⟨by rw [List.take_length], Is1, hO, hH⟩

theorem heldIntSS_ok {av : Value} {k : Int} {ls : List (List Int)} (hH : H w h Ls) (hA : RdLL h Ls av (markLL k ls)) (hk : 0 ≤ k ∧ k ≤ 1000000000000) (hs : sumLen ls ≤ 1000000000) :
    Rets Try.prog 49 #[av, .int .i64 k] w fun v w' => v = .int .i64 (k + sumLen ls) ∧ H w' h Ls := by
  have hml := markLL_len k ls
  have hlim := hA.sl.lim
  refine rets_enter Try.func49 rfl Try.ntmps49 (by simp) ?_
  refine WT_seq ?_
  refine WT_region ?_
  refine WL_v rfl (ov_assign rfl) ?_
  refine WL_nil ?_
  refine WT_seq ?_
  refine WT_seq ?_
  refine WT_region ?_
  refine WL_v rfl (ov_assign rfl) ?_
  refine WL_nil ?_
  refine WT_block ?_
  refine WT_while (fun s : Nat => [(0, av), (1, .int .i64 (k + (sumLen (ls.take s) : Int))), (5, .int .i64 (s : Int))]) (fun s w => s ≤ ls.length ∧ H w h Ls) (fun s => ls.length - s) 0 ⟨rfl, by rw [show k + ((sumLen (ls.take 0) : Nat) : Int) = k by simp [sumLen]]; rfl, rfl, trivial⟩ ⟨by omega, hH⟩ ?_
  clear hH
  rintro s w1 ⟨hs1, hH⟩ again
  refine WT_seq ?_
  refine WT_seq ?_
  refine WT_region ?_
  refine WL_v rfl (ov_move rfl) ?_
  refine WL_v rfl (ov_move rfl) ?_
  refine WL_v rfl (ov_len rfl hA.sl st_sl_sl_int) ?_
  refine WL_v rfl (ov_lss rfl rfl) ?_
  refine WL_nil ?_
  refine WT_cond rfl (fun hc => ?_) (fun hc => ?_)
  · skip
    first | with_reducible replace hc := of_decide_eq_true hc | with_reducible replace hc := bn_T hc | with_reducible replace hc := bb_T hc | skip
    have hsx : s < ls.length := by omega
    have hsm : s < (markLL k ls).length := by omega
    obtain ⟨u, hu, hcell⟩ := hA.at_ hsm
    rw [markLL_get hsm hsx] at hu
    have hstk := sumLen_take hsx
    have hsle := sumLen_take_le ls (s + 1)
    have hhd := fun (w : World) (hw : H w h Ls) => heldIntS_ok hw hu (by omega) (by omega)
    refine WT_skip ?_
    refine WT_seq ?_
    refine WT_block ?_
    refine WT_seq ?_
    refine WT_region ?_
    refine WL_v rfl (ov_move rfl) ?_
    refine WL_v rfl (ov_move rfl) ?_
    refine WL_v rfl (ov_index rfl rfl st_sl_sl_int hA.sl hsm) ?_
    refine WL_v rfl (ov_load rfl one_sl_int (hcell hH)) ?_
    refine WL_v rfl (ov_move rfl) ?_
    refine WL_call rfl rfl cf_laws_heldIntS (hhd _ hH) ?_; rintro _ w2 ⟨rfl, hH2⟩
    refine WL_v rfl (ov_assign rfl) ?_
    refine WL_nil ?_
    refine WT_seq ?_
    refine WT_region ?_
    refine WL_v rfl (ov_move rfl) ?_
    refine WL_v rfl (ov_F (ov_lss rfl rfl) (decide_eq_false (by omega))) ?_
    refine WL_nil ?_
    refine WT_condF rfl ?_
    refine WT_skip ?_
    refine WT_inBlock ?_
    refine WT_region ?_
    refine WL_v rfl (ov_move rfl) ?_
    refine WL_v rfl (ov_add rfl rfl (by omega)) ?_
    refine WL_v rfl (ov_assign rfl) ?_
    refine WL_nil ?_
    refine again (s + 1) _ _ (by omega) ⟨rfl, by rw [hstk, show k + ((sumLen (ls.take s) + ls[s].length : Nat) : Int) = k + (sumLen (ls.take s) : Int) + (ls[s].length : Int) by omega]; rfl, rfl, trivial⟩ ⟨by omega, hH2⟩
  first | with_reducible replace hc := of_decide_eq_false hc | with_reducible replace hc := bn_F hc | with_reducible replace hc := bb_F hc | skip
  obtain rfl : s = ls.length := by omega
  refine WT_exit rfl ?_
  refine WT_seq ?_
  refine WT_region ?_
  refine WL_v rfl (ov_move rfl) ?_
  refine WL_v rfl (ov_assign rfl) ?_
  refine WL_nil ?_
  exact WT_ret1 Try.func49 Try.results49 rfl ⟨by rw [List.take_length], hH⟩
end
end Go.Proofs.Ytmcedghgincaaaa
