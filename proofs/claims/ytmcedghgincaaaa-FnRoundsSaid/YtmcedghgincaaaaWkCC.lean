/- Walks: what is ready behind some. -/
import Derived.Test.YtmcedghgincaaaaWkBB
import Derived.Test.YtmcedghgincaaaaPlM
namespace Go.Proofs.Ytmcedghgincaaaa
open Go.RowKit

def readyOf (p : List Nd) (D : List Int) : List Int := if planOk p = true then toI (readyL p D) else []

section
variable {h : GH} {Ls : List Heaplet} {w : World}

theorem l3HasR_ok (hH : H w h Ls) {av : Value} {xs : List Int} (hA : RdL h Ls av xs) (n : Int) : Rets Try.prog 80 #[av, .int .i64 n] w fun v w' => v = .bool (decide (n ∈ xs)) ∧ H w' h Ls := by
  have hal := hA.sl.lim
  refine rets_enter Try.func80 rfl Try.ntmps80 (by simp) ?_
  refine WT_seq ?_
  refine WT_region ?_
  refine WL_v rfl (ov_assign rfl) ?_
  refine WL_nil ?_
  refine WT_seq ?_
  refine WT_seq ?_
  refine WT_region ?_
  refine WL_v rfl (ov_assign rfl) ?_
  refine WL_nil ?_
  refine WT_block ?_
  refine WT_while (fun s : Nat => [(0, av), (1, .int .i64 n), (5, .int .i64 (s : Int))]) (fun k w => k ≤ xs.length ∧ (∀ j (_ : j < k) (h1 : j < xs.length), xs[j] ≠ n) ∧ H w h Ls) (fun k => xs.length - k) 0 (by repeat (first | exact trivial | refine ⟨rfl, ?_⟩)) ⟨by omega, by omega, hH⟩ ?_
  clear hH
  rintro k w2 ⟨hk, hall, hH1⟩ again
  refine WT_seq ?_
  refine WT_seq ?_
  refine WT_region ?_
  refine WL_v rfl (ov_move rfl) ?_
  refine WL_v rfl (ov_move rfl) ?_
  refine WL_v rfl (ov_len rfl hA.sl st_sl_int) ?_
  refine WL_v rfl (ov_lss rfl rfl) ?_
  refine WL_nil ?_
  refine WT_cond rfl (fun hc => ?_) (fun hc => ?_)
  · skip
    first | with_reducible replace hc := of_decide_eq_true hc | with_reducible replace hc := bn_T hc | with_reducible replace hc := bb_T hc | skip
    have hkx : k < xs.length := by omega
    refine WT_skip ?_
    refine WT_seq ?_
    refine WT_block ?_
    refine WT_seq ?_
    refine WT_region ?_
    refine WL_v rfl (ov_move rfl) ?_
    refine WL_v rfl (ov_move rfl) ?_
    refine WL_v rfl (ov_index rfl rfl st_sl_int hA.sl hkx) ?_
    refine WL_v rfl (ov_load rfl one_int (hA.cell hH1 hkx)) ?_
    refine WL_v rfl (ov_move rfl) ?_
    refine WL_v rfl (ov_eql rfl rfl) ?_
    refine WL_nil ?_
    refine WT_cond rfl (fun heq => ?_) (fun heq => ?_)
    · skip
      first | with_reducible replace heq := of_decide_eq_true heq | with_reducible replace heq := bn_T heq | with_reducible replace heq := bb_T heq | skip
      refine WT_seq ?_
      refine WT_region ?_
      refine WL_v rfl (ov_assign rfl) ?_
      refine WL_nil ?_
      exact WT_ret1 Try.func80 Try.results80 rfl ⟨congrArg Value.bool (decide_eq_true (heq ▸ List.getElem_mem hkx)).symm, hH1⟩
    first | with_reducible replace heq := of_decide_eq_false heq | with_reducible replace heq := bn_F heq | with_reducible replace heq := bb_F heq | skip
    refine WT_skip ?_
    refine WT_inBlock ?_
    refine WT_region ?_
    refine WL_v rfl (ov_move rfl) ?_
    refine WL_v rfl (ov_add rfl rfl (by omega)) ?_
    refine WL_v rfl (ov_assign rfl) ?_
    refine WL_nil ?_
    refine again (k + 1) _ _ (by omega) (by repeat (first | exact trivial | refine ⟨rfl, ?_⟩)) ⟨by omega, fun j hj h1 => ?_, hH1⟩
    rcases Nat.lt_or_ge j k with h3 | h3
    · exact hall j h3 h1
    · obtain rfl : j = k := by omega
      exact heq
  first | with_reducible replace hc := of_decide_eq_false hc | with_reducible replace hc := bn_F hc | with_reducible replace hc := bb_F hc | skip
  obtain rfl : k = xs.length := by omega
  refine WT_exit rfl ?_
  refine WT_seq ?_
  refine WT_region ?_
  refine WL_v rfl (ov_assign rfl) ?_
  refine WL_nil ?_
  exact WT_ret1 Try.func80 Try.results80 rfl ⟨congrArg Value.bool (decide_eq_false fun hm => by obtain ⟨j, hj, he⟩ := List.mem_iff_getElem.1 hm; exact hall j hj hj he).symm, hH1⟩

theorem l5All_ok (hH : H w h Ls) {av bv : Value} {xs ys : List Int} (hA : RdL h Ls av xs) (hB : RdL h Ls bv ys) : Rets Try.prog 109 #[av, bv] w fun v w' => v = .bool (ys.all fun f => decide (f ∈ xs)) ∧ H w' h Ls := by
  have hbl := hB.sl.lim
  refine rets_enter Try.func109 rfl Try.ntmps109 (by simp) ?_
  refine WT_seq ?_
  refine WT_region ?_
  refine WL_v rfl (ov_assign rfl) ?_
  refine WL_nil ?_
  refine WT_seq ?_
  refine WT_seq ?_
  refine WT_region ?_
  refine WL_v rfl (ov_assign rfl) ?_
  refine WL_nil ?_
  refine WT_block ?_
  refine WT_while (fun s : Nat => [(0, av), (1, bv), (5, .int .i64 (s : Int))]) (fun k w => k ≤ ys.length ∧ (∀ j (_ : j < k) (h1 : j < ys.length), ys[j] ∈ xs) ∧ H w h Ls) (fun k => ys.length - k) 0 (by repeat (first | exact trivial | refine ⟨rfl, ?_⟩)) ⟨by omega, by omega, hH⟩ ?_
  clear hH
  rintro k w2 ⟨hk, hall, hH1⟩ again
  refine WT_seq ?_
  refine WT_seq ?_
  refine WT_region ?_
  refine WL_v rfl (ov_move rfl) ?_
  refine WL_v rfl (ov_move rfl) ?_
  refine WL_v rfl (ov_len rfl hB.sl st_sl_int) ?_
  refine WL_v rfl (ov_lss rfl rfl) ?_
  refine WL_nil ?_
  refine WT_cond rfl (fun hc => ?_) (fun hc => ?_)
  · skip
    first | with_reducible replace hc := of_decide_eq_true hc | with_reducible replace hc := bn_T hc | with_reducible replace hc := bb_T hc | skip
    have hky : k < ys.length := by omega
    refine WT_skip ?_
    refine WT_seq ?_
    refine WT_block ?_
    refine WT_seq ?_
    refine WT_region ?_
    refine WL_v rfl (ov_move rfl) ?_
    refine WL_v rfl (ov_move rfl) ?_
    refine WL_v rfl (ov_move rfl) ?_
    refine WL_v rfl (ov_index rfl rfl st_sl_int hB.sl hky) ?_
    refine WL_v rfl (ov_load rfl one_int (hB.cell hH1 hky)) ?_
    refine WL_call rfl rfl cf_spec_l3Has (l3HasR_ok hH1 hA _) ?_; rintro _ w3 ⟨rfl, hH3⟩
    refine WL_v rfl (ov_not rfl) ?_
    refine WL_nil ?_
    refine WT_cond rfl (fun hin => ?_) (fun hin => ?_)
    · skip
      first | with_reducible replace hin := of_decide_eq_true hin | with_reducible replace hin := bn_T hin | with_reducible replace hin := bb_T hin | skip
      have hin' : ys[k] ∉ xs := by simpa using hin
      refine WT_seq ?_
      refine WT_region ?_
      refine WL_v rfl (ov_assign rfl) ?_
      refine WL_nil ?_
      exact WT_ret1 Try.func109 Try.results109 rfl ⟨congrArg Value.bool (List.all_eq_false.2 ⟨_, List.getElem_mem hky, by simpa using hin'⟩).symm, hH3⟩
    first | with_reducible replace hin := of_decide_eq_false hin | with_reducible replace hin := bn_F hin | with_reducible replace hin := bb_F hin | skip
    have hin' : ys[k] ∈ xs := by simpa using hin
    refine WT_skip ?_
    refine WT_inBlock ?_
    refine WT_region ?_
    refine WL_v rfl (ov_move rfl) ?_
    refine WL_v rfl (ov_add rfl rfl (by omega)) ?_
    refine WL_v rfl (ov_assign rfl) ?_
    refine WL_nil ?_
    refine again (k + 1) _ _ (by omega) (by repeat (first | exact trivial | refine ⟨rfl, ?_⟩)) ⟨by omega, fun j hj h1 => ?_, hH3⟩
    rcases Nat.lt_or_ge j k with h3 | h3
    · exact hall j h3 h1
    · obtain rfl : j = k := by omega
      exact hin'
  first | with_reducible replace hc := of_decide_eq_false hc | with_reducible replace hc := bn_F hc | with_reducible replace hc := bb_F hc | skip
  obtain rfl : k = ys.length := by omega
  refine WT_exit rfl ?_
  refine WT_seq ?_
  refine WT_region ?_
  refine WL_v rfl (ov_assign rfl) ?_
  refine WL_nil ?_
  exact WT_ret1 Try.func109 Try.results109 rfl ⟨congrArg Value.bool (List.all_eq_true.2 fun x hx => by obtain ⟨j, hj, rfl⟩ := List.mem_iff_getElem.1 hx; exact decide_eq_true (hall j hj hj)).symm, hH1⟩

theorem allIn_ok (hH : H w h Ls) {av : Value} {xs : List Int} {i s : Nat} {S : Nat → Bool} (hA : RdL h Ls av xs) (hi : Ls[i]? = some (sbox s S)) (hr : ∀ x ∈ xs, 0 ≤ x ∧ x < 10) : Rets Try.prog 77 #[av, ptr s] w fun v w' => v = .bool (xs.all fun f => S f.toNat) ∧ H w' h Ls := by
  have hal := hA.sl.lim
  refine rets_enter Try.func77 rfl Try.ntmps77 (by simp) ?_
  refine WT_seq ?_
  refine WT_region ?_
  refine WL_v rfl (ov_assign rfl) ?_
  refine WL_nil ?_
  refine WT_seq ?_
  refine WT_seq ?_
  refine WT_region ?_
  refine WL_v rfl (ov_move rfl) ?_
  refine WL_v rfl (ov_len rfl hA.sl st_sl_int) ?_
  refine WL_v rfl (ov_move rfl) ?_
  refine WL_nil ?_
  refine WT_block ?_
  refine WT_while (fun k : Nat => [(1, ptr s), (7, av), (8, .int .i64 (xs.length : Int)), (9, .int .i64 (k : Int))]) (fun k w => k ≤ xs.length ∧ (∀ j (_ : j < k) (h1 : j < xs.length), S xs[j].toNat = true) ∧ H w h Ls) (fun k => xs.length - k) 0 (by repeat (first | exact trivial | refine ⟨rfl, ?_⟩)) ⟨by omega, by omega, hH⟩ ?_
  clear hH
  rintro k w2 ⟨hk, hall, hH⟩ again
  refine WT_seq ?_
  refine WT_region ?_
  refine WL_v rfl (ov_lss rfl rfl) ?_
  refine WL_nil ?_
  refine WT_seq ?_
  refine WT_cond rfl (fun hc => ?_) (fun hc => ?_)
  · skip
    first | with_reducible replace hc := of_decide_eq_true hc | with_reducible replace hc := bn_T hc | with_reducible replace hc := bb_T hc | skip
    have hkx : k < xs.length := by omega
    have hx := hr _ (List.getElem_mem hkx)
    obtain ⟨u, hu⟩ := Int.eq_ofNat_of_zero_le hx.1
    have hcell : ∀ {w}, H w h Ls → w.cell? ((⟨s, 0, none⟩ : Addr).add (u * 1)) = some (.bool (S u)) := fun {w} hH => by
      rw [hH.cbA i hi 0 u, sbox_get (by omega)]
    refine WT_skip ?_
    refine WT_seq ?_
    refine WT_block ?_
    refine WT_seq ?_
    refine WT_region ?_
    refine WL_v rfl (ov_index rfl rfl st_sl_int hA.sl hkx) ?_
    refine WL_v rfl (ov_load rfl one_int (hA.cell hH hkx)) ?_; rw [hu]
    refine WL_v rfl (ov_assign rfl) ?_
    refine WL_nil ?_
    refine WT_seq ?_
    refine WT_region ?_
    refine WL_v rfl (ov_move rfl) ?_
    refine WL_v rfl (ov_move rfl) ?_
    refine WL_v rfl (ov_nilCheck rfl) ?_
    refine WL_v rfl (ov_idxA rfl rfl arr_10bool (by omega)) ?_
    refine WL_v rfl (ov_load rfl one_bool (hcell hH)) ?_
    refine WL_v rfl (ov_not rfl) ?_
    refine WL_nil ?_
    refine WT_cond rfl (fun hs => ?_) (fun hs => ?_)
    · skip
      first | with_reducible replace hs := of_decide_eq_true hs | with_reducible replace hs := bn_T hs | with_reducible replace hs := bb_T hs | skip
      have hs' : S u = false := by simpa using hs
      refine WT_seq ?_
      refine WT_region ?_
      refine WL_v rfl (ov_assign rfl) ?_
      refine WL_nil ?_
      exact WT_ret1 Try.func77 Try.results77 rfl ⟨congrArg Value.bool (List.all_eq_false.2 ⟨_, List.getElem_mem hkx, by rw [hu, Int.toNat_natCast, hs']; simp⟩).symm, hH⟩
    first | with_reducible replace hs := of_decide_eq_false hs | with_reducible replace hs := bn_F hs | with_reducible replace hs := bb_F hs | skip
    have hs' : S u = true := by simpa using hs
    refine WT_skip ?_
    refine WT_inBlock ?_
    refine WT_region ?_
    refine WL_v rfl (ov_add rfl rfl (by omega)) ?_
    refine WL_v rfl (ov_move rfl) ?_
    refine WL_nil ?_
    refine again (k + 1) _ _ (by omega) (by repeat (first | exact trivial | refine ⟨rfl, ?_⟩)) ⟨by omega, fun j hj h1 => ?_, hH⟩
    rcases Nat.lt_or_ge j k with h3 | h3
    · exact hall j h3 h1
    · obtain rfl : j = k := by omega
      rw [hu, Int.toNat_natCast]; exact hs'
  first | with_reducible replace hc := of_decide_eq_false hc | with_reducible replace hc := bn_F hc | with_reducible replace hc := bb_F hc | skip
  obtain rfl : k = xs.length := by omega
  refine WT_exit rfl ?_
  refine WT_seq ?_
  refine WT_region ?_
  refine WL_v rfl (ov_assign rfl) ?_
  refine WL_nil ?_
  exact WT_ret1 Try.func77 Try.results77 rfl ⟨congrArg Value.bool (List.all_eq_true.2 fun x hx => by obtain ⟨j, hj, rfl⟩ := List.mem_iff_getElem.1 hx; exact hall j hj hj).symm, hH⟩

theorem sbox_zero (s : Nat) : sbox s (fun _ => false) = [(s, .cells #[.bool false, .bool false, .bool false, .bool false, .bool false, .bool false, .bool false, .bool false, .bool false, .bool false] 80 (0, 0))] := rfl

theorem readyOf_ok (hH : H w h Ls) {pv dv : Value} {p : List Nd} {D : List Int} (hP : Plan h pv p) (hD : RdL h Ls dv D) (hdl : D.length ≤ 1000000000) : Rets Try.prog 31 #[pv, dv] w fun v w' => ∃ X, IRow X 3 v (readyOf p D) ∧ H w' h (X :: Ls) := by
  refine rets_enter Try.func31 rfl Try.ntmps31 (by simp) ?_
  refine WT_seq ?_
  refine WT_region ?_
  refine WL_v rfl (ov_assign rfl) ?_
  refine WL_nil ?_
  refine WT_seq ?_
  refine WT_seq ?_
  refine WT_region ?_
  refine WL_v rfl (ov_move rfl) ?_
  refine WL_call rfl rfl cf_impl_PlanValid (planValid_ok hH hP) ?_; rintro _ w1 ⟨rfl, hH1⟩
  refine WL_v rfl (ov_not rfl) ?_
  refine WL_nil ?_
  refine WT_cond rfl (fun hv => ?_) (fun hv => ?_)
  · skip
    first | with_reducible replace hv := of_decide_eq_true hv | with_reducible replace hv := bn_T hv | with_reducible replace hv := bb_T hv | skip
    refine WT_seq ?_
    refine WT_region ?_
    refine WL_v rfl (ov_assign rfl) ?_
    refine WL_nil ?_
    exact WT_ret1 Try.func31 Try.results31 rfl ⟨[], by unfold readyOf; rw [hv]; exact IRow.nil _, hH1.nilIn⟩
  first | with_reducible replace hv := of_decide_eq_false hv | with_reducible replace hv := bn_F hv | with_reducible replace hv := bb_F hv | skip
  have hlen := PlanOk.len hv
  have hDc : ∀ {w X}, H w h (X :: Ls) → ∀ {j} (hj : j < D.length), w.cell? ((slA dv).add (j * 1)) = some (.int .i64 D[j]) := fun hH _ hj => hD.cell hH.drop hj
  refine WT_skip ?_
  refine WT_seq ?_
  refine WT_region ?_
  refine WL_alloc #[.bool false, .bool false, .bool false, .bool false, .bool false, .bool false, .bool false, .bool false, .bool false, .bool false] rfl hH1 zero_10bool rfl ?_; rintro s w2 hH2
  refine WL_nil ?_
  refine WT_seq ?_
  refine WT_seq ?_
  refine WT_region ?_
  refine WL_v rfl (ov_move rfl) ?_
  refine WL_v rfl (ov_len rfl hD.sl st_sl_int) ?_
  refine WL_v rfl (ov_move rfl) ?_
  refine WL_nil ?_
  refine WT_block ?_
  rw [← sbox_zero] at hH2
  refine WT_while (fun k : Nat => [(0, pv), (5, ptr s), (14, dv), (15, .int .i64 (D.length : Int)), (16, .int .i64 (k : Int))]) (fun k w => k ≤ D.length ∧ ∃ S : Nat → Bool, (∀ u, S u = true ↔ u < p.length ∧ (u : Int) ∈ D.take k) ∧ H w h (sbox s S :: Ls)) (fun k => D.length - k) 0 (by repeat (first | exact trivial | refine ⟨rfl, ?_⟩)) ⟨by omega, _, by simp, hH2⟩ ?_
  clear hH hH1 hH2
  rintro k w3 ⟨hk, S, hS, hH⟩ again
  refine WT_seq ?_
  refine WT_region ?_
  refine WL_v rfl (ov_lss rfl rfl) ?_
  refine WL_nil ?_
  refine WT_seq ?_
  refine WT_cond rfl (fun hc => ?_) (fun hc => ?_)
  · skip
    first | with_reducible replace hc := of_decide_eq_true hc | with_reducible replace hc := bn_T hc | with_reducible replace hc := bb_T hc | skip
    have hkd : k < D.length := by omega
    refine WT_skip ?_
    refine WT_seq ?_
    refine WT_block ?_
    refine WT_seq ?_
    refine WT_region ?_
    refine WL_v rfl (ov_index rfl rfl st_sl_int hD.sl hkd) ?_
    refine WL_v rfl (ov_load rfl one_int (hDc hH hkd)) ?_
    refine WL_v rfl (ov_assign rfl) ?_
    refine WL_nil ?_
    refine WT_seq ?_
    refine WT_region ?_
    refine WL_v rfl (ov_move rfl) ?_
    refine WL_v rfl (ov_move rfl) ?_
    refine WL_call rfl rfl cf_impl_isNode (isNode_ok hH hP.sl _) ?_; rintro _ w4 ⟨rfl, hH4⟩
    refine WL_nil ?_
    refine WT_cond rfl (fun hn => ?_) (fun hn => ?_)
    · skip
      first | with_reducible replace hn := of_decide_eq_true hn | with_reducible replace hn := bn_T hn | with_reducible replace hn := bb_T hn | skip
      obtain ⟨u, hu⟩ := Int.eq_ofNat_of_zero_le hn.1
      rw [hu]
      refine WT_region ?_
      refine WL_v rfl (ov_move rfl) ?_
      refine WL_v rfl (ov_idxA rfl rfl arr_10bool (by omega)) ?_
      refine WL_store hH4 rfl rfl (i := 0) (off := 0 + u) rfl (addA s 0 u) (by simp; omega) rfl sz_bool ?_; rintro w5 hH5
      refine WL_nil ?_
      refine WT_inBlock ?_
      refine WT_region ?_
      refine WL_v rfl (ov_add rfl rfl (by omega)) ?_
      refine WL_v rfl (ov_move rfl) ?_
      refine WL_nil ?_
      rw [sbox_set] at hH5
      refine again (k + 1) _ _ (by omega) (by repeat (first | exact trivial | refine ⟨rfl, ?_⟩)) ⟨by omega, _, fun a => ?_, hH5⟩
      rw [List.take_succ_eq_append_getElem hkd, hu, List.mem_append, List.mem_singleton]
      by_cases ha : a = u
      · subst ha
        simp; omega
      · rw [if_neg ha, hS]
        constructor
        · rintro ⟨h1, h2⟩; exact ⟨h1, .inl h2⟩
        · rintro ⟨h1, h2 | h2⟩
          · exact ⟨h1, h2⟩
          · omega
    first | with_reducible replace hn := of_decide_eq_false hn | with_reducible replace hn := bn_F hn | with_reducible replace hn := bb_F hn | skip
    refine WT_skip ?_
    refine WT_inBlock ?_
    refine WT_region ?_
    refine WL_v rfl (ov_add rfl rfl (by omega)) ?_
    refine WL_v rfl (ov_move rfl) ?_
    refine WL_nil ?_
    refine again (k + 1) _ _ (by omega) (by repeat (first | exact trivial | refine ⟨rfl, ?_⟩)) ⟨by omega, S, fun a => ?_, hH4⟩
    rw [List.take_succ_eq_append_getElem hkd, List.mem_append, List.mem_singleton, hS]
    constructor
    · rintro ⟨h1, h2⟩; exact ⟨h1, .inl h2⟩
    · rintro ⟨h1, h2 | h2⟩
      · exact ⟨h1, h2⟩
      · exact absurd ⟨by omega, by omega⟩ hn
  first | with_reducible replace hc := of_decide_eq_false hc | with_reducible replace hc := bn_F hc | with_reducible replace hc := bb_F hc | skip
  obtain rfl : k = D.length := by omega
  rw [List.take_length] at hS
  refine WT_exit rfl ?_
  refine WT_seq ?_
  refine WT_region ?_
  refine WL_v rfl (ov_assign rfl) ?_
  refine WL_nil ?_
  refine WT_seq ?_
  refine WT_seq ?_
  refine WT_region ?_
  refine WL_v rfl (ov_move rfl) ?_
  refine WL_v rfl (ov_len rfl hP.sl st_sl_impl_Node) ?_
  refine WL_v rfl (ov_move rfl) ?_
  refine WL_nil ?_
  refine WT_block ?_
  refine WT_while (fun k : Nat × Value => [(5, ptr s), (8, k.2), (26, pv), (27, .int .i64 (p.length : Int)), (28, .int .i64 (k.1 : Int))]) (fun k w => k.1 ≤ p.length ∧ ∃ X, IRow X 3 k.2 (toI ((List.range k.1).filter (readyB p D))) ∧ H w h (X :: sbox s S :: Ls)) (fun k => p.length - k.1) (0, .slice none 0 0) (by repeat (first | exact trivial | refine ⟨rfl, ?_⟩)) ⟨by omega, [], IRow.nil _, hH.nilIn⟩ ?_
  clear hH
  rintro ⟨k, sv⟩ w4 ⟨hk, X, hX, hH⟩ again
  simp only at hk hX
  have hfl := List.length_filter_le (readyB p D) (List.range k)
  rw [List.length_range] at hfl
  refine WT_seq ?_
  refine WT_region ?_
  refine WL_v rfl (ov_lss rfl rfl) ?_
  refine WL_nil ?_
  refine WT_seq ?_
  refine WT_cond rfl (fun hc => ?_) (fun hc => ?_)
  · skip
    first | with_reducible replace hc := of_decide_eq_true hc | with_reducible replace hc := bn_T hc | with_reducible replace hc := bb_T hc | skip
    simp only at hc
    have hkp : k < p.length := by omega
    obtain ⟨fv, rv, hf, hr, hcell⟩ := hP.node hkp
    have hN := PlanOk.node hv hkp
    have hfr : ∀ x ∈ p[k].frm, 0 ≤ x ∧ x < 10 := fun x hx => by have := hN.frm x hx; omega
    have hall : (p[k].frm.all fun f => S f.toNat) = (p.getD k default).frm.all fun f => decide (f ∈ D) := by
      rw [getD_of hkp, Bool.eq_iff_iff, List.all_eq_true, List.all_eq_true]
      refine forall_congr' fun f => forall_congr' fun hf => ?_
      have := hN.frm f hf
      rw [hS, show (f.toNat : Int) = f by omega]
      simp only [decide_eq_true_eq]
      exact ⟨fun h => h.2, fun h => ⟨by omega, h⟩⟩
    have hSk : S k = decide ((k : Int) ∈ D) := by
      rw [Bool.eq_iff_iff, hS, decide_eq_true_eq]
      exact ⟨fun h => h.2, fun h => ⟨hkp, h⟩⟩
    have hscell : ∀ {w A B}, H w h (A :: B :: sbox s S :: Ls) → w.cell? ((⟨s, 0, none⟩ : Addr).add (k * 1)) = some (.bool (S k)) := fun {w A B} hH => by
      rw [hH.cbA 2 rfl 0 k, sbox_get (by omega)]
    have hrd : readyB p D k = (!S k && p[k].frm.all fun f => S f.toNat) := by
      unfold readyB
      rw [hall, hSk]
      by_cases h9 : (k : Int) ∈ D <;> simp [h9]
    refine WT_skip ?_
    refine WT_seq ?_
    refine WT_block ?_
    refine WT_seq ?_
    refine WT_region ?_
    refine WL_v rfl (ov_move rfl) ?_
    refine WL_v rfl (ov_index rfl rfl st_sl_impl_Node hP.sl hkp) ?_
    refine WL_v rfl (ov_loadN [.int .i64 p[k].kind, fv, rv] rfl agg_impl_Node rfl ((hcell _ _ hH))) ?_
    refine WL_alloc _ rfl hH zero_impl_Node rfl ?_; rintro g w5 hH5
    refine WL_v rfl (ov_assign rfl) ?_
    refine WL_storeN hH5 rfl rfl (i := 0) rfl rfl rfl (ones_cons rfl (ones_cons hf.sl.one (ones_cons hr.sl.one ones_nil))) sz_impl_Node ?_; rintro w6 hH6
    refine WL_nil ?_
    refine WT_seq ?_
    refine WT_region ?_
    refine WL_v rfl (ov_move rfl) ?_
    by_cases hs : S k = true
    · skip
      refine WL_v rfl (ov_idxA rfl rfl arr_10bool (by omega)) ?_
      refine WL_v rfl (ov_load rfl one_bool (hscell hH6)) ?_
      refine WL_v rfl (ov_F (ov_not rfl) (by rw [hs]; rfl)) ?_
      refine WL_v rfl (ov_move rfl) ?_
      refine WL_guardOff rfl rfl rfl rfl ?_
      refine WL_guardOff rfl rfl rfl rfl ?_
      refine WL_guardOff rfl rfl rfl rfl ?_
      refine WL_v rfl (ov_pickF rfl rfl) ?_
      refine WL_nil ?_
      refine WT_condF rfl ?_
      refine WT_skip ?_
      refine WT_inBlock ?_
      refine WT_region ?_
      refine WL_v rfl (ov_add rfl rfl (by omega)) ?_
      refine WL_v rfl (ov_move rfl) ?_
      refine WL_nil ?_
      refine again (k + 1, sv) _ _ (by simp only; omega) (by repeat (first | exact trivial | refine ⟨rfl, ?_⟩)) ⟨by simp only; omega, X, by rw [List.range_succ, List.filter_append, List.filter_cons, if_neg (by rw [hrd, hs]; simp), List.filter_nil, List.append_nil]; exact hX, hH6.drop⟩
    have hs' : S k = false := by simpa using hs
    refine WL_v rfl (ov_idxA rfl rfl arr_10bool (by omega)) ?_
    refine WL_v rfl (ov_load rfl one_bool (hscell hH6)) ?_
    refine WL_v rfl (ov_T (ov_not rfl) (by rw [hs']; rfl)) ?_
    refine WL_v rfl (ov_move rfl) ?_
    refine WL_guardOn rfl rfl ?_
    refine WL_v rfl (ov_field rfl fo_impl_Node_1) ?_
    refine WL_guardOn rfl rfl ?_
    refine WL_v rfl (ov_load rfl one_sl_int (hH6.cb 0 rfl 1)) ?_
    refine WL_guardOn rfl rfl ?_
    refine WL_call rfl rfl cf_impl_allIn (allIn_ok hH6 (hf.rdl _) (i := 2) rfl hfr) ?_; rintro _ w7 ⟨rfl, hH7⟩
    refine WL_v rfl (ov_pickT rfl rfl) ?_
    refine WL_nil ?_
    refine WT_cond rfl (fun ha => ?_) (fun ha => ?_)
    · skip
      first | with_reducible replace ha := of_decide_eq_true ha | with_reducible replace ha := bn_T ha | with_reducible replace ha := bb_T ha | skip
      refine WT_region ?_
      refine WL_v rfl (ov_move rfl) ?_
      refine WL_v rfl (ov_move rfl) ?_
      refine WL_bsI rfl hH7 rfl (run_bs_int _) ?_; rintro Y yv w8 hY hH8
      refine WL_appI (i := 2) (j := 0) rfl hH8 rfl rfl st_sl_int rfl hX rfl hY (by simp only [toI_len, List.length_cons, List.length_nil]; omega) (by simp only [toI_len, List.length_cons, List.length_nil]; omega) ?_; rintro X2 sv2 w9 hX2 hH9
      refine WL_v rfl (ov_assign rfl) ?_
      refine WL_nil ?_
      refine WT_inBlock ?_
      refine WT_region ?_
      refine WL_v rfl (ov_add rfl rfl (by omega)) ?_
      refine WL_v rfl (ov_move rfl) ?_
      refine WL_nil ?_
      refine again (k + 1, sv2) _ _ (by simp only; omega) (by repeat (first | exact trivial | refine ⟨rfl, ?_⟩)) ⟨by simp only; omega, X2, by rw [List.range_succ, List.filter_append, List.filter_cons, if_pos (by rw [hrd, hs', ha]; rfl), List.filter_nil, toI_snoc]; exact hX2, hH9.drop.drop⟩
    first | with_reducible replace ha := of_decide_eq_false ha | with_reducible replace ha := bn_F ha | with_reducible replace ha := bb_F ha | skip
    refine WT_skip ?_
    refine WT_inBlock ?_
    refine WT_region ?_
    refine WL_v rfl (ov_add rfl rfl (by omega)) ?_
    refine WL_v rfl (ov_move rfl) ?_
    refine WL_nil ?_
    refine again (k + 1, sv) _ _ (by simp only; omega) (by repeat (first | exact trivial | refine ⟨rfl, ?_⟩)) ⟨by simp only; omega, X, by rw [List.range_succ, List.filter_append, List.filter_cons, if_neg (by rw [hrd, ha]; simp), List.filter_nil, List.append_nil]; exact hX, hH7.drop⟩
  first | with_reducible replace hc := of_decide_eq_false hc | with_reducible replace hc := bn_F hc | with_reducible replace hc := bb_F hc | skip
  simp only at hc
  obtain rfl : k = p.length := by omega
  refine WT_exit rfl ?_
  refine WT_seq ?_
  refine WT_region ?_
  refine WL_v rfl (ov_move rfl) ?_
  refine WL_v rfl (ov_assign rfl) ?_
  refine WL_nil ?_
  exact WT_ret1 Try.func31 Try.results31 rfl ⟨X, by unfold readyOf; rw [if_pos hv]; exact hX, hH.del 1 rfl⟩

theorem sReadyOf_ok (hH : H w h Ls) {pv dv : Value} {p : List Nd} {D : List Int} (hP : Plan h pv p) (hD : RdL h Ls dv D) (hl : p.length ≤ 1000000000) : Rets Try.prog 89 #[pv, dv] w fun v w' => ∃ X, IRow X 3 v (readyOf p D) ∧ H w' h (X :: Ls) := by
  have hDX : ∀ {X}, RdL h (X :: Ls) dv D := ⟨hD.sl, fun hH _ hj => hD.cell hH.drop hj⟩
  refine rets_enter Try.func89 rfl Try.ntmps89 (by simp) ?_
  refine WT_seq ?_
  refine WT_region ?_
  refine WL_v rfl (ov_assign rfl) ?_
  refine WL_nil ?_
  refine WT_seq ?_
  refine WT_region ?_
  refine WL_bsI0 rfl hH run_bs_int0 ?_; rintro X0 sv0 w1 hX0 hH1
  refine WL_v rfl (ov_assign rfl) ?_
  refine WL_nil ?_
  refine WT_seq ?_
  refine WT_seq ?_
  refine WT_region ?_
  refine WL_v rfl (ov_assign rfl) ?_
  refine WL_nil ?_
  refine WT_block ?_
  refine WT_while (fun s : Nat × Value => [(0, pv), (1, dv), (5, s.2), (6, .int .i64 (s.1 : Int))]) (fun s w => s.1 ≤ p.length ∧ (planOk p = true ∨ s.1 = 0) ∧ ∃ X, IRow X 3 s.2 (toI ((List.range s.1).filter (readyB p D))) ∧ H w h (X :: Ls)) (fun s => p.length - s.1) (0, sv0) (by repeat (first | exact trivial | refine ⟨rfl, ?_⟩)) ⟨by omega, .inr rfl, X0, hX0, hH1⟩ ?_
  clear hH hH1 hX0
  rintro ⟨k, sv⟩ w2 ⟨hk, hvk, X, hX, hH⟩ again
  simp only at hk hX hvk
  have hfl := List.length_filter_le (readyB p D) (List.range k)
  rw [List.length_range] at hfl
  by_cases hkp : k < p.length
  case neg =>
    have hkn : k = p.length := by omega
    subst hkn
    refine WT_seq ?_
    refine WT_seq ?_
    refine WT_region ?_
    refine WL_v rfl (ov_move rfl) ?_
    refine WL_v rfl (ov_move rfl) ?_
    refine WL_v rfl (ov_len rfl hP.sl st_sl_impl_Node) ?_
    refine WL_v rfl (ov_F (ov_lss rfl rfl) (decide_eq_false (by simp only; omega))) ?_
    refine WL_v rfl (ov_move rfl) ?_
    refine WL_guardOff rfl rfl rfl rfl ?_
    refine WL_guardOff rfl rfl rfl rfl ?_
    refine WL_v rfl (ov_pickF rfl rfl) ?_
    refine WL_nil ?_
    refine WT_condF rfl ?_
    refine WT_exit rfl ?_
    refine WT_seq ?_
    refine WT_region ?_
    refine WL_v rfl (ov_move rfl) ?_
    refine WL_v rfl (ov_assign rfl) ?_
    refine WL_nil ?_
    exact WT_ret1 Try.func89 Try.results89 rfl ⟨X, by
      unfold readyOf
      rcases hvk with hv | h0
      · rw [if_pos hv]; exact hX
      · rw [h0] at hX
        have : p = [] := List.eq_nil_of_length_eq_zero h0
        subst this
        split <;> exact hX, hH⟩
  refine WT_seq ?_
  refine WT_seq ?_
  refine WT_region ?_
  refine WL_v rfl (ov_move rfl) ?_
  refine WL_v rfl (ov_move rfl) ?_
  refine WL_v rfl (ov_len rfl hP.sl st_sl_impl_Node) ?_
  refine WL_v rfl (ov_T (ov_lss rfl rfl) (decide_eq_true (by simp only; omega))) ?_
  refine WL_v rfl (ov_move rfl) ?_
  refine WL_guardOn rfl rfl ?_
  refine WL_v rfl (ov_move rfl) ?_
  refine WL_guardOn rfl rfl ?_
  refine WL_call rfl rfl cf_spec_PlanValid (sPlanValid_ok hH hP hl) ?_; rintro _ w3 ⟨rfl, hH3⟩
  refine WL_v rfl (ov_pickT rfl rfl) ?_
  refine WL_nil ?_
  refine WT_cond rfl (fun hv => ?_) (fun hv => ?_)
  · skip
    first | with_reducible replace hv := of_decide_eq_true hv | with_reducible replace hv := bn_T hv | with_reducible replace hv := bb_T hv | skip
    have hlen := PlanOk.len hv
    obtain ⟨fv, rv, hf, hr, hcell⟩ := hP.node hkp
    have hrd : readyB p D k = (!decide ((k : Int) ∈ D) && p[k].frm.all fun f => decide (f ∈ D)) := by
      unfold readyB
      rw [getD_of hkp]
      by_cases h9 : (k : Int) ∈ D <;> simp [h9]
    by_cases hs : (k : Int) ∈ D
    · skip
      refine WT_skip ?_
      refine WT_seq ?_
      refine WT_block ?_
      refine WT_seq ?_
      refine WT_region ?_
      refine WL_v rfl (ov_move rfl) ?_
      refine WL_v rfl (ov_move rfl) ?_
      refine WL_call rfl rfl cf_spec_l3Has (l3HasR_ok hH3 hDX _) ?_; rintro _ w4 ⟨rfl, hH4⟩
      refine WL_v rfl (ov_F (ov_not rfl) (by rw [decide_eq_true hs]; rfl)) ?_
      refine WL_v rfl (ov_move rfl) ?_
      refine WL_guardOff rfl rfl rfl rfl ?_
      refine WL_guardOff rfl rfl rfl rfl ?_
      refine WL_guardOff rfl rfl rfl rfl ?_
      refine WL_guardOff rfl rfl rfl rfl ?_
      refine WL_guardOff rfl rfl rfl rfl ?_
      refine WL_guardOff rfl rfl rfl rfl ?_
      refine WL_guardOff rfl rfl rfl rfl ?_
      refine WL_v rfl (ov_pickF rfl rfl) ?_
      refine WL_nil ?_
      refine WT_condF rfl ?_
      refine WT_skip ?_
      refine WT_inBlock ?_
      refine WT_region ?_
      refine WL_v rfl (ov_move rfl) ?_
      refine WL_v rfl (ov_add rfl rfl (by omega)) ?_
      refine WL_v rfl (ov_assign rfl) ?_
      refine WL_nil ?_
      refine again (k + 1, sv) _ _ (by simp only; omega) (by repeat (first | exact trivial | refine ⟨rfl, ?_⟩)) ⟨by simp only; omega, .inl hv, X, by rw [List.range_succ, List.filter_append, List.filter_cons, if_neg (by rw [hrd, decide_eq_true hs]; simp), List.filter_nil, List.append_nil]; exact hX, hH4⟩
    refine WT_skip ?_
    refine WT_seq ?_
    refine WT_block ?_
    refine WT_seq ?_
    refine WT_region ?_
    refine WL_v rfl (ov_move rfl) ?_
    refine WL_v rfl (ov_move rfl) ?_
    refine WL_call rfl rfl cf_spec_l3Has (l3HasR_ok hH3 hDX _) ?_; rintro _ w4 ⟨rfl, hH4⟩
    refine WL_v rfl (ov_T (ov_not rfl) (by rw [decide_eq_false hs]; rfl)) ?_
    refine WL_v rfl (ov_move rfl) ?_
    refine WL_guardOn rfl rfl ?_
    refine WL_v rfl (ov_move rfl) ?_
    refine WL_guardOn rfl rfl ?_
    refine WL_v rfl (ov_move rfl) ?_
    refine WL_guardOn rfl rfl ?_
    refine WL_v rfl (ov_move rfl) ?_
    refine WL_guardOn rfl rfl ?_
    refine WL_v rfl (ov_index rfl rfl st_sl_impl_Node hP.sl hkp) ?_
    refine WL_guardOn rfl rfl ?_
    refine WL_v rfl (ov_field rfl fo_impl_Node_1) ?_
    refine WL_guardOn rfl rfl ?_
    refine WL_v rfl (ov_load rfl one_sl_int (hcell _ _ hH4 1 _ rfl)) ?_
    refine WL_guardOn rfl rfl ?_
    refine WL_call rfl rfl cf_spec_l5All (l5All_ok hH4 hDX (hf.rdl _)) ?_; rintro _ w5 ⟨rfl, hH5⟩
    refine WL_v rfl (ov_pickT rfl rfl) ?_
    refine WL_nil ?_
    refine WT_cond rfl (fun ha => ?_) (fun ha => ?_)
    · skip
      first | with_reducible replace ha := of_decide_eq_true ha | with_reducible replace ha := bn_T ha | with_reducible replace ha := bb_T ha | skip
      refine WT_region ?_
      refine WL_v rfl (ov_move rfl) ?_
      refine WL_v rfl (ov_move rfl) ?_
      refine WL_bsI rfl hH5 rfl (run_bs_int _) ?_; rintro Y yv w6 hY hH6
      refine WL_appI (i := 1) (j := 0) rfl hH6 rfl rfl st_sl_int rfl hX rfl hY (by simp only [toI_len, List.length_cons, List.length_nil]; omega) (by simp only [toI_len, List.length_cons, List.length_nil]; omega) ?_; rintro X2 sv2 w7 hX2 hH7
      refine WL_v rfl (ov_assign rfl) ?_
      refine WL_nil ?_
      refine WT_inBlock ?_
      refine WT_region ?_
      refine WL_v rfl (ov_move rfl) ?_
      refine WL_v rfl (ov_add rfl rfl (by omega)) ?_
      refine WL_v rfl (ov_assign rfl) ?_
      refine WL_nil ?_
      refine again (k + 1, sv2) _ _ (by simp only; omega) (by repeat (first | exact trivial | refine ⟨rfl, ?_⟩)) ⟨by simp only; omega, .inl hv, X2, by rw [List.range_succ, List.filter_append, List.filter_cons, if_pos (by rw [hrd, decide_eq_false hs, ha]; rfl), List.filter_nil, toI_snoc]; exact hX2, hH7.drop⟩
    first | with_reducible replace ha := of_decide_eq_false ha | with_reducible replace ha := bn_F ha | with_reducible replace ha := bb_F ha | skip
    refine WT_skip ?_
    refine WT_inBlock ?_
    refine WT_region ?_
    refine WL_v rfl (ov_move rfl) ?_
    refine WL_v rfl (ov_add rfl rfl (by omega)) ?_
    refine WL_v rfl (ov_assign rfl) ?_
    refine WL_nil ?_
    refine again (k + 1, sv) _ _ (by simp only; omega) (by repeat (first | exact trivial | refine ⟨rfl, ?_⟩)) ⟨by simp only; omega, .inl hv, X, by rw [List.range_succ, List.filter_append, List.filter_cons, if_neg (by rw [hrd, ha]; simp), List.filter_nil, List.append_nil]; exact hX, hH5⟩
  first | with_reducible replace hv := of_decide_eq_false hv | with_reducible replace hv := bn_F hv | with_reducible replace hv := bb_F hv | skip
  have hk0 : k = 0 := by
    rcases hvk with h9 | h9
    · rw [h9] at hv; cases hv
    · exact h9
  subst hk0
  refine WT_exit rfl ?_
  refine WT_seq ?_
  refine WT_region ?_
  refine WL_v rfl (ov_move rfl) ?_
  refine WL_v rfl (ov_assign rfl) ?_
  refine WL_nil ?_
  exact WT_ret1 Try.func89 Try.results89 rfl ⟨X, by unfold readyOf; rw [if_neg (by rw [hv]; simp)]; exact hX, hH3⟩
end
end Go.Proofs.Ytmcedghgincaaaa
