/- Walks: the places of a plan, by the program and by the reference. -/
import Derived.Test.YtmcedghgincaaaaWkS
import Derived.Test.YtmcedghgincaaaaWkO
namespace Go.Proofs.Ytmcedghgincaaaa
open Go.RowKit

section
variable {h : GH} {Ls : List Heaplet} {w : World}

theorem l3Has_ok (hH : H w h Ls) {av : Value} {xs : List Int} (hA : RdL h Ls av xs) (n : Int) : Rets Try.prog 80 #[av, .int .i64 n] w fun v w' => v = .bool (decide (n ∈ xs)) ∧ H w' h Ls := by
  have hal := hA.sl.lim
  refine rets_enter Try.func80 rfl Try.ntmps80 (by simp) ?_
  refine WT_seq ?_
  refine WT_region ?_
  refine WL_v rfl (ov_assign rfl) ?_
  refine WL_nil ?_
  refine WT_seq ?_
  refine WT_seq ?_
  refine WT_region ?_
  refine WL_v rfl (ov_assign rfl) ?_
  refine WL_nil ?_
  refine WT_block ?_
  refine WT_while (fun s : Nat => [(0, av), (1, .int .i64 n), (5, .int .i64 (s : Int))]) (fun k w => k ≤ xs.length ∧ (∀ j (_ : j < k) (h1 : j < xs.length), xs[j] ≠ n) ∧ H w h Ls) (fun k => xs.length - k) 0 (by repeat (first | exact trivial | refine ⟨rfl, ?_⟩)) ⟨by omega, by omega, hH⟩ ?_
  clear hH
  rintro k w2 ⟨hk, hall, hH1⟩ again
  refine WT_seq ?_
  refine WT_seq ?_
  refine WT_region ?_
  refine WL_v rfl (ov_move rfl) ?_
  refine WL_v rfl (ov_move rfl) ?_
  refine WL_v rfl (ov_len rfl hA.sl st_sl_int) ?_
  refine WL_v rfl (ov_lss rfl rfl) ?_
  refine WL_nil ?_
  refine WT_cond rfl (fun hc => ?_) (fun hc => ?_)
  · skip
    first | with_reducible replace hc := of_decide_eq_true hc | with_reducible replace hc := bn_T hc | with_reducible replace hc := bb_T hc | skip
    have hkx : k < xs.length := by omega
    refine WT_skip ?_
    refine WT_seq ?_
    refine WT_block ?_
    refine WT_seq ?_
    refine WT_region ?_
    refine WL_v rfl (ov_move rfl) ?_
    refine WL_v rfl (ov_move rfl) ?_
    refine WL_v rfl (ov_index rfl rfl st_sl_int hA.sl hkx) ?_
    refine WL_v rfl (ov_load rfl one_int (hA.cell hH1 hkx)) ?_
    refine WL_v rfl (ov_move rfl) ?_
    refine WL_v rfl (ov_eql rfl rfl) ?_
    refine WL_nil ?_
    refine WT_cond rfl (fun heq => ?_) (fun heq => ?_)
    · skip
      first | with_reducible replace heq := of_decide_eq_true heq | with_reducible replace heq := bn_T heq | with_reducible replace heq := bb_T heq | skip
      refine WT_seq ?_
      refine WT_region ?_
      refine WL_v rfl (ov_assign rfl) ?_
      refine WL_nil ?_
      exact WT_ret1 Try.func80 Try.results80 rfl ⟨congrArg Value.bool (decide_eq_true (heq ▸ List.getElem_mem hkx)).symm, hH1⟩
    first | with_reducible replace heq := of_decide_eq_false heq | with_reducible replace heq := bn_F heq | with_reducible replace heq := bb_F heq | skip
    refine WT_skip ?_
    refine WT_inBlock ?_
    refine WT_region ?_
    refine WL_v rfl (ov_move rfl) ?_
    refine WL_v rfl (ov_add rfl rfl (by omega)) ?_
    refine WL_v rfl (ov_assign rfl) ?_
    refine WL_nil ?_
    refine again (k + 1) _ _ (by omega) (by repeat (first | exact trivial | refine ⟨rfl, ?_⟩)) ⟨by omega, fun j hj h1 => ?_, hH1⟩
    rcases Nat.lt_or_ge j k with h3 | h3
    · exact hall j h3 h1
    · obtain rfl : j = k := by omega
      exact heq
  first | with_reducible replace hc := of_decide_eq_false hc | with_reducible replace hc := bn_F hc | with_reducible replace hc := bb_F hc | skip
  obtain rfl : k = xs.length := by omega
  refine WT_exit rfl ?_
  refine WT_seq ?_
  refine WT_region ?_
  refine WL_v rfl (ov_assign rfl) ?_
  refine WL_nil ?_
  exact WT_ret1 Try.func80 Try.results80 rfl ⟨congrArg Value.bool (decide_eq_false fun hm => by obtain ⟨j, hj, he⟩ := List.mem_iff_getElem.1 hm; exact hall j hj hj he).symm, hH1⟩

theorem chain_at {f m : Nat} {us ps : List Nat} (hl : us.length = ps.length) {X : Heaplet} {Ms : List Heaplet} {i : Nat} (hi : Ms[i]? = some X) : (fbox f us m :: (chainT (.pointer none) us ps ++ Ms))[ps.length + 1 + i]? = some X := by
  rw [show ps.length + 1 + i = (ps.length + i) + 1 by omega, List.getElem?_cons_succ, List.getElem?_append_right (by rw [chainT_len _ hl]; omega), chainT_len _ hl, show ps.length + i - ps.length = i by omega]
  exact hi
theorem chain_set {f m : Nat} {us ps : List Nat} (hl : us.length = ps.length) {X : Heaplet} {Ms : List Heaplet} {i : Nat} : (fbox f us m :: (chainT (.pointer none) us ps ++ Ms)).set (ps.length + 1 + i) X = fbox f us m :: (chainT (.pointer none) us ps ++ Ms.set i X) := by
  rw [show ps.length + 1 + i = (ps.length + i) + 1 by omega, List.set_cons_succ, List.set_append_right _ _ (by rw [chainT_len _ hl]; omega), chainT_len _ hl, show ps.length + i - ps.length = i by omega]

theorem ends_ge {p : List Nd} (hv : planOk p = true) {i : Nat} (hi : i < p.length) : (i : Int) ≤ (endsTo p p.length).getD i 0 := by
  rw [endsTo_getD hv (Nat.le_refl _) hi]
  have := lastOr_rg hv (Nat.le_refl _) hi
  omega

set_option maxHeartbeats 1000000 in
theorem bufferGive_ok (hH : H w h Ls) {pv : Value} {p : List Nd} (hP : Plan h pv p) : Rets Try.prog 35 #[pv] w fun v w' => ∃ X, IRow X 3 v (giveOf p) ∧ H w' h (X :: Ls) := by
  refine rets_enter Try.func35 rfl Try.ntmps35 (by simp) ?_
  refine WT_seq ?_
  refine WT_region ?_
  refine WL_v rfl (ov_assign rfl) ?_
  refine WL_nil ?_
  refine WT_seq ?_
  refine WT_seq ?_
  refine WT_region ?_
  refine WL_v rfl (ov_move rfl) ?_
  refine WL_call rfl rfl cf_impl_PlanValid (planValid_ok hH hP) ?_; rintro _ w1 ⟨rfl, hH1⟩
  refine WL_v rfl (ov_not rfl) ?_
  refine WL_nil ?_
  refine WT_cond rfl (fun hv => ?_) (fun hv => ?_)
  · skip
    first | with_reducible replace hv := of_decide_eq_true hv | with_reducible replace hv := bn_T hv | with_reducible replace hv := bb_T hv | skip
    refine WT_seq ?_
    refine WT_region ?_
    refine WL_v rfl (ov_assign rfl) ?_
    refine WL_nil ?_
    exact WT_ret1 Try.func35 Try.results35 rfl ⟨[], by unfold giveOf; rw [hv]; exact IRow.nil _, hH1.nilIn⟩
  first | with_reducible replace hv := of_decide_eq_false hv | with_reducible replace hv := bn_F hv | with_reducible replace hv := bb_F hv | skip
  have hlen := PlanOk.len hv
  have hel := endsTo_len p p.length
  refine WT_skip ?_
  refine WT_seq ?_
  refine WT_region ?_
  refine WL_alloc #[.pointer none, .int .i64 0] rfl hH1 zero_impl_freePlaces rfl ?_; rintro f w2 hH2
  refine WL_nil ?_
  refine WT_seq ?_
  refine WT_region ?_
  refine WL_v rfl (ov_move rfl) ?_
  refine WL_call rfl rfl cf_impl_BufferEnds (bufferEnds_ok hH2 hP) ?_; rintro ev w3 ⟨EX, hEX, hH3⟩
  refine WL_v rfl (ov_assign rfl) ?_
  refine WL_nil ?_
  refine WT_seq ?_
  refine WT_region ?_
  refine WL_v rfl (ov_move rfl) ?_
  rw [if_pos hv] at hEX
  generalize hE : endsTo p p.length = E at hEX hel
  refine WL_v rfl (ov_len rfl hP.sl st_sl_impl_Node) ?_
  refine WL_makeI rfl hH3 rfl rfl st_sl_int (by omega) (by omega) ?_; rintro X0 lv w4 hX0 hH4
  refine WL_v rfl (ov_assign rfl) ?_
  refine WL_nil ?_
  refine WT_seq ?_
  refine WT_seq ?_
  refine WT_region ?_
  refine WL_v rfl (ov_move rfl) ?_
  refine WL_v rfl (ov_len rfl hP.sl st_sl_impl_Node) ?_
  refine WL_v rfl (ov_move rfl) ?_
  refine WL_nil ?_
  refine WT_block ?_
  have hH5 : H w4 h (fbox f [] 0 :: (chainT (.pointer none) [] [] ++ (X0 :: EX :: Ls))) := hH4.pull 2 rfl
  refine WT_while (fun s : Nat => [(0, pv), (3, ptr f), (4, ev), (5, lv), (18, .int .i64 (p.length : Int)), (19, .int .i64 (s : Int))]) (fun k w => k ≤ p.length ∧ ∃ X us ps m, IRow X 3 lv (giveTo E k ++ List.replicate (p.length - k) 0) ∧ FreeAt E (giveTo E k) k ((k : Int) - 1) 0 m ps ∧ us.length = ps.length ∧ m ≤ k ∧ H w h (fbox f us m :: (chainT (.pointer none) us ps ++ (X :: EX :: Ls)))) (fun k => p.length - k) 0 (by repeat (first | exact trivial | refine ⟨rfl, ?_⟩)) ⟨by omega, X0, [], [], 0, by simpa [giveTo] using hX0, by simpa [giveTo] using FreeAt.zero E, rfl, by omega, hH5⟩ ?_
  clear hH hH1 hH2 hH3 hH4 hH5 hX0
  rintro k w5 ⟨hk, X, us, ps, m, hX, hF, hal, hmk, hH⟩ again
  refine WT_seq ?_
  refine WT_region ?_
  refine WL_v rfl (ov_lss rfl rfl) ?_
  refine WL_nil ?_
  refine WT_seq ?_
  refine WT_cond rfl (fun hc => ?_) (fun hc => ?_)
  · skip
    first | with_reducible replace hc := of_decide_eq_true hc | with_reducible replace hc := bn_T hc | with_reducible replace hc := bb_T hc | skip
    have hkp : k < p.length := by omega
    have hke : k ≤ E.length := by omega
    have hrs := Row.reslice hEX (lo := 0) (hi := k) (by omega) hke
    have hgl := giveTo_len E k
    refine WT_skip ?_
    refine WT_seq ?_
    refine WT_block ?_
    refine WT_seq ?_
    refine WT_region ?_
    refine WL_v rfl (ov_move rfl) ?_
    refine WL_v rfl (ov_assign rfl) ?_
    refine WL_nil ?_
    refine WT_seq ?_
    refine WT_seq ?_
    refine WT_region ?_
    refine WL_v rfl (ov_move rfl) ?_
    refine WL_v rfl (ov_move rfl) ?_
    refine WL_v rfl (ov_sliceHi rfl rfl st_sl_int hEX.sl hke) ?_
    refine WL_v rfl (ov_len rfl hrs.sl st_sl_int) ?_
    refine WL_v rfl (ov_move rfl) ?_
    refine WL_nil ?_
    refine WT_block ?_
    refine WT_while (fun s : Nat => [(0, pv), (3, ptr f), (4, ev), (5, lv), (6, .int .i64 (k : Int)), (18, .int .i64 (p.length : Int)), (19, .int .i64 (k : Int)), (24, reslice ev 0 k 1), (25, .int .i64 (k : Int)), (26, .int .i64 (s : Int))])
      (fun j w => j ≤ k ∧ ∃ us ps, FreeAt E (giveTo E k) k ((k : Int) - 1) j m ps ∧ us.length = ps.length ∧ H w h (fbox f us m :: (chainT (.pointer none) us ps ++ (X :: EX :: Ls)))) (fun j => k - j) 0 (by repeat (first | exact trivial | refine ⟨rfl, ?_⟩)) ⟨by omega, us, ps, hF, hal, hH⟩ ?_
    clear hH hF hal
    rintro j w7 ⟨hj, us, ps, hF, hal, hH⟩ again2
    refine WT_seq ?_
    refine WT_region ?_
    refine WL_v rfl (ov_lss rfl rfl) ?_
    refine WL_nil ?_
    refine WT_seq ?_
    refine WT_cond rfl (fun hc2 => ?_) (fun hc2 => ?_)
    · skip
      first | with_reducible replace hc2 := of_decide_eq_true hc2 | with_reducible replace hc2 := bn_T hc2 | with_reducible replace hc2 := bb_T hc2 | skip
      have hjk : j < k := by omega
      have hje : j < E.length := by omega
      have hjr : j < k - 0 := by omega
      have hcell : ∀ {w}, H w h (fbox f us m :: (chainT (.pointer none) us ps ++ (X :: EX :: Ls))) → w.cell? ((slA (reslice ev 0 k 1)).add (j * 1)) = some (.int .i64 E[j]) := fun hH => hrs.cell hH (i := ps.length + 1 + 1) (chain_at hal rfl) (by simp [hjk, hje])
      refine WT_skip ?_
      refine WT_seq ?_
      refine WT_block ?_
      refine WT_seq ?_
      refine WT_region ?_
      refine WL_v rfl (ov_move rfl) ?_
      refine WL_v rfl (ov_index rfl rfl st_sl_int hrs.sl hjr) ?_
      refine WL_v rfl (ov_load rfl one_int (hcell hH)) ?_
      refine WL_v rfl (ov_assign rfl) ?_
      refine WL_v rfl (ov_assign rfl) ?_
      refine WL_nil ?_
      refine WT_seq ?_
      refine WT_region ?_
      refine WL_v rfl (ov_move rfl) ?_
      refine WL_v rfl (ov_move rfl) ?_
      refine WL_v rfl (ov_sub rfl rfl (by omega)) ?_
      refine WL_v rfl (ov_eql rfl rfl) ?_
      refine WL_nil ?_
      refine WT_cond rfl (fun hge => ?_) (fun hge => ?_)
      · skip
        first | with_reducible replace hge := of_decide_eq_true hge | with_reducible replace hge := bn_T hge | with_reducible replace hge := bb_T hge | skip
        have hjl : j < (giveTo E k ++ List.replicate (p.length - k) (0 : Int)).length := by simp [hgl]; omega
        have hgj : (giveTo E k ++ List.replicate (p.length - k) (0 : Int))[j] = ((leastFree (takenTo E (giveTo E j) j j) : Nat) : Int) := by
          rw [List.getElem_append_left (by omega), ← giveTo_get hjk, getD_elem (by omega)]
        refine WT_region ?_
        refine WL_v rfl (ov_move rfl) ?_
        refine WL_v rfl (ov_move rfl) ?_
        refine WL_v rfl (ov_index rfl rfl st_sl_int hX.sl hjl) ?_
        refine WL_v rfl (ov_load rfl one_int (hX.cell hH (i := ps.length + 1 + 0) (chain_at hal rfl) hjl)) ?_; rw [hgj]
        refine WL_call rfl rfl cf_p_impl_freePlaces_give (fpGive_ok hal hH) ?_; rintro _ w8 ⟨rfl, us2, hal2, hH8⟩
        refine WL_nil ?_
        refine WT_inBlock ?_
        refine WT_region ?_
        refine WL_v rfl (ov_add rfl rfl (by omega)) ?_
        refine WL_v rfl (ov_move rfl) ?_
        refine WL_nil ?_
        refine again2 (j + 1) _ _ (by omega) (by repeat (first | exact trivial | refine ⟨rfl, ?_⟩)) ⟨by omega, us2, _, hF.give (by omega) hjk (by rw [getD_elem hje]; exact hge) (giveTo_get hjk), hal2, hH8⟩
      first | with_reducible replace hge := of_decide_eq_false hge | with_reducible replace hge := bn_F hge | with_reducible replace hge := bb_F hge | skip
      refine WT_skip ?_
      refine WT_inBlock ?_
      refine WT_region ?_
      refine WL_v rfl (ov_add rfl rfl (by omega)) ?_
      refine WL_v rfl (ov_move rfl) ?_
      refine WL_nil ?_
      refine again2 (j + 1) _ _ (by omega) (by repeat (first | exact trivial | refine ⟨rfl, ?_⟩)) ⟨by omega, us, ps, hF.skip (by rw [getD_elem hje]; exact hge), hal, hH⟩
    first | with_reducible replace hc2 := of_decide_eq_false hc2 | with_reducible replace hc2 := bn_F hc2 | with_reducible replace hc2 := bb_F hc2 | skip
    obtain rfl : j = k := by omega
    have hEk : (j : Int) ≤ E.getD j 0 := by rw [← hE]; exact ends_ge hv hkp
    have hrep : List.replicate (p.length - j) (0 : Int) = 0 :: List.replicate (p.length - (j + 1)) 0 := by
      rw [show p.length - j = (p.length - (j + 1)) + 1 by omega, List.replicate_succ]
    rw [hrep] at hX
    have hkl : j < (giveTo E j ++ (0 : Int) :: List.replicate (p.length - (j + 1)) 0).length := by simp [hgl]
    have hset : ∀ a : Int, (giveTo E j ++ (0 : Int) :: List.replicate (p.length - (j + 1)) 0).set j a = (giveTo E j ++ [a]) ++ List.replicate (p.length - (j + 1)) 0 := fun a => by rw [set_mid _ _ _ _ _ hgl]; simp
    rcases ps with _ | ⟨a, ps⟩
    · skip
      have : us = [] := List.eq_nil_of_length_eq_zero hal
      subst this
      obtain ⟨g1, g2⟩ := hF.makes hEk
      refine WT_exit rfl ?_
      refine WT_region ?_
      refine WL_v rfl (ov_move rfl) ?_
      refine WL_v rfl (ov_move rfl) ?_
      refine WL_call rfl rfl cf_p_impl_freePlaces_take (fpTake_new hH (by omega)) ?_; rintro _ w8 ⟨rfl, hH8⟩
      refine WL_v rfl (ov_index rfl rfl st_sl_int hX.sl hkl) ?_
      refine WL_storeI hH8 rfl rfl (i := 1) rfl hX hkl sz_int ?_; rintro X2 w9 hX2 hH9
      refine WL_nil ?_
      refine WT_inBlock ?_
      refine WT_region ?_
      refine WL_v rfl (ov_add rfl rfl (by omega)) ?_
      refine WL_v rfl (ov_move rfl) ?_
      refine WL_nil ?_
      refine again (j + 1) _ _ (by omega) (by repeat (first | exact trivial | refine ⟨rfl, ?_⟩)) ⟨by omega, X2, [], [], m + 1, ?_, ?_, rfl, by omega, hH9⟩
      · rw [hset] at hX2
        rw [giveTo, ← g1]
        exact hX2
      · rw [show ((j + 1 : Nat) : Int) - 1 = (j : Int) by omega]
        exact g2
    rcases us with _ | ⟨b, us⟩
    · simp at hal
    have hal' : us.length = ps.length := by simpa using hal
    obtain ⟨g1, g2⟩ := hF.takes hEk
    refine WT_exit rfl ?_
    refine WT_region ?_
    refine WL_v rfl (ov_move rfl) ?_
    refine WL_v rfl (ov_move rfl) ?_
    refine WL_call rfl rfl cf_p_impl_freePlaces_take (fpTake_old hH) ?_; rintro _ w8 ⟨rfl, hH8⟩
    refine WL_v rfl (ov_index rfl rfl st_sl_int hX.sl hkl) ?_
    refine WL_storeI hH8 rfl rfl (i := ps.length + 1 + 0) (chain_at hal' rfl) hX hkl sz_int ?_; rintro X2 w9 hX2 hH9
    refine WL_nil ?_
    refine WT_inBlock ?_
    refine WT_region ?_
    refine WL_v rfl (ov_add rfl rfl (by omega)) ?_
    refine WL_v rfl (ov_move rfl) ?_
    refine WL_nil ?_
    refine again (j + 1) _ _ (by omega) (by repeat (first | exact trivial | refine ⟨rfl, ?_⟩)) ⟨by omega, X2, us, ps, m, ?_, ?_, hal', by omega, by rw [chain_set hal'] at hH9; exact hH9⟩
    · rw [hset] at hX2
      rw [giveTo, ← g1]
      exact hX2
    · rw [show ((j + 1 : Nat) : Int) - 1 = (j : Int) by omega]
      exact g2
  first | with_reducible replace hc := of_decide_eq_false hc | with_reducible replace hc := bn_F hc | with_reducible replace hc := bb_F hc | skip
  obtain rfl : k = p.length := by omega
  refine WT_exit rfl ?_
  refine WT_seq ?_
  refine WT_region ?_
  refine WL_v rfl (ov_move rfl) ?_
  refine WL_v rfl (ov_assign rfl) ?_
  refine WL_nil ?_
  exact WT_ret1 Try.func35 Try.results35 rfl ⟨X, by unfold giveOf; rw [if_pos hv, hE]; simpa using hX, (H.drops _ hH.drop).del 1 rfl⟩

theorem sBufferGive_ok (hH : H w h Ls) {pv : Value} {p : List Nd} (hP : Plan h pv p) (hl : p.length ≤ 1000000000) : Rets Try.prog 33 #[pv] w fun v w' => ∃ X, IRow X 3 v (giveOf p) ∧ H w' h (X :: Ls) := by
  refine rets_enter Try.func33 rfl Try.ntmps33 (by simp) ?_
  refine WT_seq ?_
  refine WT_region ?_
  refine WL_v rfl (ov_assign rfl) ?_
  refine WL_nil ?_
  refine WT_seq ?_
  refine WT_region ?_
  refine WL_bsI0 rfl hH run_bs_int0 ?_; rintro X0 ov0 w1 hX0 hH1
  refine WL_v rfl (ov_assign rfl) ?_
  refine WL_nil ?_
  refine WT_seq ?_
  refine WT_seq ?_
  refine WT_region ?_
  refine WL_v rfl (ov_move rfl) ?_
  refine WL_call rfl rfl cf_spec_PlanValid (sPlanValid_ok hH1 hP hl) ?_; rintro _ w2 ⟨rfl, hH2⟩
  refine WL_v rfl (ov_not rfl) ?_
  refine WL_nil ?_
  refine WT_cond rfl (fun hv => ?_) (fun hv => ?_)
  · skip
    first | with_reducible replace hv := of_decide_eq_true hv | with_reducible replace hv := bn_T hv | with_reducible replace hv := bb_T hv | skip
    refine WT_seq ?_
    refine WT_region ?_
    refine WL_v rfl (ov_move rfl) ?_
    refine WL_v rfl (ov_assign rfl) ?_
    refine WL_nil ?_
    exact WT_ret1 Try.func33 Try.results33 rfl ⟨X0, by unfold giveOf; rw [hv]; exact hX0, hH2⟩
  first | with_reducible replace hv := of_decide_eq_false hv | with_reducible replace hv := bn_F hv | with_reducible replace hv := bb_F hv | skip
  have hlen := PlanOk.len hv
  have hel := endsTo_len p p.length
  refine WT_skip ?_
  refine WT_seq ?_
  refine WT_region ?_
  refine WL_v rfl (ov_move rfl) ?_
  refine WL_call rfl rfl cf_spec_l32Ends (l32Ends_ok hH2 hP hv) ?_; rintro ev w3 ⟨EX, hEX, hH3⟩
  refine WL_v rfl (ov_assign rfl) ?_
  refine WL_nil ?_
  refine WT_seq ?_
  refine WT_seq ?_
  refine WT_region ?_
  refine WL_v rfl (ov_assign rfl) ?_
  refine WL_nil ?_
  refine WT_block ?_
  generalize hE : endsTo p p.length = E at hEX hel
  refine WT_while (fun s : Nat × Value => [(0, pv), (3, s.2), (4, ev), (5, .int .i64 (s.1 : Int))]) (fun s w => s.1 ≤ p.length ∧ ∃ X, IRow X 3 s.2 (giveTo E s.1) ∧ H w h (X :: EX :: Ls)) (fun s => p.length - s.1) (0, ov0) (by repeat (first | exact trivial | refine ⟨rfl, ?_⟩)) ⟨by omega, X0, hX0, hH3.swap⟩ ?_
  clear hH hH1 hH2 hH3 hX0
  rintro ⟨k, ov⟩ w4 ⟨hk, X, hX, hH⟩ again
  simp only at hk hX
  refine WT_seq ?_
  refine WT_seq ?_
  refine WT_region ?_
  refine WL_v rfl (ov_move rfl) ?_
  refine WL_v rfl (ov_move rfl) ?_
  refine WL_v rfl (ov_len rfl hP.sl st_sl_impl_Node) ?_
  refine WL_v rfl (ov_lss rfl rfl) ?_
  refine WL_nil ?_
  refine WT_cond rfl (fun hc => ?_) (fun hc => ?_)
  · skip
    first | with_reducible replace hc := of_decide_eq_true hc | with_reducible replace hc := bn_T hc | with_reducible replace hc := bb_T hc | skip
    simp only at hc
    have hkp : k < p.length := by omega
    have hgl := giveTo_len E k
    refine WT_skip ?_
    refine WT_seq ?_
    refine WT_block ?_
    refine WT_seq ?_
    refine WT_region ?_
    refine WL_bsI0 rfl hH run_bs_int0 ?_; rintro T0 tv0 w5 hT0 hH5
    refine WL_v rfl (ov_assign rfl) ?_
    refine WL_nil ?_
    refine WT_seq ?_
    refine WT_seq ?_
    refine WT_region ?_
    refine WL_v rfl (ov_assign rfl) ?_
    refine WL_nil ?_
    refine WT_block ?_
    refine WT_while (fun s : Nat × Value => [(0, pv), (3, ov), (4, ev), (5, .int .i64 (k : Int)), (6, s.2), (7, .int .i64 (s.1 : Int))]) (fun s w => s.1 ≤ k ∧ ∃ T, IRow T 3 s.2 (takenTo E (giveTo E k) k s.1) ∧ H w h (T :: X :: EX :: Ls)) (fun s => k - s.1) (0, tv0) (by repeat (first | exact trivial | refine ⟨rfl, ?_⟩)) ⟨by omega, T0, hT0, hH5⟩ ?_
    clear hH hH5 hT0
    rintro ⟨j, tv⟩ w6 ⟨hj, T, hT, hH⟩ again2
    simp only at hj hT
    have htl := takenTo_len E (giveTo E k) k j
    have hlr := live_rg E k j
    refine WT_seq ?_
    refine WT_seq ?_
    refine WT_region ?_
    refine WL_v rfl (ov_move rfl) ?_
    refine WL_v rfl (ov_move rfl) ?_
    refine WL_v rfl (ov_lss rfl rfl) ?_
    refine WL_nil ?_
    refine WT_cond rfl (fun hc2 => ?_) (fun hc2 => ?_)
    · skip
      first | with_reducible replace hc2 := of_decide_eq_true hc2 | with_reducible replace hc2 := bn_T hc2 | with_reducible replace hc2 := bb_T hc2 | skip
      simp only at hc2
      have hjk : j < k := by omega
      have hje : j < E.length := by omega
      refine WT_skip ?_
      refine WT_seq ?_
      refine WT_block ?_
      refine WT_seq ?_
      refine WT_region ?_
      refine WL_v rfl (ov_move rfl) ?_
      refine WL_v rfl (ov_move rfl) ?_
      refine WL_v rfl (ov_index rfl rfl st_sl_int hEX.sl hje) ?_
      refine WL_v rfl (ov_load rfl one_int (hEX.cell hH (i := 2) rfl hje)) ?_
      refine WL_v rfl (ov_move rfl) ?_
      refine WL_v rfl (ov_geq rfl rfl) ?_
      refine WL_nil ?_
      refine WT_cond rfl (fun hge => ?_) (fun hge => ?_)
      · skip
        first | with_reducible replace hge := of_decide_eq_true hge | with_reducible replace hge := bn_T hge | with_reducible replace hge := bb_T hge | skip
        have hjg : j < (giveTo E k).length := by omega
        refine WT_region ?_
        refine WL_v rfl (ov_move rfl) ?_
        refine WL_v rfl (ov_move rfl) ?_
        refine WL_v rfl (ov_move rfl) ?_
        refine WL_v rfl (ov_index rfl rfl st_sl_int hX.sl hjg) ?_
        refine WL_v rfl (ov_load rfl one_int (hX.cell hH (i := 1) rfl hjg)) ?_
        refine WL_bsI rfl hH rfl (run_bs_int _) ?_; rintro Y yv w7 hY hH7
        refine WL_appI (i := 1) (j := 0) rfl hH7 rfl rfl st_sl_int rfl hT rfl hY (by simp only [List.length_cons, List.length_nil]; omega) (by simp only [List.length_cons, List.length_nil]; omega) ?_; rintro T2 tv2 w8 hT2 hH8
        refine WL_v rfl (ov_assign rfl) ?_
        refine WL_nil ?_
        refine WT_inBlock ?_
        refine WT_region ?_
        refine WL_v rfl (ov_move rfl) ?_
        refine WL_v rfl (ov_add rfl rfl (by omega)) ?_
        refine WL_v rfl (ov_assign rfl) ?_
        refine WL_nil ?_
        refine again2 (j + 1, tv2) _ _ (by simp only; omega) (by repeat (first | exact trivial | refine ⟨rfl, ?_⟩)) ⟨by simp only; omega, T2, ?_, hH8.drop⟩
        rw [takenTo, getD_elem hje, if_pos hge, getD_elem hjg]
        exact hT2
      first | with_reducible replace hge := of_decide_eq_false hge | with_reducible replace hge := bn_F hge | with_reducible replace hge := bb_F hge | skip
      refine WT_skip ?_
      refine WT_inBlock ?_
      refine WT_region ?_
      refine WL_v rfl (ov_move rfl) ?_
      refine WL_v rfl (ov_add rfl rfl (by omega)) ?_
      refine WL_v rfl (ov_assign rfl) ?_
      refine WL_nil ?_
      refine again2 (j + 1, tv) _ _ (by simp only; omega) (by repeat (first | exact trivial | refine ⟨rfl, ?_⟩)) ⟨by simp only; omega, T, ?_, hH⟩
      rw [takenTo, getD_elem hje, if_neg hge, List.append_nil]
      exact hT
    first | with_reducible replace hc2 := of_decide_eq_false hc2 | with_reducible replace hc2 := bn_F hc2 | with_reducible replace hc2 := bb_F hc2 | skip
    simp only at hc2
    obtain rfl : j = k := by omega
    refine WT_exit rfl ?_
    refine WT_seq ?_
    refine WT_region ?_
    refine WL_v rfl (ov_assign rfl) ?_
    refine WL_nil ?_
    refine WT_seq ?_
    refine WT_block ?_
    refine WT_while (fun s : Nat => [(0, pv), (3, ov), (4, ev), (5, .int .i64 (j : Int)), (6, tv), (8, .int .i64 (s : Int))]) (fun s w => (∀ m, m < s → (m : Int) ∈ takenTo E (giveTo E j) j j) ∧ H w h (T :: X :: EX :: Ls)) (fun s => (takenTo E (giveTo E j) j j).length + 1 - s) 0 (by repeat (first | exact trivial | refine ⟨rfl, ?_⟩)) ⟨by omega, hH⟩ ?_
    clear hH
    rintro s w7 ⟨hall, hH⟩ again3
    have hsl := leFree_len hall
    refine WT_seq ?_
    refine WT_seq ?_
    refine WT_region ?_
    refine WL_v rfl (ov_move rfl) ?_
    refine WL_v rfl (ov_move rfl) ?_
    refine WL_call rfl rfl cf_spec_l3Has (l3Has_ok hH (hT.rdl (i := 0) rfl) (s : Int)) ?_; rintro _ w8 ⟨rfl, hH8⟩
    refine WL_nil ?_
    refine WT_cond rfl (fun hin => ?_) (fun hin => ?_)
    · skip
      first | with_reducible replace hin := of_decide_eq_true hin | with_reducible replace hin := bn_T hin | with_reducible replace hin := bb_T hin | skip
      refine WT_skip ?_
      refine WT_block ?_
      refine WT_region ?_
      refine WL_v rfl (ov_move rfl) ?_
      refine WL_v rfl (ov_add rfl rfl (by omega)) ?_
      refine WL_v rfl (ov_assign rfl) ?_
      refine WL_nil ?_
      refine WT_inBlock ?_
      refine again3 (s + 1) _ _ (by omega) (by repeat (first | exact trivial | refine ⟨rfl, ?_⟩)) ⟨fun m hm => ?_, hH8⟩
      rcases Nat.lt_or_ge m s with h1 | h1
      · exact hall m h1
      · obtain rfl : m = s := by omega
        exact hin
    first | with_reducible replace hin := of_decide_eq_false hin | with_reducible replace hin := bn_F hin | with_reducible replace hin := bb_F hin | skip
    have hs : s = leastFree (takenTo E (giveTo E j) j j) := IsLeast.uniq ⟨hin, hall⟩ (leastFree_spec _)
    refine WT_exit rfl ?_
    refine WT_region ?_
    refine WL_v rfl (ov_move rfl) ?_
    refine WL_v rfl (ov_move rfl) ?_
    refine WL_bsI rfl hH8 rfl (run_bs_int _) ?_; rintro Y yv w9 hY hH9
    refine WL_appI (i := 2) (j := 0) rfl hH9 rfl rfl st_sl_int rfl hX rfl hY (by simp only [List.length_cons, List.length_nil]; omega) (by simp only [List.length_cons, List.length_nil]; omega) ?_; rintro X2 ov2 w10 hX2 hH10
    refine WL_v rfl (ov_assign rfl) ?_
    refine WL_nil ?_
    refine WT_inBlock ?_
    refine WT_region ?_
    refine WL_v rfl (ov_move rfl) ?_
    refine WL_v rfl (ov_add rfl rfl (by omega)) ?_
    refine WL_v rfl (ov_assign rfl) ?_
    refine WL_nil ?_
    refine again (j + 1, ov2) _ _ (by simp only; omega) (by repeat (first | exact trivial | refine ⟨rfl, ?_⟩)) ⟨by simp only; omega, X2, by rw [giveTo, ← hs]; exact hX2, hH10.drop.drop⟩
  first | with_reducible replace hc := of_decide_eq_false hc | with_reducible replace hc := bn_F hc | with_reducible replace hc := bb_F hc | skip
  simp only at hc
  obtain rfl : k = p.length := by omega
  refine WT_exit rfl ?_
  refine WT_seq ?_
  refine WT_region ?_
  refine WL_v rfl (ov_move rfl) ?_
  refine WL_v rfl (ov_assign rfl) ?_
  refine WL_nil ?_
  exact WT_ret1 Try.func33 Try.results33 rfl ⟨X, by unfold giveOf; rw [if_pos hv, hE]; exact hX, hH.del 1 rfl⟩

/-- A drawn plan and a list, shared. -/
def DrewL (h : GH) (Ls : List Heaplet) (pv lv : Value) (w' : World) : Prop := ∃ h' p pl, h.Le h' ∧ Plan h' pv p ∧ p.length ≤ 11 ∧ Ints h' lv pl ∧ pl.length ≤ 20 ∧ H w' h' Ls
end
end Go.Proofs.Ytmcedghgincaaaa
