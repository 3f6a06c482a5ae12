/- Walks: counts behind a node. -/
import Derived.Test.YtmcedghgincaaaaWkAA
import Derived.Test.YtmcedghgincaaaaWkCC
import Derived.Test.YtmcedghgincaaaaPlN
namespace Go.Proofs.Ytmcedghgincaaaa
open Go.RowKit

section
variable {h : GH} {Ls : List Heaplet} {w : World}

theorem setsame {i : Nat} {X : Heaplet} (hi : Ls[i]? = some X) : Ls.set i X = Ls := by
  have hil : i < Ls.length := (List.getElem?_eq_some_iff.1 hi).1
  apply List.ext_getElem?
  intro j
  rw [List.getElem?_set]
  split
  · rename_i hij; subst hij; exact hi.symm
  · rfl

theorem ctSet_ok {i g : Nat} {L : List Int} {n : Nat} {cv : Value} {c : List Int} (hH : H w h Ls) (hi : Ls[i]? = some (cbox g L n)) (hL : L.length = 10) (hn : n ≤ 10) (hC : RdL h Ls cv c) (hlim : c.length ≤ 1000000000) :
    Rets Try.prog 71 #[ptr g, cv] w fun v w' => (c.length = n ∧ (∀ k, k < n → 0 ≤ c.getD k 0 ∧ c.getD k 0 ≤ L.getD k 0) ∧ v = .bool true ∧ H w' h (Ls.set i (cbox g (c ++ L.drop n) n))) ∨ (¬ (c.length = n ∧ ∀ k, k < n → 0 ≤ c.getD k 0 ∧ c.getD k 0 ≤ L.getD k 0) ∧ v = .bool false ∧ H w' h Ls) := by
  have hsz : ∀ {w}, H w h Ls → w.cell? ((⟨g, 0, none⟩ : Addr).add 10) = some (.int .i64 (n : Int)) := fun {w} hH => (hH.cb i hi 10).trans (cbox_size hL)
  have hcell : ∀ {w}, H w h Ls → ∀ {u}, (hu : u < L.length) → w.cell? (((⟨g, 0, none⟩ : Addr).add 0).add (u * 1)) = some (.int .i64 L[u]) := fun {w} hH {u} hu => by
    have := hH.cbA i hi 0 u
    rw [cbox_get hu] at this
    exact this
  refine rets_enter Try.func71 rfl Try.ntmps71 (by simp) ?_
  refine WT_seq ?_
  refine WT_region ?_
  refine WL_v rfl (ov_assign rfl) ?_
  refine WL_nil ?_
  refine WT_seq ?_
  refine WT_seq ?_
  refine WT_region ?_
  refine WL_v rfl (ov_move rfl) ?_
  refine WL_v rfl (ov_len rfl hC.sl st_sl_int) ?_
  refine WL_v rfl (ov_move rfl) ?_
  refine WL_v rfl (ov_nilCheck rfl) ?_
  refine WL_v rfl (ov_field rfl fo_impl_countTable_1) ?_
  refine WL_v rfl (ov_load rfl one_int (hsz hH)) ?_
  refine WL_v rfl (ov_neq rfl rfl) ?_
  refine WL_nil ?_
  refine WT_cond rfl (fun hne => ?_) (fun hne => ?_)
  · skip
    first | with_reducible replace hne := of_decide_eq_true hne | with_reducible replace hne := bn_T hne | with_reducible replace hne := bb_T hne | skip
    refine WT_seq ?_
    refine WT_region ?_
    refine WL_v rfl (ov_assign rfl) ?_
    refine WL_nil ?_
    exact WT_ret1 Try.func71 Try.results71 rfl (.inr ⟨fun hh => hne (by rw [hh.1]), rfl, hH⟩)
  first | with_reducible replace hne := of_decide_eq_false hne | with_reducible replace hne := bn_F hne | with_reducible replace hne := bb_F hne | skip
  have hcn : c.length = n := by omega
  refine WT_skip ?_
  refine WT_seq ?_
  refine WT_seq ?_
  refine WT_region ?_
  refine WL_v rfl (ov_move rfl) ?_
  refine WL_v rfl (ov_len rfl hC.sl st_sl_int) ?_
  refine WL_v rfl (ov_move rfl) ?_
  refine WL_nil ?_
  refine WT_block ?_
  refine WT_while (fun s : Nat => [(0, ptr g), (1, cv), (14, cv), (15, .int .i64 (c.length : Int)), (16, .int .i64 (s : Int))]) (fun k w => k ≤ c.length ∧ (∀ j, j < k → 0 ≤ c.getD j 0 ∧ c.getD j 0 ≤ L.getD j 0) ∧ H w h Ls) (fun k => c.length - k) 0 (by repeat (first | exact trivial | refine ⟨rfl, ?_⟩)) ⟨by omega, by omega, hH⟩ ?_
  clear hH
  rintro k w2 ⟨hk, hall, hH⟩ again
  refine WT_seq ?_
  refine WT_region ?_
  refine WL_v rfl (ov_lss rfl rfl) ?_
  refine WL_nil ?_
  refine WT_seq ?_
  refine WT_cond rfl (fun hc => ?_) (fun hc => ?_)
  · skip
    first | with_reducible replace hc := of_decide_eq_true hc | with_reducible replace hc := bn_T hc | with_reducible replace hc := bb_T hc | skip
    have hkc : k < c.length := by omega
    have hkL : k < L.length := by omega
    by_cases h0 : c[k] < 0
    · skip
      refine WT_skip ?_
      refine WT_seq ?_
      refine WT_block ?_
      refine WT_seq ?_
      refine WT_region ?_
      refine WL_v rfl (ov_move rfl) ?_
      refine WL_v rfl (ov_index rfl rfl st_sl_int hC.sl hkc) ?_
      refine WL_v rfl (ov_load rfl one_int (hC.cell hH hkc)) ?_
      refine WL_v rfl (ov_assign rfl) ?_
      refine WL_v rfl (ov_assign rfl) ?_
      refine WL_nil ?_
      refine WT_seq ?_
      refine WT_region ?_
      refine WL_v rfl (ov_move rfl) ?_
      refine WL_v rfl (ov_T (ov_lss rfl rfl) (by first | exact decide_eq_true h0 | exact nb_T h0 | exact mb_T h0 | exact h0 | (simp only [decide_eq_true_eq]; omega) | simpa using h0)) ?_
      refine WL_v rfl (ov_move rfl) ?_
      refine WL_guardOff rfl rfl rfl rfl ?_
      refine WL_guardOff rfl rfl rfl rfl ?_
      refine WL_guardOff rfl rfl rfl rfl ?_
      refine WL_guardOff rfl rfl rfl rfl ?_
      refine WL_guardOff rfl rfl rfl rfl ?_
      refine WL_guardOff rfl rfl rfl rfl ?_
      refine WL_guardOff rfl rfl rfl rfl ?_
      refine WL_guardOff rfl rfl rfl rfl ?_
      refine WL_v rfl (ov_pickT rfl rfl) ?_
      refine WL_nil ?_
      refine WT_condT rfl ?_
      refine WT_seq ?_
      refine WT_region ?_
      refine WL_v rfl (ov_assign rfl) ?_
      refine WL_nil ?_
      exact WT_ret1 Try.func71 Try.results71 rfl (.inr ⟨fun hh => by have := hh.2 k (by omega); rw [getD_elem hkc] at this; omega, rfl, hH⟩)
    refine WT_skip ?_
    refine WT_seq ?_
    refine WT_block ?_
    refine WT_seq ?_
    refine WT_region ?_
    refine WL_v rfl (ov_move rfl) ?_
    refine WL_v rfl (ov_index rfl rfl st_sl_int hC.sl hkc) ?_
    refine WL_v rfl (ov_load rfl one_int (hC.cell hH hkc)) ?_
    refine WL_v rfl (ov_assign rfl) ?_
    refine WL_v rfl (ov_assign rfl) ?_
    refine WL_nil ?_
    refine WT_seq ?_
    refine WT_region ?_
    refine WL_v rfl (ov_move rfl) ?_
    refine WL_v rfl (ov_F (ov_lss rfl rfl) (by first | exact decide_eq_false h0 | exact nb_F h0 | exact mb_F h0 | exact h0 | (simp only [decide_eq_false_iff_not]; omega) | simpa using h0)) ?_
    refine WL_v rfl (ov_move rfl) ?_
    refine WL_guardOn rfl rfl ?_
    refine WL_v rfl (ov_move rfl) ?_
    refine WL_guardOn rfl rfl ?_
    refine WL_v rfl (ov_move rfl) ?_
    refine WL_guardOn rfl rfl ?_
    refine WL_v rfl (ov_move rfl) ?_
    refine WL_guardOn rfl rfl ?_
    refine WL_v rfl (ov_nilCheck rfl) ?_
    refine WL_guardOn rfl rfl ?_
    refine WL_v rfl (ov_field rfl fo_impl_countTable_0) ?_
    refine WL_guardOn rfl rfl ?_
    refine WL_v rfl (ov_idxA rfl rfl arr_10int (by omega)) ?_
    refine WL_guardOn rfl rfl ?_
    refine WL_v rfl (ov_load rfl one_int (hcell hH hkL)) ?_
    refine WL_guardOn rfl rfl ?_
    refine WL_v rfl (ov_gtr rfl rfl) ?_
    refine WL_v rfl (ov_pickF rfl rfl) ?_
    refine WL_nil ?_
    refine WT_cond rfl (fun h1 => ?_) (fun h1 => ?_)
    · skip
      first | with_reducible replace h1 := of_decide_eq_true h1 | with_reducible replace h1 := bn_T h1 | with_reducible replace h1 := bb_T h1 | skip
      refine WT_seq ?_
      refine WT_region ?_
      refine WL_v rfl (ov_assign rfl) ?_
      refine WL_nil ?_
      exact WT_ret1 Try.func71 Try.results71 rfl (.inr ⟨fun hh => by have := hh.2 k (by omega); rw [getD_elem hkc, getD_elem hkL] at this; omega, rfl, hH⟩)
    first | with_reducible replace h1 := of_decide_eq_false h1 | with_reducible replace h1 := bn_F h1 | with_reducible replace h1 := bb_F h1 | skip
    refine WT_skip ?_
    refine WT_inBlock ?_
    refine WT_region ?_
    refine WL_v rfl (ov_add rfl rfl (by omega)) ?_
    refine WL_v rfl (ov_move rfl) ?_
    refine WL_nil ?_
    refine again (k + 1) _ _ (by omega) (by repeat (first | exact trivial | refine ⟨rfl, ?_⟩)) ⟨by omega, fun j hj => ?_, hH⟩
    rcases Nat.lt_or_ge j k with h3 | h3
    · exact hall j h3
    · obtain rfl : j = k := by omega
      rw [getD_elem hkc, getD_elem hkL]; omega
  first | with_reducible replace hc := of_decide_eq_false hc | with_reducible replace hc := bn_F hc | with_reducible replace hc := bb_F hc | skip
  obtain rfl : k = c.length := by omega
  have hsp : (splice ((L.map (Value.int .i64) ++ [Value.int .i64 (n : Int)]).toArray).toList 0 (c.map (Value.int .i64))).toArray = ((c ++ L.drop n).map (Value.int .i64) ++ [Value.int .i64 (n : Int)]).toArray := by
    congr 1
    unfold splice
    have h9 : c.length ≤ (List.map (Value.int .i64) L).length := by simp [hL]; omega
    simp only [List.take_zero, List.nil_append, Nat.zero_add, List.length_map]
    rw [List.drop_append_of_le_length h9, hcn, List.map_append, List.map_drop, List.append_assoc]
  refine WT_exit rfl ?_
  refine WT_seq ?_
  refine WT_region ?_
  refine WL_v rfl (ov_move rfl) ?_
  refine WL_v rfl (ov_nilCheck rfl) ?_
  refine WL_v rfl (ov_field rfl fo_impl_countTable_0) ?_
  refine WL_v rfl (ov_sliceAll rfl arr_10int) ?_
  refine WL_v rfl (ov_move rfl) ?_
  refine WL_copyI rfl hH rfl rfl st_sl_int (i := i) hi hC.sl (hC.cell hH) (by omega) (by simp [hL]; omega) ?_; rintro w3 hH3
  refine WL_nil ?_
  refine WT_seq ?_
  refine WT_region ?_
  refine WL_v rfl (ov_assign rfl) ?_
  refine WL_nil ?_
  rw [hsp] at hH3
  exact WT_ret1 Try.func71 Try.results71 rfl (.inl ⟨hcn, fun k hk => hall k (by omega), rfl, hH3⟩)

theorem ctTake_ok {i j g : Nat} {L : List Int} {n : Nat} {uv : Value} {U : List Nat} {UX : Heaplet} (hH : H w h Ls) (hi : Ls[i]? = some (cbox g L n)) (hj : Ls[j]? = some UX) (hij : i ≠ j) (hL : L.length = 10) (hU : IRow UX 3 uv (toI U)) (hUn : U.Nodup) (hU10 : ∀ u ∈ U, u < 10) (hr : ∀ u, 0 ≤ L.getD u 0 ∧ L.getD u 0 ≤ 1000) :
    Rets Try.prog 72 #[ptr g, uv] w fun v w' => ((∀ u ∈ U, L.getD u 0 ≠ 0) ∧ ∃ X rv, v = .tuple #[rv, .bool true] ∧ IRow X 3 rv (toI (U.filter fun u => decide (L.getD u 0 = 1))) ∧ H w' h (X :: Ls.set i (cbox g (decAll U L) n))) ∨
      (¬ (∀ u ∈ U, L.getD u 0 ≠ 0) ∧ v = .tuple #[.slice none 0 0, .bool false] ∧ ∃ L', H w' h (Ls.set i (cbox g L' n))) := by
  have hil : i < Ls.length := (List.getElem?_eq_some_iff.1 hi).1
  have hjl : j < Ls.length := (List.getElem?_eq_some_iff.1 hj).1
  have hul := toI_len U
  have hUle : U.length ≤ 10 := nodup_le hUn hU10
  have hsi : ∀ {L' : List Int}, (Ls.set i (cbox g L' n))[i]? = some (cbox g L' n) := fun {L'} => by rw [List.getElem?_set, if_pos rfl, if_pos hil]
  have hsj : ∀ {L' : List Int}, (Ls.set i (cbox g L' n))[j]? = some UX := fun {L'} => by rw [List.getElem?_set, if_neg hij]; exact hj
  refine rets_enter Try.func72 rfl Try.ntmps72 (by simp) ?_
  refine WT_seq ?_
  refine WT_region ?_
  refine WL_v rfl (ov_assign rfl) ?_
  refine WL_v rfl (ov_assign rfl) ?_
  refine WL_nil ?_
  refine WT_seq ?_
  refine WT_region ?_
  refine WL_v rfl (ov_assign rfl) ?_
  refine WL_nil ?_
  refine WT_seq ?_
  refine WT_seq ?_
  refine WT_region ?_
  refine WL_v rfl (ov_move rfl) ?_
  refine WL_v rfl (ov_len rfl hU.sl st_sl_int) ?_
  refine WL_v rfl (ov_move rfl) ?_
  refine WL_nil ?_
  refine WT_block ?_
  refine WT_while (fun s : Nat × Value => [(0, ptr g), (6, s.2), (9, uv), (10, .int .i64 ((toI U).length : Int)), (11, .int .i64 (s.1 : Int))]) (fun s w => s.1 ≤ U.length ∧ (∀ u ∈ U.take s.1, L.getD u 0 ≠ 0) ∧ ∃ X, IRow X 3 s.2 (toI ((U.take s.1).filter fun u => decide (L.getD u 0 = 1))) ∧ H w h (X :: Ls.set i (cbox g (decAll (U.take s.1) L) n))) (fun s => U.length - s.1) (0, .slice none 0 0) (by repeat (first | exact trivial | refine ⟨rfl, ?_⟩)) ⟨by omega, by simp, [], IRow.nil _, by
    have : Ls.set i (cbox g (decAll (U.take 0) L) n) = Ls := setsame hi
    rw [this]; exact hH.nilIn⟩ ?_
  clear hH
  rintro ⟨k, sv⟩ w2 ⟨hk, hall, X, hX, hH⟩ again
  simp only at hk hall hX
  have hfl := List.length_filter_le (fun u => decide (L.getD u 0 = 1)) (U.take k)
  rw [List.length_take] at hfl
  refine WT_seq ?_
  refine WT_region ?_
  refine WL_v rfl (ov_lss rfl rfl) ?_
  refine WL_nil ?_
  refine WT_seq ?_
  refine WT_cond rfl (fun hc => ?_) (fun hc => ?_)
  · skip
    first | with_reducible replace hc := of_decide_eq_true hc | with_reducible replace hc := bn_T hc | with_reducible replace hc := bb_T hc | skip
    simp only at hc
    have hkU : k < U.length := by omega
    have hkt : k < (toI U).length := by omega
    obtain ⟨u, hu⟩ : ∃ u, U[k] = u := ⟨_, rfl⟩
    have hgk : (toI U)[k] = (u : Int) := by simp [toI, hu]
    have hum : u ∈ U := hu ▸ List.getElem_mem hkU
    have hu10 := hU10 u hum
    have hut : u ∉ U.take k := fun hm => by
      obtain ⟨a, ha, he⟩ := List.mem_iff_getElem.1 hm
      rw [List.length_take] at ha
      rw [List.getElem_take, ← hu] at he
      have := (List.getElem_inj hUn).1 he
      omega
    have hdl := decAll_len (U.take k) L
    have hud : u < (decAll (U.take k) L).length := by omega
    have hdu : (decAll (U.take k) L)[u] = L.getD u 0 := by
      have := decAll_getD (l := U.take k) (L := L) (hUn.sublist (List.take_sublist _ _)) (fun x hx => by have := hU10 x (List.mem_of_mem_take hx); omega) u
      rw [getD_elem hud, if_neg hut] at this
      omega
    have hru := hr u
    have hcell : ∀ {w A}, H w h (A :: Ls.set i (cbox g (decAll (U.take k) L) n)) → w.cell? (((⟨g, 0, none⟩ : Addr).add 0).add (u * 1)) = some (.int .i64 (L.getD u 0)) := fun {w A} hH => by
      have := hH.cbA (i + 1) hsi 0 u
      rw [cbox_get hud, hdu] at this
      exact this
    have hcell2 : ∀ {w A B}, H w h (A :: B :: Ls.set i (cbox g (decAll (U.take k) L) n)) → w.cell? (((⟨g, 0, none⟩ : Addr).add 0).add (u * 1)) = some (.int .i64 (L.getD u 0)) := fun {w A B} hH => by
      have := hH.cbA (i + 1 + 1) hsi 0 u
      rw [cbox_get hud, hdu] at this
      exact this
    refine WT_skip ?_
    refine WT_seq ?_
    refine WT_block ?_
    refine WT_seq ?_
    refine WT_region ?_
    refine WL_v rfl (ov_index rfl rfl st_sl_int hU.sl hkt) ?_
    refine WL_v rfl (ov_load rfl one_int (hU.cell hH (i := j + 1) hsj hkt)) ?_; rw [hgk]
    refine WL_v rfl (ov_assign rfl) ?_
    refine WL_nil ?_
    refine WT_seq ?_
    refine WT_seq ?_
    refine WT_region ?_
    refine WL_v rfl (ov_move rfl) ?_
    refine WL_v rfl (ov_move rfl) ?_
    refine WL_v rfl (ov_nilCheck rfl) ?_
    refine WL_v rfl (ov_field rfl fo_impl_countTable_0) ?_
    refine WL_v rfl (ov_idxA rfl rfl arr_10int (by omega)) ?_
    refine WL_v rfl (ov_load rfl one_int (hcell hH)) ?_
    refine WL_v rfl (ov_eql rfl rfl) ?_
    refine WL_nil ?_
    refine WT_cond rfl (fun h0 => ?_) (fun h0 => ?_)
    · skip
      first | with_reducible replace h0 := of_decide_eq_true h0 | with_reducible replace h0 := bn_T h0 | with_reducible replace h0 := bb_T h0 | skip
      refine WT_seq ?_
      refine WT_region ?_
      refine WL_v rfl (ov_assign rfl) ?_
      refine WL_v rfl (ov_assign rfl) ?_
      refine WL_nil ?_
      exact WT_ret2 Try.func72 Try.results72 rfl rfl (.inr ⟨fun hh => hh u hum h0, rfl, _, hH.drop⟩)
    first | with_reducible replace h0 := of_decide_eq_false h0 | with_reducible replace h0 := bn_F h0 | with_reducible replace h0 := bb_F h0 | skip
    have htk : U.take (k + 1) = U.take k ++ [u] := by rw [List.take_succ_eq_append_getElem hkU, hu]
    have hnew : decAll (U.take (k + 1)) L = (decAll (U.take k) L).set u (L.getD u 0 - 1) := by
      rw [htk, decAll_snoc, getD_elem hud, hdu]
    refine WT_skip ?_
    refine WT_seq ?_
    refine WT_mixL [(0, 0), (1, 0), (2, 0), (3, 0), (4, 0), (5, 0), (6, 0), (7, 0), (8, 0), (9, 0), (10, 2)] mixed (by kernel_rfl) hH ?_
    clear hH
    intro w3 hH hC
    refine WM_v rfl rfl hC (fun _ _ => ov_move rfl) ?_
    refine WM_v rfl rfl hC (fun _ _ => ov_move rfl) ?_
    refine WM_v rfl rfl hC (fun _ _ => ov_nilCheck rfl) ?_
    refine WM_v rfl rfl hC (fun _ _ => ov_field rfl fo_impl_countTable_0) ?_
    refine WM_v rfl rfl hC (fun _ _ => ov_idxA rfl rfl arr_10int (by omega)) ?_
    refine WM_v rfl rfl hC (fun _ ⟨_, hH⟩ => ov_load rfl one_int (hcell2 hH)) ?_
    refine WM_v rfl rfl hC (fun _ _ => ov_sub rfl rfl (by omega)) ?_
    refine WM_v rfl rfl hC (fun _ _ => ov_nilCheck rfl) ?_
    refine WM_v rfl rfl hC (fun _ _ => ov_field rfl fo_impl_countTable_0) ?_
    refine WM_v rfl rfl hC (fun _ _ => ov_idxA rfl rfl arr_10int (by omega)) ?_
    refine WM_e rfl ?_
    refine WL_store hH rfl rfl (i := i + 1) (off := 0 + u) hsi (by show ((⟨g, 0, none⟩ : Addr).add 0).add (u * 1) = _; exact addA g 0 u) (by simp [hdl, hL]; omega) rfl sz_int ?_; rintro w4 hH4
    refine WL_mix (fun h => absurd rfl h) ?_
    refine WM_nil ?_
    refine WT_seq ?_
    refine WT_region ?_
    refine WL_v rfl (ov_move rfl) ?_
    refine WL_v rfl (ov_move rfl) ?_
    refine WL_v rfl (ov_nilCheck rfl) ?_
    refine WL_v rfl (ov_field rfl fo_impl_countTable_0) ?_
    rw [cbox_set hud, List.set_cons_succ, List.set_set, ← hnew] at hH4
    have hH5 : H w4 h (X :: Ls.set i (cbox g (decAll (U.take (k + 1)) L) n)) := hH4
    have hud2 : u < (decAll (U.take (k + 1)) L).length := by rw [decAll_len]; omega
    have hdu2 : (decAll (U.take (k + 1)) L)[u] = L.getD u 0 - 1 := by simp [hnew]
    have hcell3 : ∀ {w A}, H w h (A :: Ls.set i (cbox g (decAll (U.take (k + 1)) L) n)) → w.cell? (((⟨g, 0, none⟩ : Addr).add 0).add (u * 1)) = some (.int .i64 (L.getD u 0 - 1)) := fun {w A} hH => by
      have := hH.cbA (i + 1) hsi 0 u
      rw [cbox_get hud2, hdu2] at this
      exact this
    have hall2 : ∀ x ∈ U.take (k + 1), L.getD x 0 ≠ 0 := fun x hx => by
      rw [htk] at hx
      rcases List.mem_append.1 hx with hx | hx
      · exact hall x hx
      · rw [List.mem_singleton] at hx; rw [hx]; exact h0
    refine WL_v rfl (ov_idxA rfl rfl arr_10int (by omega)) ?_
    refine WL_v rfl (ov_load rfl one_int (hcell3 hH5)) ?_
    refine WL_v rfl (ov_eql rfl rfl) ?_
    refine WL_nil ?_
    refine WT_cond rfl (fun h1 => ?_) (fun h1 => ?_)
    · skip
      first | with_reducible replace h1 := of_decide_eq_true h1 | with_reducible replace h1 := bn_T h1 | with_reducible replace h1 := bb_T h1 | skip
      refine WT_region ?_
      refine WL_v rfl (ov_move rfl) ?_
      refine WL_v rfl (ov_move rfl) ?_
      refine WL_bsI rfl hH5 rfl (run_bs_int _) ?_; rintro Y yv w5 hY hH6
      refine WL_appI (i := 1) (j := 0) rfl hH6 rfl rfl st_sl_int rfl hX rfl hY (by simp only [toI_len, List.length_cons, List.length_nil]; omega) (by simp only [toI_len, List.length_cons, List.length_nil]; omega) ?_; rintro X2 sv2 w6 hX2 hH7
      refine WL_v rfl (ov_assign rfl) ?_
      refine WL_nil ?_
      refine WT_inBlock ?_
      refine WT_region ?_
      refine WL_v rfl (ov_add rfl rfl (by omega)) ?_
      refine WL_v rfl (ov_move rfl) ?_
      refine WL_nil ?_
      refine again (k + 1, sv2) _ _ (by simp only; omega) (by repeat (first | exact trivial | refine ⟨rfl, ?_⟩)) ⟨by simp only; omega, hall2, X2, by simp only; rw [htk, List.filter_append, List.filter_cons, if_pos (by rw [decide_eq_true_eq]; omega), List.filter_nil, toI_snoc]; exact hX2, hH7.drop⟩
    first | with_reducible replace h1 := of_decide_eq_false h1 | with_reducible replace h1 := bn_F h1 | with_reducible replace h1 := bb_F h1 | skip
    refine WT_skip ?_
    refine WT_inBlock ?_
    refine WT_region ?_
    refine WL_v rfl (ov_add rfl rfl (by omega)) ?_
    refine WL_v rfl (ov_move rfl) ?_
    refine WL_nil ?_
    refine again (k + 1, sv) _ _ (by simp only; omega) (by repeat (first | exact trivial | refine ⟨rfl, ?_⟩)) ⟨by simp only; omega, hall2, X, by simp only; rw [htk, List.filter_append, List.filter_cons, if_neg (by rw [decide_eq_true_eq]; omega), List.filter_nil, List.append_nil]; exact hX, hH5⟩
  first | with_reducible replace hc := of_decide_eq_false hc | with_reducible replace hc := bn_F hc | with_reducible replace hc := bb_F hc | skip
  simp only at hc
  obtain rfl : k = U.length := by omega
  rw [List.take_length] at hX hH hall
  refine WT_exit rfl ?_
  refine WT_seq ?_
  refine WT_region ?_
  refine WL_v rfl (ov_move rfl) ?_
  refine WL_v rfl (ov_assign rfl) ?_
  refine WL_v rfl (ov_assign rfl) ?_
  refine WL_nil ?_
  exact WT_ret2 Try.func72 Try.results72 rfl rfl (.inl ⟨hall, X, sv, rfl, hX, hH⟩)
end
end Go.Proofs.Ytmcedghgincaaaa
