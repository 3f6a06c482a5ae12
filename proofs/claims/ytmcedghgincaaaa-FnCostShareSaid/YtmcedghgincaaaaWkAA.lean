/- Walks: how many different nodes each node needs: the program's table. -/
import Derived.Test.YtmcedghgincaaaaWkP
import Derived.Test.YtmcedghgincaaaaPlK
namespace Go.Proofs.Ytmcedghgincaaaa
open Go.RowKit

/-- The variable of a table: ten counts and how many count. -/
def cbox (g : Nat) (L : List Int) (n : Nat) : Heaplet := [(g, .cells (L.map (Value.int .i64) ++ [Value.int .i64 (n : Int)]).toArray 119 (0, 0))]
theorem cbox_get {L : List Int} {n u : Nat} (hu : u < L.length) : ((L.map (Value.int .i64) ++ [Value.int .i64 (n : Int)]).toArray)[0 + u]? = some (.int .i64 L[u]) := by
  rw [Nat.zero_add, List.getElem?_toArray, List.getElem?_append_left (by simpa using hu)]
  simp [hu]
theorem cbox_size {L : List Int} {n : Nat} (hL : L.length = 10) : ((L.map (Value.int .i64) ++ [Value.int .i64 (n : Int)]).toArray)[10]? = some (.int .i64 (n : Int)) := by
  rw [List.getElem?_toArray, List.getElem?_append_right (by simp [hL])]
  simp [hL]
theorem cbox_set {L : List Int} {n u : Nat} (hu : u < L.length) (a : Int) : (L.map (Value.int .i64) ++ [Value.int .i64 (n : Int)]).toArray.setIfInBounds (0 + u) (.int .i64 a) = ((L.set u a).map (Value.int .i64) ++ [Value.int .i64 (n : Int)]).toArray := by
  rw [Nat.zero_add, List.setIfInBounds_toArray, List.set_append_left _ _ (by simpa using hu), List.map_set]

section
variable {h : GH} {Ls : List Heaplet} {w : World}

theorem copyInts_ok (hH : H w h Ls) {av : Value} {xs : List Int} (hA : RdL h Ls av xs) (hl : xs.length ≤ 1000000000) : Rets Try.prog 98 #[av] w fun v w' => ∃ X, IRow X 3 v xs ∧ H w' h (X :: Ls) := by
  refine rets_enter Try.func98 rfl Try.ntmps98 (by simp) ?_
  refine WT_seq ?_
  refine WT_region ?_
  refine WL_v rfl (ov_assign rfl) ?_
  refine WL_nil ?_
  refine WT_seq ?_
  refine WT_region ?_
  refine WL_v rfl (ov_move rfl) ?_
  refine WL_appR (i := 0) (xs := []) rfl hH.nilIn rfl rfl st_sl_int rfl (IRow.nil _) hA.sl (hA.cell hH) (by simp only [List.length_nil]; omega) (by simp only [List.length_nil]; omega) ?_; rintro X v w2 hX hH2
  refine WL_v rfl (ov_assign rfl) ?_
  refine WL_nil ?_
  exact WT_ret1 Try.func98 Try.results98 rfl ⟨X, by simpa using hX, hH2⟩

theorem run_build_ct (n : Int) (W : World) : (Instr.build 119 #[(1, .int .i64 n)]).run Try.prog W = .ok (.agg #[.int .i64 0, .int .i64 0, .int .i64 0, .int .i64 0, .int .i64 0, .int .i64 0, .int .i64 0, .int .i64 0, .int .i64 0, .int .i64 0, .int .i64 n]) W := by kernel_rfl

theorem ctList_ok {i g : Nat} {L : List Int} {n : Nat} (hH : H w h Ls) (hi : Ls[i]? = some (cbox g L n)) (hL : L.length = 10) (hn : n ≤ 10) : Rets Try.prog 68 #[ptr g] w fun v w' => ∃ X, IRow X 3 v (L.take n) ∧ H w' h (X :: Ls) := by
  have hsl : Sl (.slice (some ⟨g, 0, none⟩) n 10) (L.take n).length := ⟨by rw [List.length_take]; omega, _, 10, by rw [List.length_take, hL, Nat.min_eq_left hn], by rw [List.length_take]; omega, fun _ => rfl, fun _ a ha => by cases ha; rfl⟩
  have hrd : RdL h Ls (.slice (some ⟨g, 0, none⟩) n 10) (L.take n) := ⟨hsl, fun {w} hH {j} hj => by
    rw [List.length_take] at hj
    have := hH.cbA i hi 0 j
    rw [cbox_get (by omega)] at this
    rw [List.getElem_take]
    exact this⟩
  refine rets_enter Try.func68 rfl Try.ntmps68 (by simp) ?_
  refine WT_seq ?_
  refine WT_region ?_
  refine WL_v rfl (ov_assign rfl) ?_
  refine WL_nil ?_
  refine WT_seq ?_
  refine WT_mixL [(0, 0), (1, 0), (2, 0), (3, 0), (4, 0), (5, 0), (6, 0), (7, 0), (8, 1), (9, 0)] mixed (by kernel_rfl) hH ?_
  clear hH
  intro w1 hH hC
  refine WM_v rfl rfl hC (fun _ _ => ov_move rfl) ?_
  refine WM_v rfl rfl hC (fun _ _ => ov_nilCheck rfl) ?_
  refine WM_v rfl rfl hC (fun _ _ => ov_field rfl fo_impl_countTable_0) ?_
  refine WM_v rfl rfl hC (fun _ _ => ov_move rfl) ?_
  refine WM_v rfl rfl hC (fun _ _ => ov_nilCheck rfl) ?_
  refine WM_v rfl rfl hC (fun _ _ => ov_field rfl fo_impl_countTable_1) ?_
  refine WM_v rfl rfl hC (fun _ ⟨_, hH⟩ => ov_load rfl one_int ((hH.cb (i + 1) hi 10).trans (cbox_size hL))) ?_
  refine WM_v rfl rfl hC (fun _ _ => ov_sliceA rfl rfl arr_10int hn) ?_
  refine WM_e rfl ?_
  refine WL_call rfl rfl cf_impl_copyInts (copyInts_ok hH hrd (by rw [List.length_take]; omega)) ?_; rintro v w2 ⟨X, hX, hH2⟩
  replace hC : Cl _ _ _ := ⟨_, hH2⟩
  refine WL_mix (fun _ => hC) ?_
  refine WM_v rfl rfl hC (fun _ _ => ov_assign rfl) ?_
  refine WM_nil ?_
  exact WT_ret1 Try.func68 Try.results68 rfl ⟨X, hX, hH2⟩

set_option maxHeartbeats 1000000 in
theorem countTableOf_ok (hH : H w h Ls) {pv : Value} {p : List Nd} (hP : Plan h pv p) (hv : planOk p = true) : Rets Try.prog 67 #[pv] w fun v w' => ∃ g, v = ptr g ∧ H w' h (cbox g (tabK p p.length []) p.length :: Ls) := by
  have hlen := PlanOk.len hv
  refine rets_enter Try.func67 rfl Try.ntmps67 (by simp) ?_
  refine WT_seq ?_
  refine WT_region ?_
  refine WL_v rfl (ov_assign rfl) ?_
  refine WL_nil ?_
  refine WT_seq ?_
  refine WT_region ?_
  refine WL_v rfl (ov_move rfl) ?_
  refine WL_v rfl (ov_len rfl hP.sl st_sl_impl_Node) ?_
  refine WL_v rfl (ov_build rfl (run_build_ct _)) ?_
  refine WL_box _ rfl hH rfl rfl ?_; rintro g w1 hH1
  refine WL_v rfl (ov_assign rfl) ?_
  refine WL_nil ?_
  refine WT_seq ?_
  refine WT_seq ?_
  refine WT_region ?_
  refine WL_v rfl (ov_move rfl) ?_
  refine WL_v rfl (ov_len rfl hP.sl st_sl_impl_Node) ?_
  refine WL_v rfl (ov_move rfl) ?_
  refine WL_nil ?_
  refine WT_block ?_
  have hH2 : H w1 h (cbox g (tabK p 0 []) p.length :: Ls) := by unfold cbox; rw [tabK_zero]; exact hH1
  refine WT_while (fun s : Nat => [(0, pv), (3, ptr g), (12, .int .i64 (p.length : Int)), (13, .int .i64 (s : Int))]) (fun k w => k ≤ p.length ∧ H w h (cbox g (tabK p k []) p.length :: Ls)) (fun k => p.length - k) 0 (by repeat (first | exact trivial | refine ⟨rfl, ?_⟩)) ⟨by omega, hH2⟩ ?_
  clear hH hH1 hH2
  rintro k w2 ⟨hk, hH⟩ again
  refine WT_seq ?_
  refine WT_region ?_
  refine WL_v rfl (ov_lss rfl rfl) ?_
  refine WL_nil ?_
  refine WT_seq ?_
  refine WT_cond rfl (fun hc => ?_) (fun hc => ?_)
  · skip
    first | with_reducible replace hc := of_decide_eq_true hc | with_reducible replace hc := bn_T hc | with_reducible replace hc := bb_T hc | skip
    have hkp : k < p.length := by omega
    have hu : usesOf p (k : Int) = toI (usersTo p p.length k) := by unfold usesOf; rw [if_pos ⟨hv, by omega, by omega⟩]; simp
    have hul := toI_len (usersTo p p.length k)
    have hul2 := usersTo_len p p.length k
    refine WT_skip ?_
    refine WT_seq ?_
    refine WT_block ?_
    refine WT_seq ?_
    refine WT_region ?_
    refine WL_v rfl (ov_move rfl) ?_
    refine WL_v rfl (ov_assign rfl) ?_
    refine WL_nil ?_
    refine WT_seq ?_
    refine WT_region ?_
    refine WL_v rfl (ov_move rfl) ?_
    refine WL_v rfl (ov_move rfl) ?_
    refine WL_call rfl rfl cf_impl_PlanUses (planUses_ok hH hP (k : Int)) ?_; rintro uv w3 ⟨U, hU, hH3⟩
    rw [hu] at hU
    refine WL_v rfl (ov_len rfl hU.sl st_sl_int) ?_
    refine WL_v rfl (ov_move rfl) ?_
    refine WL_nil ?_
    refine WT_block ?_
    refine WT_while (fun s : Nat => [(0, pv), (3, ptr g), (12, .int .i64 (p.length : Int)), (13, .int .i64 (k : Int)), (18, uv), (19, .int .i64 ((toI (usersTo p p.length k)).length : Int)), (20, .int .i64 (s : Int))]) (fun j w => j ≤ (usersTo p p.length k).length ∧ H w h (U :: cbox g (tabK p k ((usersTo p p.length k).take j)) p.length :: Ls)) (fun j => (usersTo p p.length k).length - j) 0 (by repeat (first | exact trivial | refine ⟨rfl, ?_⟩)) ⟨by omega, by simpa using hH3⟩ ?_
    clear hH hH3
    rintro j w4 ⟨hj, hH⟩ again2
    refine WT_seq ?_
    refine WT_region ?_
    refine WL_v rfl (ov_lss rfl rfl) ?_
    refine WL_nil ?_
    refine WT_seq ?_
    refine WT_cond rfl (fun hc2 => ?_) (fun hc2 => ?_)
    · skip
      first | with_reducible replace hc2 := of_decide_eq_true hc2 | with_reducible replace hc2 := bn_T hc2 | with_reducible replace hc2 := bb_T hc2 | skip
      have hju : j < (usersTo p p.length k).length := by omega
      have hjt : j < (toI (usersTo p p.length k)).length := by omega
      obtain ⟨u, hu⟩ : ∃ u, (usersTo p p.length k)[j] = u := ⟨_, rfl⟩
      have hgj : (toI (usersTo p p.length k))[j] = (u : Int) := by simp [toI, hu]
      have hup : u < p.length := usersTo_lt (hu ▸ List.getElem_mem hju)
      have hut : u ∉ (usersTo p p.length k).take j := fun hm => by
        obtain ⟨i, hi, he⟩ := List.mem_iff_getElem.1 hm
        rw [List.length_take] at hi
        rw [List.getElem_take, ← hu] at he
        have hUn : (usersTo p p.length k).Nodup := List.nodup_range.filter _
        have := (List.getElem_inj hUn).1 he
        omega
      have hul10 : u < (tabK p k ((usersTo p p.length k).take j)).length := by rw [tabK_len]; omega
      have hgu : (tabK p k ((usersTo p p.length k).take j))[u] = (cntK p k u : Int) := by rw [tabK_get, if_neg hut, Nat.add_zero]
      have hcl := cntK_le p k u
      have hnl := needTo_len (p.getD u default).frm
      have hn2 : (p.getD u default).frm.length ≤ 2 := by rw [getD_of hup]; exact NodeOk.len2 (PlanOk.node hv hup)
      have hcell : ∀ {w L}, H w h (L :: U :: cbox g (tabK p k ((usersTo p p.length k).take j)) p.length :: Ls) → w.cell? (((⟨g, 0, none⟩ : Addr).add 0).add (u * 1)) = some (.int .i64 (cntK p k u : Int)) := fun {w L} hH => by
        have := hH.cbA 2 rfl 0 u
        rw [cbox_get hul10, hgu] at this
        exact this
      refine WT_skip ?_
      refine WT_seq ?_
      refine WT_block ?_
      refine WT_seq ?_
      refine WT_region ?_
      refine WL_v rfl (ov_index rfl rfl st_sl_int hU.sl hjt) ?_
      refine WL_v rfl (ov_load rfl one_int (hU.cell hH (i := 0) rfl hjt)) ?_; rw [hgj]
      refine WL_v rfl (ov_assign rfl) ?_
      refine WL_nil ?_
      refine WT_mixL [(0, 0), (1, 0), (2, 0), (3, 0), (4, 0), (5, 0), (6, 0), (7, 0), (8, 0), (9, 0), (10, 2)] mixed (by kernel_rfl) hH ?_
      clear hH
      intro w5 hH hC
      refine WM_v rfl rfl hC (fun _ _ => ov_move rfl) ?_
      refine WM_v rfl rfl hC (fun _ _ => ov_move rfl) ?_
      refine WM_v rfl rfl hC (fun _ _ => ov_nilCheck rfl) ?_
      refine WM_v rfl rfl hC (fun _ _ => ov_field rfl fo_impl_countTable_0) ?_
      refine WM_v rfl rfl hC (fun _ _ => ov_idxA rfl rfl arr_10int (by omega)) ?_
      refine WM_v rfl rfl hC (fun _ ⟨_, hH⟩ => ov_load rfl one_int (hcell hH)) ?_
      refine WM_v rfl rfl hC (fun _ _ => ov_add rfl rfl (by omega)) ?_
      refine WM_v rfl rfl hC (fun _ _ => ov_nilCheck rfl) ?_
      refine WM_v rfl rfl hC (fun _ _ => ov_field rfl fo_impl_countTable_0) ?_
      refine WM_v rfl rfl hC (fun _ _ => ov_idxA rfl rfl arr_10int (by omega)) ?_
      refine WM_e rfl ?_
      refine WL_store hH rfl rfl (i := 1) (off := 0 + u) rfl (by show ((⟨g, 0, none⟩ : Addr).add 0).add (u * 1) = _; exact addA g 0 u) (by simp [tabK_len]; omega) rfl sz_int ?_; rintro w6 hH6
      refine WL_mix (fun h => absurd rfl h) ?_
      refine WM_nil ?_
      refine WT_inBlock ?_
      refine WT_region ?_
      refine WL_v rfl (ov_add rfl rfl (by omega)) ?_
      refine WL_v rfl (ov_move rfl) ?_
      refine WL_nil ?_
      refine again2 (j + 1) _ _ (by omega) (by repeat (first | exact trivial | refine ⟨rfl, ?_⟩)) ⟨by omega, ?_⟩
      rw [cbox_set hul10, tabK_snoc (by omega) hut] at hH6
      rw [List.take_succ_eq_append_getElem hju, hu]
      exact hH6
    first | with_reducible replace hc2 := of_decide_eq_false hc2 | with_reducible replace hc2 := bn_F hc2 | with_reducible replace hc2 := bb_F hc2 | skip
    obtain rfl : j = (usersTo p p.length k).length := by omega
    rw [List.take_length, tabK_next hv hkp] at hH
    refine WT_exit rfl ?_
    refine WT_inBlock ?_
    refine WT_region ?_
    refine WL_v rfl (ov_add rfl rfl (by omega)) ?_
    refine WL_v rfl (ov_move rfl) ?_
    refine WL_nil ?_
    refine again (k + 1) _ _ (by omega) (by repeat (first | exact trivial | refine ⟨rfl, ?_⟩)) ⟨by omega, hH.drop⟩
  first | with_reducible replace hc := of_decide_eq_false hc | with_reducible replace hc := bn_F hc | with_reducible replace hc := bb_F hc | skip
  obtain rfl : k = p.length := by omega
  refine WT_exit rfl ?_
  refine WT_seq ?_
  refine WT_region ?_
  refine WL_v rfl (ov_move rfl) ?_
  refine WL_v rfl (ov_assign rfl) ?_
  refine WL_nil ?_
  exact WT_ret1 Try.func67 Try.results67 rfl ⟨g, rfl, hH⟩

/-- How many different nodes each node needs. -/
def countsL (p : List Nd) : List Int := (List.range p.length).map fun (u : Nat) => ((needTo (p.getD u default).frm).length : Int)
def countsOf (p : List Nd) : List Int := if planOk p = true then countsL p else []
theorem countsL_len (p : List Nd) : (countsL p).length = p.length := by simp [countsL]
theorem countsL_get {p : List Nd} {k : Nat} (h : k < (countsL p).length) : (countsL p)[k] = ((needTo (p.getD k default).frm).length : Int) := by simp [countsL]

theorem countsOf_ok (hH : H w h Ls) {pv : Value} {p : List Nd} (hP : Plan h pv p) : Rets Try.prog 21 #[pv] w fun v w' => ∃ X, IRow X 3 v (countsOf p) ∧ H w' h (X :: Ls) := by
  refine rets_enter Try.func21 rfl Try.ntmps21 (by simp) ?_
  refine WT_seq ?_
  refine WT_region ?_
  refine WL_v rfl (ov_assign rfl) ?_
  refine WL_nil ?_
  refine WT_seq ?_
  refine WT_seq ?_
  refine WT_region ?_
  refine WL_v rfl (ov_move rfl) ?_
  refine WL_call rfl rfl cf_impl_PlanValid (planValid_ok hH hP) ?_; rintro _ w1 ⟨rfl, hH1⟩
  refine WL_v rfl (ov_not rfl) ?_
  refine WL_nil ?_
  refine WT_cond rfl (fun hv => ?_) (fun hv => ?_)
  · skip
    first | with_reducible replace hv := of_decide_eq_true hv | with_reducible replace hv := bn_T hv | with_reducible replace hv := bb_T hv | skip
    refine WT_seq ?_
    refine WT_region ?_
    refine WL_v rfl (ov_assign rfl) ?_
    refine WL_nil ?_
    exact WT_ret1 Try.func21 Try.results21 rfl ⟨[], by unfold countsOf; rw [hv]; exact IRow.nil _, hH1.nilIn⟩
  first | with_reducible replace hv := of_decide_eq_false hv | with_reducible replace hv := bn_F hv | with_reducible replace hv := bb_F hv | skip
  have hlen := PlanOk.len hv
  refine WT_skip ?_
  refine WT_seq ?_
  refine WT_region ?_
  refine WL_v rfl (ov_move rfl) ?_
  refine WL_call rfl rfl cf_impl_countTableOf (countTableOf_ok hH1 hP hv) ?_; rintro _ w2 ⟨g, rfl, hH2⟩
  refine WL_call rfl rfl cf_p_impl_countTable_list (ctList_ok hH2 (i := 0) rfl (tabK_len _ _ _) hlen) ?_; rintro v w3 ⟨X, hX, hH3⟩
  refine WL_v rfl (ov_assign rfl) ?_
  refine WL_nil ?_
  rw [tabK_take hv] at hX
  exact WT_ret1 Try.func21 Try.results21 rfl ⟨X, by unfold countsOf; rw [if_pos hv]; exact hX, hH3.del 1 rfl⟩
end
end Go.Proofs.Ytmcedghgincaaaa
