/- Walks: all that a node needs. -/
import Derived.Test.YtmcedghgincaaaaWkP
import Derived.Test.YtmcedghgincaaaaPlL
namespace Go.Proofs.Ytmcedghgincaaaa
open Go.RowKit

/-- The variable of ten truths. -/
def sbox (g : Nat) (S : Nat → Bool) : Heaplet := [(g, .cells ((List.range 10).map fun u => Value.bool (S u)).toArray 80 (0, 0))]
theorem sbox_get {S : Nat → Bool} {u : Nat} (hu : u < 10) : (((List.range 10).map fun u => Value.bool (S u)).toArray)[0 + u]? = some (.bool (S u)) := by
  rw [Nat.zero_add, List.getElem?_toArray, List.getElem?_map, List.getElem?_range hu]; rfl
theorem sbox_set {S : Nat → Bool} {u : Nat} (b : Bool) : ((List.range 10).map fun u => Value.bool (S u)).toArray.setIfInBounds (0 + u) (.bool b) = ((List.range 10).map fun a => Value.bool (if a = u then b else S a)).toArray := by
  rw [Nat.zero_add, List.setIfInBounds_toArray]
  congr 1
  refine List.ext_getElem (by simp) fun i h1 h2 => ?_
  rw [List.getElem_set, List.getElem_map, List.getElem_map, List.getElem_range]
  by_cases h : u = i
  · rw [if_pos h, if_pos h.symm]
  · rw [if_neg h, if_neg (fun e => h e.symm)]

section
variable {h : GH} {Ls : List Heaplet}

theorem markNeeds_ok {gv : Value} {g : Nat → Nat} {p : List Nd} (hG : GraphRd h gv g p) (hv : planOk p = true) : ∀ i, i < p.length → ∀ {w : World} {s : Nat} {S : Nat → Bool}, H w h (sbox s S :: Ls) → (∀ a, S a = true → a < i → ∀ f ∈ needTo (p.getD a default).frm, S f = true) →
    Rets Try.prog 95 #[ptr (g i), ptr s] w fun v w' => v = .tuple #[] ∧ ∃ S', Marked p i S S' ∧ (∀ f ∈ needTo (p.getD i default).frm, S' f = true) ∧ H w' h (sbox s S' :: Ls) := by
  intro i
  induction i using Nat.strongRecOn with
  | _ i ih =>
  intro hip w s S hH hshut
  have hlen := PlanOk.len hv
  obtain ⟨nv, uv, hbox, hns, hnr, hus, hur⟩ := hG.box hip
  have hnl := needTo_len (p.getD i default).frm
  have hnlim := hns.lim
  refine rets_enter Try.func95 rfl Try.ntmps95 (by simp) ?_
  refine WT_seq ?_
  refine WT_region ?_
  refine WL_v rfl (ov_move rfl) ?_
  refine WL_v rfl (ov_nilCheck rfl) ?_
  refine WL_v rfl (ov_field rfl fo_impl_planNode_1) ?_
  refine WL_v rfl (ov_load rfl one_sl_p_impl_planNode (hbox hH 1 rfl)) ?_
  refine WL_v rfl (ov_len rfl hns st_sl_p_impl_planNode) ?_
  refine WL_v rfl (ov_move rfl) ?_
  refine WL_nil ?_
  refine WT_block ?_
  refine WT_while (fun k : Nat => [(1, ptr s), (9, nv), (10, .int .i64 ((needTo (p.getD i default).frm).length : Int)), (11, .int .i64 (k : Int))]) (fun k w => k ≤ (needTo (p.getD i default).frm).length ∧ ∃ S', Marked p i S S' ∧ (∀ f ∈ (needTo (p.getD i default).frm).take k, S' f = true) ∧ H w h (sbox s S' :: Ls)) (fun k => (needTo (p.getD i default).frm).length - k) 0 (by repeat (first | exact trivial | refine ⟨rfl, ?_⟩)) ⟨by omega, S, ⟨fun _ h => h, fun _ h => .inl h, hshut⟩, by simp, hH⟩ ?_
  clear hH hshut
  rintro k w1 ⟨hk, S1, hM, hn, hH⟩ again
  refine WT_seq ?_
  refine WT_region ?_
  refine WL_v rfl (ov_lss rfl rfl) ?_
  refine WL_nil ?_
  refine WT_seq ?_
  refine WT_cond rfl (fun hc => ?_) (fun hc => ?_)
  · skip
    first | with_reducible replace hc := of_decide_eq_true hc | with_reducible replace hc := bn_T hc | with_reducible replace hc := bb_T hc | skip
    have hkl : k < (needTo (p.getD i default).frm).length := by omega
    obtain ⟨f, hf⟩ : ∃ f, (needTo (p.getD i default).frm)[k] = f := ⟨_, rfl⟩
    have hfm : f ∈ needTo (p.getD i default).frm := hf ▸ List.getElem_mem hkl
    have hfi := (need_lt hv hfm).1
    have hfp : f < p.length := by omega
    have hcell : ∀ {w L}, H w h (L :: sbox s S1 :: Ls) → w.cell? ((⟨s, 0, none⟩ : Addr).add (f * 1)) = some (.bool (S1 f)) := fun {w L} hH => by
      rw [hH.cbA 1 rfl 0 f, sbox_get (by omega)]
    have hcell0 : ∀ {w}, H w h (sbox s S1 :: Ls) → w.cell? ((⟨s, 0, none⟩ : Addr).add (f * 1)) = some (.bool (S1 f)) := fun {w} hH => by
      rw [hH.cbA 0 rfl 0 f, sbox_get (by omega)]
    have htk : ∀ {S2 : Nat → Bool}, (∀ a, S1 a = true → S2 a = true) → S2 f = true → ∀ a ∈ (needTo (p.getD i default).frm).take (k + 1), S2 a = true := fun hm h2 a ha => by
      rw [List.take_succ_eq_append_getElem hkl, hf] at ha
      rcases List.mem_append.1 ha with ha | ha
      · exact hm a (hn a ha)
      · rw [List.mem_singleton] at ha; rw [ha]; exact h2
    refine WT_skip ?_
    refine WT_seq ?_
    refine WT_block ?_
    refine WT_seq ?_
    refine WT_region ?_
    refine WL_v rfl (ov_index rfl rfl st_sl_p_impl_planNode hns hkl) ?_
    refine WL_v rfl (ov_load rfl one_p_impl_planNode (hnr.ptrs hH hkl)) ?_; rw [hf]
    refine WL_v rfl (ov_assign rfl) ?_
    refine WL_nil ?_
    refine WT_seq ?_
    refine WT_quiet mixed (by kernel_rfl) hH ?_
    clear hH
    refine WQ_v rfl (fun _ _ => ov_move rfl) ?_
    refine WQ_v rfl (fun _ _ => ov_move rfl) ?_
    refine WQ_v rfl (fun _ _ => ov_nilCheck rfl) ?_
    refine WQ_v rfl (fun _ _ => ov_field rfl fo_impl_planNode_0) ?_
    refine WQ_v rfl (fun _ hH => ov_load rfl one_int (hG.num hH hfp)) ?_
    refine WQ_v rfl (fun _ _ => ov_nilCheck rfl) ?_
    refine WQ_v rfl (fun _ _ => ov_idxA rfl rfl arr_10bool (by omega)) ?_
    refine WQ_v rfl (fun _ hH => ov_load rfl one_bool (hcell0 hH)) ?_
    refine WQ_v rfl (fun _ _ => ov_not rfl) ?_
    refine WQ_nil ?_
    intro w2 hH
    refine WT_cond rfl (fun hs => ?_) (fun hs => ?_)
    · skip
      first | with_reducible replace hs := of_decide_eq_true hs | with_reducible replace hs := bn_T hs | with_reducible replace hs := bb_T hs | skip
      have hS1f : S1 f = false := by simpa using hs
      have hih : ∀ {w}, H w h (sbox s (fun a => if a = f then true else S1 a) :: Ls) → Rets Try.prog 95 #[ptr (g f), ptr s] w fun v w' => v = .tuple #[] ∧ ∃ S', Marked p f (fun a => if a = f then true else S1 a) S' ∧ (∀ a ∈ needTo (p.getD f default).frm, S' a = true) ∧ H w' h (sbox s S' :: Ls) := fun hh => ih f hfi hfp hh fun a ha hlt b hb => by
        have hb' : b ≠ f := by have := (need_lt hv hb).1; omega
        rw [if_neg (by omega)] at ha
        rw [if_neg hb']
        exact hM.shut a ha (by omega) b hb
      refine WT_seq ?_
      refine WT_mixL [(0, 0), (1, 0), (2, 0), (3, 0), (4, 0), (5, 0), (6, 0), (7, 2)] mixed (by kernel_rfl) hH ?_
      clear hH
      intro w3 hH hC
      refine WM_v rfl rfl hC (fun _ _ => ov_move rfl) ?_
      refine WM_v rfl rfl hC (fun _ _ => ov_move rfl) ?_
      refine WM_v rfl rfl hC (fun _ _ => ov_nilCheck rfl) ?_
      refine WM_v rfl rfl hC (fun _ _ => ov_field rfl fo_impl_planNode_0) ?_
      refine WM_v rfl rfl hC (fun _ ⟨_, hH⟩ => ov_load rfl one_int (hG.num hH hfp)) ?_
      refine WM_v rfl rfl hC (fun _ _ => ov_nilCheck rfl) ?_
      refine WM_v rfl rfl hC (fun _ _ => ov_idxA rfl rfl arr_10bool (by omega)) ?_
      refine WM_e rfl ?_
      refine WL_store hH rfl rfl (i := 0) (off := 0 + f) rfl (addA s 0 f) (by simp; omega) rfl sz_bool ?_; rintro w4 hH4
      refine WL_mix (fun h => absurd rfl h) ?_
      refine WM_nil ?_
      refine WT_region ?_
      refine WL_v rfl (ov_move rfl) ?_
      refine WL_v rfl (ov_move rfl) ?_
      rw [sbox_set] at hH4
      refine WL_call rfl rfl cf_p_impl_planNode_markNeeds (hih hH4) ?_; rintro _ w5 ⟨rfl, S2, hM2, hn2, hH5⟩
      refine WL_nil ?_
      refine WT_inBlock ?_
      refine WT_region ?_
      refine WL_v rfl (ov_add rfl rfl (by omega)) ?_
      refine WL_v rfl (ov_move rfl) ?_
      refine WL_nil ?_
      have hf2 : S2 f = true := hM2.mono f (by simp)
      have hmono : ∀ a, S1 a = true → S2 a = true := fun a ha => hM2.mono a (by split; exact rfl; exact ha)
      refine again (k + 1) _ _ (by omega) (by repeat (first | exact trivial | refine ⟨rfl, ?_⟩)) ⟨by omega, S2, ⟨fun a ha => hmono a (hM.mono a ha), fun a ha => ?_, fun a ha hlt b hb => ?_⟩, htk hmono hf2, hH5⟩
      · rcases hM2.new a ha with h1 | h1
        · split at h1
          · rename_i he; rw [he]; exact .inr (.one hfm)
          · exact hM.new a h1
        · exact .inr (.step hfm h1)
      · rcases Nat.lt_trichotomy a f with h1 | h1 | h1
        · exact hM2.shut a ha h1 b hb
        · subst h1; exact hn2 b hb
        · have h2 : S1 a = true := by
            rcases hM2.new a ha with h3 | h3
            · rw [if_neg (by omega)] at h3
              exact h3
            · have := (h3.lt hv).1; omega
          exact hmono b (hM.shut a h2 hlt b hb)
    first | with_reducible replace hs := of_decide_eq_false hs | with_reducible replace hs := bn_F hs | with_reducible replace hs := bb_F hs | skip
    have hS1f : S1 f = true := by simpa using hs
    refine WT_skip ?_
    refine WT_inBlock ?_
    refine WT_region ?_
    refine WL_v rfl (ov_add rfl rfl (by omega)) ?_
    refine WL_v rfl (ov_move rfl) ?_
    refine WL_nil ?_
    refine again (k + 1) _ _ (by omega) (by repeat (first | exact trivial | refine ⟨rfl, ?_⟩)) ⟨by omega, S1, hM, htk (fun _ h => h) hS1f, hH⟩
  first | with_reducible replace hc := of_decide_eq_false hc | with_reducible replace hc := bn_F hc | with_reducible replace hc := bb_F hc | skip
  obtain rfl : k = (needTo (p.getD i default).frm).length := by omega
  rw [List.take_length] at hn
  refine WT_exit rfl ?_
  exact WT_end0 Try.func95 Try.results95 ⟨rfl, S1, hM, hn, hH⟩

/-- All that a node needs. -/
noncomputable def needsOf (p : List Nd) (a : Int) : List Int := if planOk p = true ∧ 0 ≤ a ∧ a < (p.length : Int) then toI (needsL p a.toNat) else []

variable {w : World}
theorem planNeeds_ok (hH : H w h Ls) {pv : Value} {p : List Nd} (hP : Plan h pv p) (a : Int) : Rets Try.prog 53 #[pv, .int .i64 a] w fun v w' => ∃ X, IRow X 3 v (needsOf p a) ∧ H w' h (X :: Ls) := by
  refine rets_enter Try.func53 rfl Try.ntmps53 (by simp) ?_
  by_cases hv : planOk p = true
  case neg =>
    rw [Bool.not_eq_true] at hv
    refine WT_seq ?_
    refine WT_region ?_
    refine WL_v rfl (ov_assign rfl) ?_
    refine WL_nil ?_
    refine WT_seq ?_
    refine WT_region ?_
    refine WL_v rfl (ov_move rfl) ?_
    refine WL_call rfl rfl cf_impl_graphOf (graphOf_no hH hP hv) ?_; rintro _ w1 ⟨rfl, hH1⟩
    refine WL_v rfl (ov_move rfl) ?_
    refine WL_v rfl (ov_extract rfl rfl) ?_
    refine WL_v rfl (ov_extract rfl rfl) ?_
    refine WL_v rfl (ov_assign rfl) ?_
    refine WL_v rfl (ov_assign rfl) ?_
    refine WL_nil ?_
    refine WT_seq ?_
    refine WT_seq ?_
    refine WT_region ?_
    refine WL_v rfl (ov_move rfl) ?_
    refine WL_v rfl (ov_T (ov_not rfl) (by first | exact decide_eq_true rfl | exact nb_T rfl | exact mb_T rfl | exact rfl | (simp only [decide_eq_true_eq]; omega) | simpa using rfl)) ?_
    refine WL_v rfl (ov_move rfl) ?_
    refine WL_guardOff rfl rfl rfl rfl ?_
    refine WL_guardOff rfl rfl rfl rfl ?_
    refine WL_guardOff rfl rfl rfl rfl ?_
    refine WL_guardOff rfl rfl rfl rfl ?_
    refine WL_v rfl (ov_pickT rfl rfl) ?_
    refine WL_nil ?_
    refine WT_condT rfl ?_
    refine WT_seq ?_
    refine WT_region ?_
    refine WL_v rfl (ov_assign rfl) ?_
    refine WL_nil ?_
    exact WT_ret1 Try.func53 Try.results53 rfl ⟨[], by unfold needsOf; rw [if_neg (by simp [hv])]; exact IRow.nil _, hH1.nilIn⟩
  have hlen := PlanOk.len hv
  refine WT_seq ?_
  refine WT_region ?_
  refine WL_v rfl (ov_assign rfl) ?_
  refine WL_nil ?_
  refine WT_seq ?_
  refine WT_region ?_
  refine WL_v rfl (ov_move rfl) ?_
  refine WL_call rfl rfl cf_impl_graphOf (graphOf_yes hH hP hv) ?_; rintro _ w1 ⟨gv, g, h', rfl, hle, hH1, hG⟩
  refine WL_v rfl (ov_move rfl) ?_
  refine WL_v rfl (ov_extract rfl rfl) ?_
  refine WL_v rfl (ov_extract rfl rfl) ?_
  refine WL_v rfl (ov_assign rfl) ?_
  refine WL_v rfl (ov_assign rfl) ?_
  refine WL_nil ?_
  refine WT_seq ?_
  refine WT_seq ?_
  refine WT_region ?_
  refine WL_v rfl (ov_move rfl) ?_
  refine WL_v rfl (ov_F (ov_not rfl) (by first | exact decide_eq_false rfl | exact nb_F rfl | exact mb_F rfl | exact rfl | (simp only [decide_eq_false_iff_not]; omega) | simpa using rfl)) ?_
  refine WL_v rfl (ov_move rfl) ?_
  refine WL_guardOn rfl rfl ?_
  refine WL_v rfl (ov_move rfl) ?_
  refine WL_guardOn rfl rfl ?_
  refine WL_v rfl (ov_move rfl) ?_
  refine WL_guardOn rfl rfl ?_
  refine WL_call rfl rfl cf_impl_isNode (isNode_ok hH1 hP.sl a) ?_; rintro _ w2 ⟨rfl, hH2⟩
  refine WL_guardOn rfl rfl ?_
  refine WL_v rfl (ov_not rfl) ?_
  refine WL_v rfl (ov_pickF rfl rfl) ?_
  refine WL_nil ?_
  refine WT_cond rfl (fun hn => ?_) (fun hn => ?_)
  · skip
    first | with_reducible replace hn := of_decide_eq_true hn | with_reducible replace hn := bn_T hn | with_reducible replace hn := bb_T hn | skip
    refine WT_seq ?_
    refine WT_region ?_
    refine WL_v rfl (ov_assign rfl) ?_
    refine WL_nil ?_
    exact WT_ret1 Try.func53 Try.results53 rfl ⟨[], by unfold needsOf; rw [if_neg (fun hh => hn hh.2)]; exact IRow.nil _, (hH2.weak hle).nilIn⟩
  first | with_reducible replace hn := of_decide_eq_false hn | with_reducible replace hn := bn_F hn | with_reducible replace hn := bb_F hn | skip
  obtain ⟨i, hi⟩ := Int.eq_ofNat_of_zero_le hn.1
  subst hi
  have hin : i < p.length := by omega
  refine WT_skip ?_
  refine WT_seq ?_
  refine WT_region ?_
  refine WL_alloc #[.bool false, .bool false, .bool false, .bool false, .bool false, .bool false, .bool false, .bool false, .bool false, .bool false] rfl hH2 zero_10bool rfl ?_; rintro s w3 hH3
  refine WL_nil ?_
  refine WT_seq ?_
  refine WT_region ?_
  refine WL_v rfl (ov_move rfl) ?_
  refine WL_v rfl (ov_move rfl) ?_
  have hmk := fun (w : World) (hw : H w h' (sbox s (fun _ => false) :: Ls)) => markNeeds_ok hG hv i hin hw (fun a h => by cases h)
  refine WL_v rfl (ov_index rfl rfl st_sl_p_impl_planNode hG.sl hin) ?_
  refine WL_v rfl (ov_load rfl one_p_impl_planNode (hG.elem hH3 hin)) ?_
  refine WL_call rfl rfl cf_p_impl_planNode_markNeeds (hmk _ hH3) ?_; rintro _ w4 ⟨rfl, S, hM, hnn, hH4⟩
  refine WL_nil ?_
  refine WT_seq ?_
  refine WT_region ?_
  refine WL_v rfl (ov_assign rfl) ?_
  refine WL_nil ?_
  refine WT_seq ?_
  refine WT_seq ?_
  refine WT_region ?_
  have hS := hM.one hv (fun _ => rfl) hnn
  have hten := needsL_ten hv i hS
  refine WL_v rfl (ov_loadN ((List.range 10).map fun u => Value.bool (S u)) rfl agg_10_bool rfl (fun j v hj => (congrArg _ (show (⟨s, 0, none⟩ : Addr).add j = ⟨s, j, none⟩ by simp [add_of])).trans ((hH4.cb 0 rfl j).trans (by simpa using hj)))) ?_
  refine WL_v rfl (ov_move rfl) ?_
  refine WL_nil ?_
  refine WT_block ?_
  refine WT_while (fun k : Nat × Value => [(8, k.2), (29, .agg ((List.range 10).map fun u => Value.bool (S u)).toArray), (30, .int .i64 (k.1 : Int))]) (fun k w => k.1 ≤ 10 ∧ ∃ X, IRow X 3 k.2 (toI ((List.range k.1).filter S)) ∧ H w h' (X :: sbox s S :: Ls)) (fun k => 10 - k.1) (0, .slice none 0 0) (by repeat (first | exact trivial | refine ⟨rfl, ?_⟩)) ⟨by omega, [], IRow.nil _, hH4.nilIn⟩ ?_
  clear hH hH1 hH2 hH3 hH4
  rintro ⟨k, sv⟩ w5 ⟨hk, X, hX, hH⟩ again
  simp only at hk hX
  have hfl := List.length_filter_le S (List.range k)
  rw [List.length_range] at hfl
  refine WT_seq ?_
  refine WT_region ?_
  refine WL_v rfl (ov_lss rfl rfl) ?_
  refine WL_nil ?_
  refine WT_seq ?_
  refine WT_cond rfl (fun hc => ?_) (fun hc => ?_)
  · skip
    first | with_reducible replace hc := of_decide_eq_true hc | with_reducible replace hc := bn_T hc | with_reducible replace hc := bb_T hc | skip
    simp only at hc
    have hk10 : k < 10 := by omega
    refine WT_skip ?_
    refine WT_seq ?_
    refine WT_block ?_
    refine WT_seq ?_
    refine WT_region ?_
    refine WL_v rfl (ov_move rfl) ?_
    refine WL_v rfl (ov_indexV rfl rfl arr_10bool one_bool hk10 (by rw [List.getElem?_map, List.getElem?_range hk10]; rfl)) ?_
    refine WL_v rfl (ov_assign rfl) ?_
    refine WL_v rfl (ov_assign rfl) ?_
    refine WL_nil ?_
    refine WT_seq ?_
    refine WT_region ?_
    refine WL_v rfl (ov_move rfl) ?_
    refine WL_nil ?_
    refine WT_cond rfl (fun hs => ?_) (fun hs => ?_)
    · skip
      first | with_reducible replace hs := of_decide_eq_true hs | with_reducible replace hs := bn_T hs | with_reducible replace hs := bb_T hs | skip
      refine WT_region ?_
      refine WL_v rfl (ov_move rfl) ?_
      refine WL_v rfl (ov_move rfl) ?_
      refine WL_bsI rfl hH rfl (run_bs_int _) ?_; rintro Y yv w6 hY hH6
      refine WL_appI (i := 1) (j := 0) rfl hH6 rfl rfl st_sl_int rfl hX rfl hY (by simp only [toI_len, List.length_cons, List.length_nil]; omega) (by simp only [toI_len, List.length_cons, List.length_nil]; omega) ?_; rintro X2 sv2 w7 hX2 hH7
      refine WL_v rfl (ov_assign rfl) ?_
      refine WL_nil ?_
      refine WT_inBlock ?_
      refine WT_region ?_
      refine WL_v rfl (ov_add rfl rfl (by omega)) ?_
      refine WL_v rfl (ov_move rfl) ?_
      refine WL_nil ?_
      refine again (k + 1, sv2) _ _ (by simp only; omega) (by repeat (first | exact trivial | refine ⟨rfl, ?_⟩)) ⟨by simp only; omega, X2, by rw [List.range_succ, List.filter_append, List.filter_cons, if_pos hs, List.filter_nil, toI_snoc]; exact hX2, hH7.drop⟩
    first | with_reducible replace hs := of_decide_eq_false hs | with_reducible replace hs := bn_F hs | with_reducible replace hs := bb_F hs | skip
    refine WT_skip ?_
    refine WT_inBlock ?_
    refine WT_region ?_
    refine WL_v rfl (ov_add rfl rfl (by omega)) ?_
    refine WL_v rfl (ov_move rfl) ?_
    refine WL_nil ?_
    refine again (k + 1, sv) _ _ (by simp only; omega) (by repeat (first | exact trivial | refine ⟨rfl, ?_⟩)) ⟨by simp only; omega, X, by rw [List.range_succ, List.filter_append, List.filter_cons, if_neg (by rw [hs]; simp), List.filter_nil, List.append_nil]; exact hX, hH⟩
  first | with_reducible replace hc := of_decide_eq_false hc | with_reducible replace hc := bn_F hc | with_reducible replace hc := bb_F hc | skip
  simp only at hc
  obtain rfl : k = 10 := by omega
  rw [hten] at hX
  refine WT_exit rfl ?_
  refine WT_seq ?_
  refine WT_region ?_
  refine WL_v rfl (ov_move rfl) ?_
  refine WL_v rfl (ov_assign rfl) ?_
  refine WL_nil ?_
  exact WT_ret1 Try.func53 Try.results53 rfl ⟨X, by unfold needsOf; rw [if_pos ⟨hv, hn.1, hn.2⟩]; simpa using hX, (hH.weak hle).del 1 rfl⟩
end
end Go.Proofs.Ytmcedghgincaaaa
