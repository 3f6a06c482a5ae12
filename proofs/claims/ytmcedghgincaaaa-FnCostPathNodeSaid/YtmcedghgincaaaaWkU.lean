/- Walks: the levels of a plan, by the queue. -/
import Derived.Test.YtmcedghgincaaaaWkM
import Derived.Test.YtmcedghgincaaaaWkP
import Derived.Test.YtmcedghgincaaaaWkL
import Derived.Test.YtmcedghgincaaaaPlI
namespace Go.Proofs.Ytmcedghgincaaaa
open Go.RowKit

section
variable {h : GH} {Ls : List Heaplet} {w : World}

/-- How many different nodes each node needs. -/
def cntsL (p : List Nd) : List Int := (List.range p.length).map fun (u : Nat) => ((needTo (p.getD u default).frm).length : Int)
theorem cntsL_len (p : List Nd) : (cntsL p).length = p.length := by simp [cntsL]
theorem cntsL_get {p : List Nd} {k : Nat} (h : k < (cntsL p).length) : (cntsL p)[k] = ((needTo (p.getD k default).frm).length : Int) := by simp [cntsL]
theorem needTo_le {p : List Nd} (hv : planOk p = true) {k : Nat} (hk : k < p.length) : (needTo (p.getD k default).frm).length ≤ 2 := by
  have h1 := needTo_len (p.getD k default).frm
  rw [getD_of hk] at h1 ⊢
  have := NodeOk.len2 (PlanOk.node hv hk)
  omega
theorem cntN_le (p : List Nd) (D : List Nat) (u : Nat) : cntN p D u ≤ (needTo (p.getD u default).frm).length := List.length_filter_le _ _
theorem nodup_lt_len {Q : List Nat} {n : Nat} (hn : Q.Nodup) (h : ∀ q ∈ Q, q < n) : Q.length ≤ n := by
  have := hn.length_le_of_subset (l₂ := List.range n) fun q hq => List.mem_range.2 (h q hq)
  simpa using this

set_option maxHeartbeats 2000000 in
theorem levelList_yes (hH : H w h Ls) {pv : Value} {p : List Nd} (hP : Plan h pv p) (hv : planOk p = true) : Rets Try.prog 73 #[pv] w fun v w' => ∃ X lv, v = .tuple #[lv, .bool true] ∧ IRow X 3 lv (levelsTo p p.length) ∧ H w' h (X :: Ls) := by
  have hlen := PlanOk.len hv
  have hcl := cntsL_len p
  refine rets_enter Try.func73 rfl Try.ntmps73 (by simp) ?_
  refine WT_seq ?_
  refine WT_region ?_
  refine WL_v rfl (ov_assign rfl) ?_
  refine WL_v rfl (ov_assign rfl) ?_
  refine WL_nil ?_
  refine WT_seq ?_
  refine WT_region ?_
  refine WL_v rfl (ov_move rfl) ?_
  refine WL_call rfl rfl cf_impl_graphOf (graphOf_yes hH hP hv) ?_; rintro _ w1 ⟨gv, g, h', rfl, hle, hH1, hG⟩
  refine WL_v rfl (ov_move rfl) ?_
  refine WL_v rfl (ov_extract rfl rfl) ?_
  refine WL_v rfl (ov_extract rfl rfl) ?_
  refine WL_v rfl (ov_assign rfl) ?_
  refine WL_v rfl (ov_assign rfl) ?_
  refine WL_nil ?_
  refine WT_seq ?_
  refine WT_seq ?_
  refine WT_region ?_
  refine WL_v rfl (ov_move rfl) ?_
  refine WL_v rfl (ov_not rfl) ?_
  refine WL_nil ?_
  refine WT_condF rfl ?_
  refine WT_skip ?_
  refine WT_seq ?_
  refine WT_region ?_
  refine WL_v rfl (ov_move rfl) ?_
  refine WL_v rfl (ov_len rfl hG.sl st_sl_p_impl_planNode) ?_
  refine WL_makeI rfl hH1 rfl rfl st_sl_int (by omega) (by omega) ?_; rintro X lvv w2 hX hH2
  refine WL_v rfl (ov_assign rfl) ?_
  refine WL_nil ?_
  refine WT_seq ?_
  refine WT_region ?_
  refine WL_v rfl (ov_move rfl) ?_
  refine WL_v rfl (ov_len rfl hG.sl st_sl_p_impl_planNode) ?_
  refine WL_makeI rfl hH2 rfl rfl st_sl_int (by omega) (by omega) ?_; rintro Y0 lfv w3 hY0 hH3
  refine WL_v rfl (ov_assign rfl) ?_
  refine WL_nil ?_
  refine WT_seq ?_
  refine WT_region ?_
  refine WL_alloc #[.slice none 0 0] rfl hH3 zero_impl_nodeQueue rfl ?_; rintro q w4 hH4
  refine WL_nil ?_
  refine WT_seq ?_
  refine WT_seq ?_
  refine WT_region ?_
  refine WL_v rfl (ov_move rfl) ?_
  refine WL_v rfl (ov_len rfl hG.sl st_sl_p_impl_planNode) ?_
  refine WL_v rfl (ov_move rfl) ?_
  refine WL_nil ?_
  refine WT_block ?_
  have hH5 : H w4 h' (qbox q (.slice none 0 0) :: [] :: Y0 :: X :: Ls) := hH4.nilIn.swap
  refine WT_while (fun s : Nat => [(6, lvv), (7, lfv), (8, ptr q), (27, gv), (28, .int .i64 (p.length : Int)), (29, .int .i64 (s : Int))]) (fun k w => k ≤ p.length ∧ ∃ Y QX qv, IRow Y 3 lfv ((cntsL p).take k ++ List.replicate (p.length - k) 0) ∧ QRow QX g qv ((List.range k).filter fun u => decide ((needTo (p.getD u default).frm).length = 0)) ∧ H w h' (qbox q qv :: QX :: Y :: X :: Ls)) (fun k => p.length - k) 0 (by repeat (first | exact trivial | refine ⟨rfl, ?_⟩)) ⟨by omega, Y0, [], _, by simpa using hY0, Row.nil _ _, hH5⟩ ?_
  clear hH hH1 hH2 hH3 hH4 hH5 hY0
  rintro k w5 ⟨hk, Y, QX, qv, hY, hQ, hH⟩ again
  refine WT_seq ?_
  refine WT_region ?_
  refine WL_v rfl (ov_lss rfl rfl) ?_
  refine WL_nil ?_
  refine WT_seq ?_
  refine WT_cond rfl (fun hc => ?_) (fun hc => ?_)
  · skip
    first | with_reducible replace hc := of_decide_eq_true hc | with_reducible replace hc := bn_T hc | with_reducible replace hc := bb_T hc | skip
    have hkp : k < p.length := by omega
    obtain ⟨nv, uv, hbox, hns, hnr, hus, hur⟩ := hG.box hkp
    have htl : ((cntsL p).take k).length = k := by rw [List.length_take]; omega
    have hrep : List.replicate (p.length - k) (0 : Int) = 0 :: List.replicate (p.length - (k + 1)) 0 := by
      rw [show p.length - k = (p.length - (k + 1)) + 1 by omega, List.replicate_succ]
    rw [hrep] at hY
    have hkl : k < ((cntsL p).take k ++ (0 : Int) :: List.replicate (p.length - (k + 1)) 0).length := by simp [htl]
    have hfl := List.length_filter_le (fun u => decide ((needTo (p.getD u default).frm).length = 0)) (List.range k)
    rw [List.length_range] at hfl
    refine WT_skip ?_
    refine WT_seq ?_
    refine WT_block ?_
    refine WT_seq ?_
    refine WT_region ?_
    refine WL_v rfl (ov_move rfl) ?_
    refine WL_v rfl (ov_index rfl rfl st_sl_p_impl_planNode hG.sl hkp) ?_
    refine WL_v rfl (ov_load rfl one_p_impl_planNode (hG.elem hH hkp)) ?_
    refine WL_v rfl (ov_assign rfl) ?_
    refine WL_v rfl (ov_assign rfl) ?_
    refine WL_nil ?_
    refine WT_seq ?_
    refine WT_region ?_
    refine WL_v rfl (ov_move rfl) ?_
    refine WL_v rfl (ov_move rfl) ?_
    refine WL_v rfl (ov_move rfl) ?_
    refine WL_v rfl (ov_nilCheck rfl) ?_
    refine WL_v rfl (ov_field rfl fo_impl_planNode_1) ?_
    refine WL_v rfl (ov_load rfl one_sl_p_impl_planNode (hbox hH 1 rfl)) ?_
    refine WL_v rfl (ov_len rfl hns st_sl_p_impl_planNode) ?_
    refine WL_v rfl (ov_index rfl rfl st_sl_int hY.sl hkl) ?_
    refine WL_storeI hH rfl rfl (i := 2) rfl hY hkl sz_int ?_; rintro Y2 w6 hY2 hH6
    refine WL_nil ?_
    refine WT_seq ?_
    refine WT_region ?_
    refine WL_v rfl (ov_move rfl) ?_
    refine WL_v rfl (ov_move rfl) ?_
    rw [set_mid _ _ _ _ _ htl] at hY2
    have hkl2 : k < ((cntsL p).take k ++ ((needTo (p.getD k default).frm).length : Int) :: List.replicate (p.length - (k + 1)) 0).length := by simp [htl]
    have hg3 := getElem_mid ((cntsL p).take k) (List.replicate (p.length - (k + 1)) 0) ((needTo (p.getD k default).frm).length : Int) k htl hkl2
    have hY3 : IRow Y2 3 lfv ((cntsL p).take (k + 1) ++ List.replicate (p.length - (k + 1)) 0) := by
      rw [List.take_succ_eq_append_getElem (by omega), cntsL_get]
      simpa using hY2
    refine WL_v rfl (ov_index rfl rfl st_sl_int hY2.sl hkl2) ?_
    refine WL_v rfl (ov_load rfl one_int (hY2.cell hH6 (i := 2) rfl hkl2)) ?_; rw [hg3]
    refine WL_v rfl (ov_eql rfl rfl) ?_
    refine WL_nil ?_
    refine WT_cond rfl (fun h0 => ?_) (fun h0 => ?_)
    · skip
      first | with_reducible replace h0 := of_decide_eq_true h0 | with_reducible replace h0 := bn_T h0 | with_reducible replace h0 := bb_T h0 | skip
      refine WT_region ?_
      refine WL_v rfl (ov_move rfl) ?_
      refine WL_call rfl rfl cf_p_impl_nodeQueue_put (put_ok hH6 hQ (by omega) k) ?_; rintro _ w7 ⟨rfl, qv2, QX2, hQ2, hH7⟩
      refine WL_nil ?_
      refine WT_inBlock ?_
      refine WT_region ?_
      refine WL_v rfl (ov_add rfl rfl (by omega)) ?_
      refine WL_v rfl (ov_move rfl) ?_
      refine WL_nil ?_
      refine again (k + 1) _ _ (by omega) (by repeat (first | exact trivial | refine ⟨rfl, ?_⟩)) ⟨by omega, Y2, QX2, qv2, hY3, ?_, hH7⟩
      rw [List.range_succ, List.filter_append, List.filter_cons, if_pos (by rw [decide_eq_true_eq]; omega), List.filter_nil]
      exact hQ2
    first | with_reducible replace h0 := of_decide_eq_false h0 | with_reducible replace h0 := bn_F h0 | with_reducible replace h0 := bb_F h0 | skip
    refine WT_skip ?_
    refine WT_inBlock ?_
    refine WT_region ?_
    refine WL_v rfl (ov_add rfl rfl (by omega)) ?_
    refine WL_v rfl (ov_move rfl) ?_
    refine WL_nil ?_
    refine again (k + 1) _ _ (by omega) (by repeat (first | exact trivial | refine ⟨rfl, ?_⟩)) ⟨by omega, Y2, QX, qv, hY3, ?_, hH6⟩
    rw [List.range_succ, List.filter_append, List.filter_cons, if_neg (by rw [decide_eq_true_eq]; omega), List.filter_nil, List.append_nil]
    exact hQ
  first | with_reducible replace hc := of_decide_eq_false hc | with_reducible replace hc := bn_F hc | with_reducible replace hc := bb_F hc | skip
  obtain rfl : k = p.length := by omega
  have hK0 : Kahn p (fun _ => []) [] (List.replicate p.length 0) (cntsL p) ((List.range p.length).filter fun u => decide ((needTo (p.getD u default).frm).length = 0)) := Kahn.start rfl rfl
  have hY' : IRow Y 3 lfv (cntsL p) := by rw [List.take_of_length_le (by omega)] at hY; simpa using hY
  clear hY
  refine WT_exit rfl ?_
  refine WT_seq ?_
  refine WT_block ?_
  refine WT_while (fun _ : List Nat => [(6, lvv), (7, lfv), (8, ptr q)]) (fun D w => D.Nodup ∧ (∀ d ∈ D, d < p.length ∧ cntN p D d = 0) ∧ ∃ lv lf Q X Y qv QX, Kahn p (fun _ => D) D lv lf Q ∧ IRow X 3 lvv lv ∧ IRow Y 3 lfv lf ∧ QRow QX g qv Q ∧ H w h' (qbox q qv :: QX :: Y :: X :: Ls)) (fun D => p.length - D.length) [] (by repeat (first | exact trivial | refine ⟨rfl, ?_⟩)) ⟨by simp, by simp, _, _, _, X, Y, qv, QX, hK0, hX, hY', hQ, hH⟩ ?_
  clear hH hX hY' hQ hK0
  rintro D w6 ⟨hDn, hD, lv, lf, Q, X, Y, qv, QX, hK, hX, hY, hQ, hH⟩ again
  refine WT_seq ?_
  refine WT_seq ?_
  refine WT_region ?_
  refine WL_v rfl (ov_field rfl fo_impl_nodeQueue_0) ?_
  refine WL_v rfl (ov_load rfl one_sl_p_impl_planNode (hH.cb 0 rfl 0)) ?_
  refine WL_v rfl (ov_len rfl (Row.sl hQ) st_sl_p_impl_planNode) ?_
  refine WL_v rfl (ov_gtr rfl rfl) ?_
  refine WL_nil ?_
  refine WT_cond rfl (fun hc => ?_) (fun hc => ?_)
  · skip
    first | with_reducible replace hc := of_decide_eq_true hc | with_reducible replace hc := bn_T hc | with_reducible replace hc := bb_T hc | skip
    obtain ⟨x, Q, rfl⟩ : ∃ x Q', Q = x :: Q' := by
      cases Q with
      | nil => simp at hc
      | cons x Q => exact ⟨x, Q, rfl⟩
    obtain ⟨hxp, hxD, hx0⟩ := (hK.mem x).1 (List.mem_cons_self ..)
    obtain ⟨nv, uv, hbox, hns, hnr, hus, hur⟩ := hG.box hxp
    have hUl := usersTo_len p p.length x
    have hD1 : (D ++ [x]).Nodup := by
      rw [List.nodup_append]
      exact ⟨hDn, by simp, fun a ha b hb he => hxD (by rw [List.mem_singleton] at hb; rw [← hb, ← he]; exact ha)⟩
    have hDlen := nodup_lt_len hD1 (n := p.length) fun d hd => by
      rcases List.mem_append.1 hd with hd | hd
      · exact (hD d hd).1
      · rw [List.mem_singleton] at hd; omega
    rw [List.length_append, List.length_singleton] at hDlen
    have hK1 := hK.take
    refine WT_skip ?_
    refine WT_block ?_
    refine WT_seq ?_
    refine WT_region ?_
    refine WL_call rfl rfl cf_p_impl_nodeQueue_take (take_ok hH hQ) ?_; rintro _ w7 ⟨rfl, qv1, hQ1, hH7⟩
    refine WL_v rfl (ov_assign rfl) ?_
    refine WL_nil ?_
    refine WT_seq ?_
    refine WT_region ?_
    refine WL_v rfl (ov_move rfl) ?_
    refine WL_v rfl (ov_nilCheck rfl) ?_
    refine WL_v rfl (ov_field rfl fo_impl_planNode_2) ?_
    refine WL_v rfl (ov_load rfl one_sl_p_impl_planNode (hbox hH7 2 rfl)) ?_
    refine WL_v rfl (ov_len rfl hus st_sl_p_impl_planNode) ?_
    refine WL_v rfl (ov_move rfl) ?_
    refine WL_nil ?_
    refine WT_block ?_
    refine WT_while (fun s : Nat => [(6, lvv), (7, lfv), (8, ptr q), (11, ptr (g x)), (58, uv), (59, .int .i64 ((usersTo p p.length x).length : Int)), (60, .int .i64 (s : Int))]) (fun j w => j ≤ (usersTo p p.length x).length ∧ ∃ lv lf Q X Y qv QX, Kahn p (fun a => if a ∈ (usersTo p p.length x).take j then D ++ [x] else D) (D ++ [x]) lv lf Q ∧ IRow X 3 lvv lv ∧ IRow Y 3 lfv lf ∧ QRow QX g qv Q ∧ H w h' (qbox q qv :: QX :: Y :: X :: Ls)) (fun j => (usersTo p p.length x).length - j) 0 (by repeat (first | exact trivial | refine ⟨rfl, ?_⟩)) ⟨by omega, lv, lf, Q, X, Y, qv1, QX, by simpa using hK1, hX, hY, hQ1, hH7⟩ ?_
    clear hH hH7 hX hY hQ hQ1 hK hK1
    clear hc
    clear lv lf Q X Y qv QX qv1
    rintro j w8 ⟨hj, lv, lf, Q, X, Y, qv, QX, hK, hX, hY, hQ, hH⟩ again2
    refine WT_seq ?_
    refine WT_region ?_
    refine WL_v rfl (ov_lss rfl rfl) ?_
    refine WL_nil ?_
    refine WT_seq ?_
    refine WT_cond rfl (fun hc2 => ?_) (fun hc2 => ?_)
    · skip
      first | with_reducible replace hc2 := of_decide_eq_true hc2 | with_reducible replace hc2 := bn_T hc2 | with_reducible replace hc2 := bb_T hc2 | skip
      have hju : j < (usersTo p p.length x).length := by omega
      obtain ⟨u, hu⟩ : ∃ u, (usersTo p p.length x)[j] = u := ⟨_, rfl⟩
      have hum : u ∈ usersTo p p.length x := hu ▸ List.getElem_mem hju
      have hup : u < p.length := usersTo_lt hum
      have hux : x ∈ needTo (p.getD u default).frm := (mem_users_needs hv hup).1 hum
      have hxu : x < u := usersTo_gt hv (Nat.le_refl _) hum
      have hUn : (usersTo p p.length x).Nodup := List.nodup_range.filter _
      have hut : u ∉ (usersTo p p.length x).take j := fun hm => by
        obtain ⟨i, hi, he⟩ := List.mem_iff_getElem.1 hm
        rw [List.length_take] at hi
        rw [List.getElem_take, ← hu] at he
        have := (List.getElem_inj hUn).1 he
        omega
      have hxt : x ∉ (usersTo p p.length x).take j := fun hm => by
        have := usersTo_gt hv (Nat.le_refl _) (List.mem_of_mem_take hm)
        omega
      have huD : u ∉ D ++ [x] := fun hm => by
        rcases List.mem_append.1 hm with hm | hm
        · exact hxD (cntN_zero.1 (hD u hm).2 x hux)
        · rw [List.mem_singleton] at hm; omega
      have hll := hK.lvl
      have hfl := hK.lfl
      have hul : u < lv.length := by omega
      have hxl : x < lv.length := by omega
      have huf : u < lf.length := by omega
      have hlx : lv[x] = (levelsTo p p.length).getD x 0 := by
        rw [← getD_elem hxl]
        exact hK.level hv hxp (by rw [if_neg hxt]; exact hx0)
      have hlr : 0 ≤ (levelsTo p p.length).getD x 0 ∧ (levelsTo p p.length).getD x 0 ≤ 10 := by
        rcases getD_mem_or (levelsTo p p.length) x with h | h
        · omega
        · have := levelsTo_rg p p.length _ h; omega
      have hcu := hK.cnt u hup
      rw [if_neg hut, getD_elem huf] at hcu
      have hcle := cntN_le p D u
      have hnle := needTo_le hv hup
      have hcs := cntN_less (p := p) hxD hux
      have hQl : Q.length ≤ p.length := nodup_lt_len hK.nodup fun a ha => ((hK.mem a).1 ha).1
      have hstep := hK.step hup (by rw [if_neg hut]) hxD hux huD
      rw [getD_elem hul, getD_elem huf, hcu] at hstep
      have hKn : Kahn p (fun a => if a ∈ (usersTo p p.length x).take (j + 1) then D ++ [x] else D) (D ++ [x]) (lv.set u (max lv[u] ((levelsTo p p.length).getD x 0 + 1))) (lf.set u ((cntN p D u : Int) - 1)) (if cntN p (D ++ [x]) u = 0 then Q ++ [u] else Q) := by
        refine hstep.congr (fun a _ => ?_) (fun a _ f _ => ?_)
        · by_cases hau : a = u
          · subst hau
            rw [if_pos (by rw [List.take_succ_eq_append_getElem hju, hu]; simp), if_pos rfl]
          · rw [if_neg hau, List.take_succ_eq_append_getElem hju, hu]
            simp only [List.mem_append, List.mem_singleton, hau, or_false]
        · by_cases hau : a = u
          · subst hau
            rw [if_pos rfl, if_pos (by rw [List.take_succ_eq_append_getElem hju, hu]; simp)]
          · rw [if_neg hau, List.take_succ_eq_append_getElem hju, hu]
            simp only [List.mem_append, List.mem_singleton, hau, or_false]
      clear hstep
      refine WT_skip ?_
      refine WT_seq ?_
      refine WT_block ?_
      refine WT_seq ?_
      refine WT_region ?_
      refine WL_v rfl (ov_index rfl rfl st_sl_p_impl_planNode hus hju) ?_
      refine WL_v rfl (ov_load rfl one_p_impl_planNode (hur.ptrs hH hju)) ?_; rw [hu]
      refine WL_v rfl (ov_assign rfl) ?_
      refine WL_nil ?_
      refine WT_seq ?_
      refine WT_mixL [(0, 0), (1, 0), (2, 0), (3, 0), (4, 0), (5, 0), (6, 0), (7, 0), (8, 0), (9, 0), (10, 0), (11, 0), (12, 0), (13, 0), (14, 0), (15, 0), (16, 0), (17, 0), (18, 0), (19, 0), (20, 0), (21, 0), (22, 2)] mixed (by kernel_rfl) hH ?_
      clear hH
      intro w9 hH hC
      refine WM_v rfl rfl hC (fun _ _ => ov_move rfl) ?_
      refine WM_v rfl rfl hC (fun _ _ => ov_move rfl) ?_
      refine WM_v rfl rfl hC (fun _ _ => ov_nilCheck rfl) ?_
      refine WM_v rfl rfl hC (fun _ _ => ov_field rfl fo_impl_planNode_0) ?_
      refine WM_v rfl rfl hC (fun _ ⟨_, hH⟩ => ov_load rfl one_int (hG.num hH hup)) ?_
      refine WM_v rfl rfl hC (fun _ _ => ov_move rfl) ?_
      refine WM_v rfl rfl hC (fun _ _ => ov_move rfl) ?_
      refine WM_v rfl rfl hC (fun _ _ => ov_nilCheck rfl) ?_
      refine WM_v rfl rfl hC (fun _ _ => ov_field rfl fo_impl_planNode_0) ?_
      refine WM_v rfl rfl hC (fun _ ⟨_, hH⟩ => ov_load rfl one_int (hG.num hH hup)) ?_
      refine WM_v rfl rfl hC (fun _ _ => ov_index rfl rfl st_sl_int hX.sl hul) ?_
      refine WM_v rfl rfl hC (fun _ ⟨_, hH⟩ => ov_load rfl one_int (hX.cell hH (i := 4) rfl hul)) ?_
      refine WM_v rfl rfl hC (fun _ _ => ov_move rfl) ?_
      refine WM_v rfl rfl hC (fun _ _ => ov_move rfl) ?_
      refine WM_v rfl rfl hC (fun _ _ => ov_nilCheck rfl) ?_
      refine WM_v rfl rfl hC (fun _ _ => ov_field rfl fo_impl_planNode_0) ?_
      refine WM_v rfl rfl hC (fun _ ⟨_, hH⟩ => ov_load rfl one_int (hG.num hH hxp)) ?_
      refine WM_v rfl rfl hC (fun _ _ => ov_index rfl rfl st_sl_int hX.sl hxl) ?_
      refine WM_v rfl rfl hC (fun _ ⟨_, hH⟩ => ov_load rfl one_int (hX.cell hH (i := 4) rfl hxl)) ?_; rw [hlx]
      refine WM_v rfl rfl hC (fun _ _ => ov_add rfl rfl (by omega)) ?_
      refine WM_v rfl rfl hC (fun _ _ => ov_max rfl rfl) ?_
      refine WM_v rfl rfl hC (fun _ _ => ov_index rfl rfl st_sl_int hX.sl hul) ?_
      refine WM_e rfl ?_
      refine WL_storeI hH rfl rfl (i := 3) rfl hX hul sz_int ?_; rintro X2 w10 hX2 hH10
      refine WL_mix (fun h => absurd rfl h) ?_
      refine WM_nil ?_
      refine WT_seq ?_
      refine WT_region ?_
      refine WL_v rfl (ov_move rfl) ?_
      refine WL_v rfl (ov_move rfl) ?_
      refine WL_v rfl (ov_nilCheck rfl) ?_
      refine WL_v rfl (ov_field rfl fo_impl_planNode_0) ?_
      refine WL_v rfl (ov_load rfl one_int (hG.num hH10 hup)) ?_
      refine WL_v rfl (ov_index rfl rfl st_sl_int hY.sl huf) ?_
      refine WL_v rfl (ov_load rfl one_int (hY.cell hH10 (i := 2) rfl huf)) ?_; rw [hcu]
      refine WL_v rfl (ov_sub rfl rfl (by omega)) ?_
      refine WL_v rfl (ov_index rfl rfl st_sl_int hY.sl huf) ?_
      refine WL_storeI hH10 rfl rfl (i := 2) rfl hY huf sz_int ?_; rintro Y2 w11 hY2 hH11
      refine WL_nil ?_
      refine WT_seq ?_
      refine WT_region ?_
      refine WL_v rfl (ov_move rfl) ?_
      refine WL_v rfl (ov_move rfl) ?_
      refine WL_v rfl (ov_nilCheck rfl) ?_
      refine WL_v rfl (ov_field rfl fo_impl_planNode_0) ?_
      have huf2 : u < (lf.set u ((cntN p D u : Int) - 1)).length := by simpa using huf
      have hg4 : (lf.set u ((cntN p D u : Int) - 1))[u] = (cntN p D u : Int) - 1 := by simp
      refine WL_v rfl (ov_load rfl one_int (hG.num hH11 hup)) ?_
      refine WL_v rfl (ov_index rfl rfl st_sl_int hY2.sl huf2) ?_
      refine WL_v rfl (ov_load rfl one_int (hY2.cell hH11 (i := 2) rfl huf2)) ?_; rw [hg4]
      refine WL_v rfl (ov_eql rfl rfl) ?_
      refine WL_nil ?_
      refine WT_cond rfl (fun h0 => ?_) (fun h0 => ?_)
      · skip
        first | with_reducible replace h0 := of_decide_eq_true h0 | with_reducible replace h0 := bn_T h0 | with_reducible replace h0 := bb_T h0 | skip
        rw [if_pos (by omega)] at hKn
        refine WT_region ?_
        refine WL_v rfl (ov_move rfl) ?_
        refine WL_call rfl rfl cf_p_impl_nodeQueue_put (put_ok hH11 hQ (by omega) u) ?_; rintro _ w12 ⟨rfl, qv2, QX2, hQ2, hH12⟩
        refine WL_nil ?_
        refine WT_inBlock ?_
        refine WT_region ?_
        refine WL_v rfl (ov_add rfl rfl (by omega)) ?_
        refine WL_v rfl (ov_move rfl) ?_
        refine WL_nil ?_
        refine again2 (j + 1) _ _ (by omega) (by repeat (first | exact trivial | refine ⟨rfl, ?_⟩)) ⟨by omega, _, _, _, X2, Y2, qv2, QX2, hKn, hX2, hY2, hQ2, hH12⟩
      first | with_reducible replace h0 := of_decide_eq_false h0 | with_reducible replace h0 := bn_F h0 | with_reducible replace h0 := bb_F h0 | skip
      rw [if_neg (by omega)] at hKn
      refine WT_skip ?_
      refine WT_inBlock ?_
      refine WT_region ?_
      refine WL_v rfl (ov_add rfl rfl (by omega)) ?_
      refine WL_v rfl (ov_move rfl) ?_
      refine WL_nil ?_
      refine again2 (j + 1) _ _ (by omega) (by repeat (first | exact trivial | refine ⟨rfl, ?_⟩)) ⟨by omega, _, _, _, X2, Y2, qv, QX, hKn, hX2, hY2, hQ, hH11⟩
    first | with_reducible replace hc2 := of_decide_eq_false hc2 | with_reducible replace hc2 := bn_F hc2 | with_reducible replace hc2 := bb_F hc2 | skip
    obtain rfl : j = (usersTo p p.length x).length := by omega
    have hKn : Kahn p (fun _ => D ++ [x]) (D ++ [x]) lv lf Q := by
      refine hK.congr (fun a ha => ?_) (fun a ha f hf => ?_)
      · rw [List.take_length]
        by_cases hau : a ∈ usersTo p p.length x
        · rw [if_pos hau]
        · rw [if_neg hau, cntN_same (fun hh => hau ((mem_users_needs hv ha).2 hh))]
      · rw [List.take_length]
        by_cases hau : a ∈ usersTo p p.length x
        · rw [if_pos hau]
        · rw [if_neg hau, List.mem_append, List.mem_singleton]
          constructor
          · exact .inl
          · rintro (h1 | rfl)
            · exact h1
            · exact absurd ((mem_users_needs hv ha).2 hf) hau
    refine WT_exit rfl ?_
    refine WT_inBlock ?_
    refine again (D ++ [x]) _ _ (by rw [List.length_append, List.length_singleton]; omega) (by repeat (first | exact trivial | refine ⟨rfl, ?_⟩)) ⟨hD1, fun d hd => ?_, lv, lf, Q, X, Y, qv, QX, hKn, hX, hY, hQ, hH⟩
    rcases List.mem_append.1 hd with hd | hd
    · refine ⟨(hD d hd).1, cntN_zero.2 fun f hf => List.mem_append_left _ (cntN_zero.1 (hD d hd).2 f hf)⟩
    · rw [List.mem_singleton] at hd
      subst hd
      exact ⟨hxp, cntN_zero.2 fun f hf => List.mem_append_left _ (cntN_zero.1 hx0 f hf)⟩
  first | with_reducible replace hc := of_decide_eq_false hc | with_reducible replace hc := bn_F hc | with_reducible replace hc := bb_F hc | skip
  have hQ0 : Q = [] := List.eq_nil_of_length_eq_zero (by omega)
  subst hQ0
  have hfin := hK.done hv hD
  refine WT_exit rfl ?_
  refine WT_seq ?_
  refine WT_region ?_
  refine WL_v rfl (ov_move rfl) ?_
  refine WL_v rfl (ov_assign rfl) ?_
  refine WL_v rfl (ov_assign rfl) ?_
  refine WL_nil ?_
  exact WT_ret2 Try.func73 Try.results73 rfl rfl ⟨X, lvv, rfl, hfin ▸ hX, (((hH.weak hle).drop).drop).drop⟩

theorem levelList_no (hH : H w h Ls) {pv : Value} {p : List Nd} (hP : Plan h pv p) (hv : planOk p = false) : Rets Try.prog 73 #[pv] w fun v w' => v = .tuple #[.slice none 0 0, .bool false] ∧ H w' h Ls := by
  refine rets_enter Try.func73 rfl Try.ntmps73 (by simp) ?_
  refine WT_seq ?_
  refine WT_region ?_
  refine WL_v rfl (ov_assign rfl) ?_
  refine WL_v rfl (ov_assign rfl) ?_
  refine WL_nil ?_
  refine WT_seq ?_
  refine WT_region ?_
  refine WL_v rfl (ov_move rfl) ?_
  refine WL_call rfl rfl cf_impl_graphOf (graphOf_no hH hP hv) ?_; rintro _ w1 ⟨rfl, hH1⟩
  refine WL_v rfl (ov_move rfl) ?_
  refine WL_v rfl (ov_extract rfl rfl) ?_
  refine WL_v rfl (ov_extract rfl rfl) ?_
  refine WL_v rfl (ov_assign rfl) ?_
  refine WL_v rfl (ov_assign rfl) ?_
  refine WL_nil ?_
  refine WT_seq ?_
  refine WT_seq ?_
  refine WT_region ?_
  refine WL_v rfl (ov_move rfl) ?_
  refine WL_v rfl (ov_not rfl) ?_
  refine WL_nil ?_
  refine WT_condT rfl ?_
  refine WT_seq ?_
  refine WT_region ?_
  refine WL_v rfl (ov_assign rfl) ?_
  refine WL_v rfl (ov_assign rfl) ?_
  refine WL_nil ?_
  exact WT_ret2 Try.func73 Try.results73 rfl rfl ⟨rfl, hH1⟩

/-- The level of a node, or -1. -/
def levelOf (p : List Nd) (a : Int) : Int := if planOk p = true ∧ 0 ≤ a ∧ a < (p.length : Int) then (levelsTo p p.length).getD a.toNat 0 else -1

end
end Go.Proofs.Ytmcedghgincaaaa
