/- Walks: a crew is valid: the reference. -/
import Derived.Test.YteagnhdhafiofaaBf4
import Derived.Test.YteagnhdhafiofaaSlM
namespace Go.Proofs.Yteagnhdhafiofaa
open Go.RowKit

theorem addr_eq : ∀ {a b : Addr}, a.block = b.block → a.off = b.off → a.spot = b.spot → a = b
  | ⟨_, _, _⟩, ⟨_, _, _⟩, rfl, rfl, rfl => rfl

section
variable {h : GH} {Ls : List Heaplet} {w : World}

theorem RdL.take {v : Value} {xs : List Int} {k : Nat} (hA : RdL h Ls v xs) (hk : k ≤ xs.length) : RdL h Ls (reslice v 0 k 1) (xs.take k) :=
  ⟨by
    have := reslice_sl (sz := 1) hA.sl (lo := 0) (hi := k) (by omega) hk
    rw [List.length_take, Nat.min_eq_left hk]
    simpa using this, fun hH j hj => by
    rw [List.length_take] at hj
    obtain ⟨h1, h2, h3⟩ := reslice_at (sz := 1) hA.sl (lo := 0) (hi := k) (by omega) hk
    obtain ⟨c, _, _, hsp⟩ := hA.sl.some (by omega)
    have : slA (reslice v 0 k 1) = slA v := addr_eq h1 (by rw [h3]; omega) (by rw [h2, hsp])
    rw [this, List.getElem_take]
    exact hA.cell hH (by omega)⟩

end
end Go.Proofs.Yteagnhdhafiofaa

/- Walks: a crew is valid, whole: the reference. -/
namespace Go.Proofs.Yteagnhdhafiofaa
open Go.RowKit

section
variable {h : GH} {Ls : List Heaplet} {w : World}

theorem H.behind2 {O X Y : Heaplet} {Is Ms : List Heaplet} (hH : H w h (O :: (Is ++ X :: Y :: Ms))) : H w h (X :: Y :: O :: (Is ++ Ms)) := by
  have h1 := hH.behind
  have h2 : H w h ((X :: O :: Is) ++ Y :: Ms) := by simpa using h1
  have h3 := h2.perm (List.perm_middle (a := Y) (l₁ := X :: O :: Is) (l₂ := Ms))
  exact h3.swap

theorem crewOk_size {p : List Nd} {c : Cr} (hv : planOk p = true) (hw : 1 ≤ c.dq.length ∧ c.dq.length ≤ 4) (ho : orderB p c.dn = true) (h1 : cntL p c.dn = c.ct) (h2 : c.rw.length = p.length) :
    crewOk p c = (((readyI p c.dn).all fun a => decide (c.dq.flatten.count a = 1)) && decide (c.dq.flatten.length = (readyI p c.dn).length) && rowsB p c) := by
  rw [dequesFit_bool, hv, decide_eq_true hw, ho, decide_eq_true h1, decide_eq_true h2, deques_eq]; rfl

end
end Go.Proofs.Yteagnhdhafiofaa

/- Walks: crews of one's own, and how they are copied. -/
namespace Go.Proofs.Yteagnhdhafiofaa
open Go.RowKit

theorem zero_crew (W : World) : (zeroValue 29).run Try.prog W = .ok (.agg #[.slice none 0 0, .slice none 0 0, .slice none 0 0, .slice none 0 0]) W := by kernel_rfl
theorem run_build_cd' (a b : Option Addr) (n m c d : Nat) (W : World) : (Instr.build 29 #[(1, .slice a n c), (2, .slice b m d)]).run Try.prog W = .ok (.agg #[.slice none 0 0, .slice a n c, .slice b m d, .slice none 0 0]) W := by kernel_rfl
theorem run_build_cd {u v : Value} {n m : Nat} (hu : Sl u n) (hv : Sl v m) (W : World) : (Instr.build 29 #[(1, u), (2, v)]).run Try.prog W = .ok (.agg #[.slice none 0 0, u, v, .slice none 0 0]) W := by
  obtain ⟨a, c, rfl, _⟩ := hu.form
  obtain ⟨b, d, rfl, _⟩ := hv.form
  exact run_build_cd' _ _ _ _ _ _ W
theorem run_build_crew0 (W : World) : (Instr.build 29 #[]).run Try.prog W = .ok (.agg #[.slice none 0 0, .slice none 0 0, .slice none 0 0, .slice none 0 0]) W := by kernel_rfl
abbrev cz9 (g : Nat) : Heaplet := [(g, .cells (Value.agg #[.slice none 0 0, .slice none 0 0, .slice none 0 0, .slice none 0 0]).cells 29 (0, 0))]

/-- A crew of one's own. -/
structure OCr (C N D R : Heaplet) (Ds Rs : List Heaplet) (dv cv nv rv : Value) (c : Cr) : Prop where
  ct : IRow C 3 cv c.ct
  dn : IRow N 3 nv c.dn
  dq : OLists D Ds dv c.dq
  rw : OLists R Rs rv c.rw
abbrev crP (C N D R : Heaplet) (Ds Rs : List Heaplet) : List Heaplet := C :: N :: D :: R :: (Ds ++ Rs)

section
variable {h : GH} {Ls : List Heaplet} {w : World}

theorem Cl.many : ∀ (A : List Heaplet) {Ls : List Heaplet}, H w h (A ++ Ls) → Cl h Ls w := fun A Ls hH => ⟨A.flatten, by simpa [H] using hH⟩
theorem LAt.dq {C N D R : Heaplet} {Ds Ms : List Heaplet} : LAt (C :: N :: D :: R :: (Ds ++ Ms)) 2 4 D Ds := ⟨rfl, fun j F hj => by
  rw [show 4 + j = j + 1 + 1 + 1 + 1 by omega]
  simp only [List.getElem?_cons_succ]
  rw [List.getElem?_append_left (List.getElem?_eq_some_iff.1 hj).1]
  exact hj⟩
theorem LAt.rws {C N D R : Heaplet} {Ds Rs Ms : List Heaplet} : LAt (C :: N :: D :: R :: (Ds ++ (Rs ++ Ms))) 3 (4 + Ds.length) R Rs := ⟨rfl, fun j F hj => by
  rw [show 4 + Ds.length + j = (Ds.length + j) + 1 + 1 + 1 + 1 by omega]
  simp only [List.getElem?_cons_succ]
  rw [List.getElem?_append_right (by omega), Nat.add_sub_cancel_left, List.getElem?_append_left (List.getElem?_eq_some_iff.1 hj).1]
  exact hj⟩
theorem OCr.rd {C N D R : Heaplet} {Ds Rs : List Heaplet} {dv cv nv rv : Value} {c : Cr} (hO : OCr C N D R Ds Rs dv cv nv rv c) : RdCr h (C :: N :: D :: R :: (Ds ++ (Rs ++ Ls))) dv cv nv rv c :=
  ⟨hO.dq.rdll LAt.dq, hO.ct.rdl (i := 0) rfl, hO.dn.rdl (i := 1) rfl, hO.rw.rdll LAt.rws⟩
theorem H.snocG {T : Heaplet} {A Is Ms : List Heaplet} (hH : H w h (T :: (A ++ (Is ++ Ms)))) : H w h (A ++ ((Is ++ [T]) ++ Ms)) := by
  refine hH.perm ?_
  have : (T :: ((A ++ Is) ++ Ms)).Perm ((A ++ Is) ++ T :: Ms) := List.perm_middle.symm
  simpa using this
theorem loadCrew {i b : Nat} {dv cv nv rv : Value} (hi : Ls[i]? = some (crbox b dv cv nv rv)) (hH : H w h Ls) : ∀ j v, [dv, cv, nv, rv][j]? = some v → w.cell? (Addr.add ⟨b, 0, none⟩ j) = some v := fun j v hj => by
  rw [show Addr.add ⟨b, 0, none⟩ j = ⟨b, j, none⟩ by simp [add_of]]
  exact (hH.cb i hi j).trans (by simpa using hj)
theorem lvCrew {i b : Nat} {dv cv nv rv : Value} (hi : Ls[i]? = some (crbox b dv cv nv rv)) (hH : H w h Ls) : (loadVar 29 ⟨b, 0, none⟩).run Try.prog w = .ok (.agg [dv, cv, nv, rv].toArray) w :=
  run_loadVarN agg_impl_Crew rfl (loadCrew hi hH)

end
end Go.Proofs.Yteagnhdhafiofaa

/- Plain: new crews, and crews behind a turn. No program in sight. -/
namespace Go.Proofs.Yteagnhdhafiofaa

/-! dealing -/
def dealL (L : List Int) (w k : Nat) : List (List Int) := (List.range w).map fun i => ((List.range k).filter fun j => decide (j % w = i)).map fun j => L.getD j 0
theorem dealL_len (L : List Int) (w k : Nat) : (dealL L w k).length = w := by simp [dealL]
theorem dealL_get {L : List Int} {w k i : Nat} (h : i < (dealL L w k).length) : (dealL L w k)[i] = ((List.range k).filter fun j => decide (j % w = i)).map fun j => L.getD j 0 := by simp [dealL]
theorem dealL_zero (L : List Int) (w : Nat) : dealL L w 0 = List.replicate w [] := by
  refine List.ext_getElem (by simp [dealL]) fun i h1 h2 => ?_
  rw [dealL_get]; simp
theorem dealL_succ {L : List Int} {w k : Nat} (_hw : 0 < w) (hk : k < L.length) (hi : k % w < (dealL L w k).length) : dealL L w (k + 1) = (dealL L w k).set (k % w) ((dealL L w k)[k % w] ++ [L[k]]) := by
  refine List.ext_getElem (by simp [dealL]) fun i h1 h2 => ?_
  have hiw : i < (dealL L w k).length := by rw [dealL_len] at h1 ⊢; exact h1
  rw [dealL_get, List.getElem_set, List.range_succ, List.filter_append, List.map_append]
  split
  · rename_i h3
    subst h3
    rw [dealL_get]
    simp [List.getD_eq_getElem?_getD, List.getElem?_eq_getElem hk]
  · rename_i h3
    rw [dealL_get]
    simp [h3]
theorem set_flat : ∀ {ls : List (List Int)} {i : Nat} {x : Int} (hi : i < ls.length), (ls.set i (ls[i] ++ [x])).flatten.Perm (ls.flatten ++ [x])
  | l :: ls, 0, x, _ => by
    simp only [List.set_cons_zero, List.getElem_cons_zero, List.flatten_cons, List.append_assoc]
    exact List.Perm.append_left l List.perm_append_comm
  | l :: ls, i + 1, x, hi => by
    simp only [List.set_cons_succ, List.getElem_cons_succ, List.flatten_cons, List.append_assoc]
    exact List.Perm.append_left l (set_flat (by simpa using hi))
theorem deal_flat {L : List Int} {w : Nat} (hw : 0 < w) : ∀ {k : Nat}, k ≤ L.length → (dealL L w k).flatten.Perm (L.take k)
  | 0, _ => by rw [dealL_zero]; simp
  | k + 1, h => by
    have hi : k % w < (dealL L w k).length := by rw [dealL_len]; exact Nat.mod_lt _ hw
    rw [dealL_succ hw (by omega) hi, List.take_succ_eq_append_getElem (by omega)]
    exact (set_flat hi).trans ((deal_flat hw (by omega)).append_right _)
/-- New workers. -/
def newCr (p : List Nd) (w : Nat) : Cr := ⟨dealL (readyI p []) w (readyI p []).length, cntL p [], [], List.replicate p.length []⟩
theorem newCr_ok {p : List Nd} (hv : planOk p = true) {w : Nat} (hw : 1 ≤ w ∧ w ≤ 4) : CrewOk p (newCr p w) := by
  refine ⟨hv, by simp only [newCr, dealL_len]; exact hw, rfl, rfl, by simp [newCr], ?_, fun i hi => ?_⟩
  · have := deal_flat (L := readyI p []) (w := w) (by omega) (Nat.le_refl _)
    rw [List.take_length] at this
    exact (isort_eq (readyI_le p [])).2 this
  · simp only [rowWant, newCr, List.not_mem_nil, if_false]
    rw [List.getD_eq_getElem?_getD, List.getElem?_replicate]
    split <;> rfl

/-! turns -/
/-- A crew that fits into memory with ease. -/
structure SmCr (p : List Nd) (c : Cr) : Prop where
  dq : c.dq.length ≤ 4
  dd : c.dq.flatten.length ≤ 40
  ct : c.ct.length ≤ 10
  cv : ∀ x ∈ c.ct, -3 ≤ x ∧ x ≤ 3
  dn : c.dn.length ≤ 11
  rw : c.rw.length ≤ 10
  rr : ∀ i (hi : i < c.rw.length), c.rw[i].length ≤ 6
  rl : c.dq = [] ∨ c.rw.length = p.length
theorem rowOk_six' {r : List Int} (h : rowOk r = true) : r.length ≤ 6 := ((rowOk_iff r).1 h).2
theorem cntL_mem {p : List Nd} (hv : planOk p = true) {D : List Int} : ∀ x ∈ cntL p D, 0 ≤ x ∧ x ≤ 2 := fun x hx => by
  obtain ⟨u, hu, rfl⟩ := List.mem_map.1 hx
  have hu' := List.mem_range.1 hu
  have h1 := cntB_le p D u
  have h2 := needTo_len (p.getD u default).frm
  have h3 := NodeOk.len2 (PlanOk.node hv hu')
  rw [getD_of hu'] at h1 h2
  omega
theorem CrewOk.small {p : List Nd} {c : Cr} (h : CrewOk p c) : SmCr p c := by
  have hlen := PlanOk.len h.plan
  have h1 := readyI_len_le p c.dn
  have h2 := h.size
  have h3 := nodup_lenI (order_nodup h.ord) (fun a ha => order_mem h.ord ha)
  have h4 := cntL_len p c.dn
  refine ⟨h.dq.2, by omega, by rw [← h.ct]; omega, fun x hx => ?_, by omega, by rw [h.rl]; exact hlen, fun i hi => ?_, .inr h.rl⟩
  · rw [← h.ct] at hx
    have := cntL_mem h.plan x hx
    omega
  · have h5 := h.rows i (by rw [← h.rl]; exact hi)
    have h6 : c.rw.getD i [] = c.rw[i] := getLDV hi
    rw [← h6, ← h5, rowWant]
    split
    · exact rowOk_six' (vals_ok h.plan)
    · simp
/-- A worker does a node that was taken. -/
def doCr (p : List Nd) (c : Cr) (wk a : Nat) : Cr :=
  ⟨c.dq.set wk (c.dq.getD wk [] ++ (doneR p c.ct (a : Int)).map fun (j : Nat) => (j : Int)), doneC p c.ct (a : Int), c.dn ++ [(a : Int)], c.rw.set a (stepL (p.getD a default) c.rw)⟩
theorem flat_set_len : ∀ (ls : List (List Int)) (i : Nat) (l : List Int), (ls.set i l).flatten.length ≤ ls.flatten.length + l.length
  | [], _, _ => by simp
  | x :: ls, 0, l => by simp only [List.set_cons_zero, List.flatten_cons, List.length_append]; omega
  | x :: ls, i + 1, l => by
    have := flat_set_len ls i l
    simp only [List.set_cons_succ, List.flatten_cons, List.length_append]; omega
theorem len_flat {ls : List (List Int)} {i : Nat} (hi : i < ls.length) : ls[i].length ≤ ls.flatten.length := by
  obtain ⟨A, B, hAB⟩ := List.append_of_mem (List.getElem_mem hi)
  generalize ls[i] = l at hAB
  rw [hAB]
  simp
  omega
theorem getLen {ls : List (List Int)} (i : Nat) : (ls.getD i []).length ≤ ls.flatten.length := by
  rcases Nat.lt_or_ge i ls.length with h | h
  · rw [getLDV h]; exact len_flat h
  · rw [List.getD_eq_getElem?_getD, List.getElem?_eq_none h]; simp
theorem doneR_len (p : List Nd) (c : List Int) (a : Int) : (doneR p c a).length ≤ p.length := by
  have := List.length_filter_le (fun i => decide (a ∈ (p.getD i default).frm) && decide (c.getD i 0 = 1)) (List.range p.length)
  rw [List.length_range] at this
  exact this
/-- What a turn makes of a valid crew is small. -/
theorem do_small {p : List Nd} {c : Cr} (h : CrewOk p c) {m wk a : Nat} {rest : List Int} (hr : rest.length ≤ 10) (ha : a < p.length) : SmCr p (doCr p ⟨c.dq.set m rest, c.ct, c.dn, c.rw⟩ wk a) := by
  have hlen := PlanOk.len h.plan
  have hs := h.small
  have h1 := readyI_len_le p c.dn
  have h2 := h.size
  have h3 := nodup_lenI (order_nodup h.ord) (fun a ha => order_mem h.ord ha)
  have h4 := doneR_len p c.ct (a : Int)
  have h5 := hs.dq
  have h6 := hs.rw
  refine ⟨by simpa [doCr] using h5, ?_, by simp [doCr, doneC_len]; exact hlen, fun x hx => ?_, by simp [doCr]; omega, by simpa [doCr] using h6, fun i hi => ?_, .inr (by simp [doCr]; exact h.rl)⟩
  · simp only [doCr]
    have h0 := flat_set_len c.dq m rest
    have h7 := flat_set_len (c.dq.set m rest) wk ((c.dq.set m rest).getD wk [] ++ (doneR p c.ct (a : Int)).map fun (j : Nat) => (j : Int))
    have h8 : ((c.dq.set m rest).getD wk []).length ≤ 10 := by
      rw [List.getD_eq_getElem?_getD, List.getElem?_set]
      split
      · split
        · exact hr
        · simp
      · have := getLen (ls := c.dq) wk
        rw [List.getD_eq_getElem?_getD] at this
        omega
    rw [List.length_append, List.length_map] at h7
    omega
  · simp only [doCr, doneC] at hx
    obtain ⟨u, hu, rfl⟩ := List.mem_map.1 hx
    have hu' := List.mem_range.1 hu
    have h9 : c.ct.getD u 0 ∈ cntL p c.dn := by
      rw [← h.ct, List.getD_eq_getElem?_getD, List.getElem?_eq_getElem (by rw [cntL_len]; exact hu')]
      exact List.getElem_mem _
    have := cntL_mem h.plan _ h9
    split <;> omega
  · simp only [doCr] at hi ⊢
    rw [List.getElem_set]
    split
    · exact rowOk_six' (stepL_ok (by rw [getD_of ha]; exact (PlanOk.node h.plan ha).row) _)
    · exact hs.rr i (by simpa using hi)
end Go.Proofs.Yteagnhdhafiofaa

/- Walks: new crews: the reference; deques. -/
namespace Go.Proofs.Yteagnhdhafiofaa
open Go.RowKit

section
variable {h : GH} {Ls : List Heaplet} {w : World}

theorem zerosL_succ (c : List Int) (k : Nat) : zerosL c (k + 1) = zerosL c k ++ (if c.getD k 0 = 0 then [k] else []) := by
  rw [zerosL, zerosL, List.range_succ, List.filter_append]
  congr 1
  by_cases h : c.getD k 0 = 0
  · rw [if_pos h, List.filter_cons, if_pos (decide_eq_true h)]; rfl
  · rw [if_neg h, List.filter_cons, if_neg (by simpa using h)]; rfl
theorem zerosL_len (c : List Int) (k : Nat) : (zerosL c k).length ≤ k := by
  have := List.length_filter_le (fun i => decide (c.getD i 0 = 0)) (List.range k)
  rw [List.length_range] at this
  exact this
theorem sCountsReady_ok (hH : H w h Ls) {cv : Value} {c : List Int} (hC : RdL h Ls cv c) (hcl : c.length ≤ 1000000000) : Rets Try.prog 24 #[cv] w fun v w' => ∃ X, IRow X 3 v (toI (zerosL c c.length)) ∧ H w' h (X :: Ls) := by
  refine rets_enter Try.func24 rfl Try.ntmps24 (by simp) ?_
  refine WT_seq ?_
  refine WT_region ?_
  refine WL_v rfl (ov_assign rfl) ?_
  refine WL_nil ?_
  refine WT_seq ?_
  refine WT_region ?_
  refine WL_bsI0 rfl hH run_bs_int0 ?_; rintro X0 xv0 w1 hX0 hH1
  refine WL_v rfl (ov_assign rfl) ?_
  refine WL_nil ?_
  refine WT_seq ?_
  refine WT_seq ?_
  refine WT_region ?_
  refine WL_v rfl (ov_assign rfl) ?_
  refine WL_nil ?_
  refine WT_block ?_
  refine WT_while (fun s : Nat × Value => [(0, cv), (3, s.2), (4, .int .i64 (s.1 : Int))]) (fun s w => s.1 ≤ c.length ∧ ∃ X, IRow X 3 s.2 (toI (zerosL c s.1)) ∧ H w h (X :: Ls)) (fun s => c.length - s.1) (0, xv0) (by repeat (first | exact trivial | refine ⟨rfl, ?_⟩)) ⟨by simp, X0, hX0, hH1⟩ ?_
  clear hH hH1 hX0 X0 xv0
  rintro ⟨k, xv⟩ w2 ⟨hk, X, hX, hH⟩ again
  simp only at hk hX
  refine WT_seq ?_
  refine WT_seq ?_
  refine WT_region ?_
  refine WL_v rfl (ov_move rfl) ?_
  refine WL_v rfl (ov_move rfl) ?_
  refine WL_v rfl (ov_len rfl hC.sl st_sl_int) ?_
  refine WL_v rfl (ov_lss rfl rfl) ?_
  refine WL_nil ?_
  refine WT_cond rfl (fun hc => ?_) (fun hc => ?_)
  · skip
    first | with_reducible replace hc := of_decide_eq_true hc | with_reducible replace hc := bn_T hc | with_reducible replace hc := bb_T hc | skip
    have hkc : k < c.length := by simp only at hc; omega
    have hzl := zerosL_len c k
    have htl := toI_len (zerosL c k)
    refine WT_skip ?_
    refine WT_seq ?_
    refine WT_block ?_
    refine WT_seq ?_
    refine WT_region ?_
    refine WL_v rfl (ov_move rfl) ?_
    refine WL_v rfl (ov_move rfl) ?_
    refine WL_v rfl (ov_index rfl rfl st_sl_int hC.sl hkc) ?_
    refine WL_v rfl (ov_load rfl one_int (hC.cell hH.drop hkc)) ?_
    refine WL_v rfl (ov_eql rfl rfl) ?_
    refine WL_nil ?_
    refine WT_cond rfl (fun hz => ?_) (fun hz => ?_)
    · skip
      first | with_reducible replace hz := of_decide_eq_true hz | with_reducible replace hz := bn_T hz | with_reducible replace hz := bb_T hz | skip
      refine WT_region ?_
      refine WL_v rfl (ov_move rfl) ?_
      refine WL_v rfl (ov_move rfl) ?_
      refine WL_bsI rfl hH rfl (run_bs_int _) ?_; rintro Y yv w3 hY hH3
      refine WL_appI (i := 1) (j := 0) rfl hH3 rfl rfl st_sl_int rfl hX rfl hY (by rw [htl]; simp; omega) (by rw [htl]; simp; omega) ?_; rintro X2 xv2 w4 hX2 hH4
      refine WL_v rfl (ov_assign rfl) ?_
      refine WL_nil ?_
      refine WT_inBlock ?_
      refine WT_region ?_
      refine WL_v rfl (ov_move rfl) ?_
      refine WL_v rfl (ov_add rfl rfl (by omega)) ?_
      refine WL_v rfl (ov_assign rfl) ?_
      refine WL_nil ?_
      refine again (k + 1, xv2) _ _ (by simp only; omega) (by repeat (first | exact trivial | refine ⟨rfl, ?_⟩)) ⟨by simp only; omega, X2, ?_, hH4.drop⟩
      simp only
      rw [zerosL_succ, if_pos (by rw [getDI hkc]; exact hz)]
      simpa [toI] using hX2
    first | with_reducible replace hz := of_decide_eq_false hz | with_reducible replace hz := bn_F hz | with_reducible replace hz := bb_F hz | skip
    refine WT_skip ?_
    refine WT_inBlock ?_
    refine WT_region ?_
    refine WL_v rfl (ov_move rfl) ?_
    refine WL_v rfl (ov_add rfl rfl (by omega)) ?_
    refine WL_v rfl (ov_assign rfl) ?_
    refine WL_nil ?_
    refine again (k + 1, xv) _ _ (by simp only; omega) (by repeat (first | exact trivial | refine ⟨rfl, ?_⟩)) ⟨by simp only; omega, X, ?_, hH⟩
    simp only
    rw [zerosL_succ, if_neg (by rw [getDI hkc]; exact hz), List.append_nil]
    exact hX
  first | with_reducible replace hc := of_decide_eq_false hc | with_reducible replace hc := bn_F hc | with_reducible replace hc := bb_F hc | skip
  obtain rfl : k = c.length := by simp only at hc; omega
  refine WT_exit rfl ?_
  refine WT_seq ?_
  refine WT_region ?_
  refine WL_v rfl (ov_move rfl) ?_
  refine WL_v rfl (ov_assign rfl) ?_
  refine WL_nil ?_
  exact WT_ret1 Try.func24 Try.results24 rfl ⟨X, hX, hH⟩

theorem zeros_first {p : List Nd} (hv : planOk p = true) : toI (zerosL (cntL p []) (cntL p []).length) = readyI p [] := by
  rw [cntL_len]
  unfold readyI toI zerosL readyL
  congr 1
  refine List.filter_congr fun u hu => ?_
  have hu' := List.mem_range.1 hu
  rw [cntL_getD hu', Bool.eq_iff_iff]
  have h1 := cntB_zero hv (D := []) hu'
  simp only [readyB, List.not_mem_nil, not_false_eq_true, decide_true, Bool.true_and, decide_eq_true_eq, List.all_eq_true, decide_false, decide_eq_true_eq] at *
  constructor
  · intro hz x hx
    exact absurd (h1.1 (by omega) x hx) (by simp)
  · intro hz
    have : cntB p [] u = 0 := h1.2 fun f hf => by have := hz f hf; simp at this
    omega

theorem Cl.sub (A S B : List Heaplet) (hH : H w h (A ++ (S ++ B))) : Cl h S w := Cl.many (A ++ B) (by
  rw [List.append_assoc]
  exact hH.perm (List.Perm.append_left A List.perm_append_comm))
theorem at_mid {A Ds M : List Heaplet} {m : Nat} {F : Heaplet} (hm : Ds[m]? = some F) : (A ++ (Ds ++ M))[A.length + m]? = some F := by
  rw [List.getElem?_append_right (by omega), Nat.add_sub_cancel_left, List.getElem?_append_left (List.getElem?_eq_some_iff.1 hm).1]
  exact hm
theorem H.setMid {A Ds M : List Heaplet} {m : Nat} {F : Heaplet} (hH : H w h ((A ++ (Ds ++ M)).set (A.length + m) F)) (hm : m < Ds.length) : H w h (A ++ (Ds.set m F ++ M)) := by
  rw [List.set_append_right _ _ (by omega), Nat.add_sub_cancel_left, List.set_append_left _ _ hm] at hH
  exact hH
theorem H.newOrd {R D Y X : Heaplet} {Ms : List Heaplet} (hH : H w h (R :: D :: Y :: X :: Ms)) : H w h (X :: Y :: D :: R :: Ms) := hH.perm (by
  have : ([R, D, Y, X] ++ Ms).Perm ([X, Y, D, R] ++ Ms) := List.Perm.append_right Ms (List.reverse_perm [X, Y, D, R])
  exact this)
/-- A crew made, or none. -/
def OwnCr (h : GH) (Ls : List Heaplet) (c : Cr) (dv cv nv rv : Value) (w' : World) : Prop := ∃ C N D R Ds Rs, OCr C N D R Ds Rs dv cv nv rv c ∧ H w' h (C :: N :: D :: R :: (Ds ++ (Rs ++ Ls)))
abbrev nilV : Value := .slice none 0 0
theorem repl_snoc (k : Nat) : List.replicate (k + 1) ([] : List Int) = List.replicate k [] ++ [[]] := List.replicate_succ'

set_option maxHeartbeats 2000000 in
theorem sCrewNew_yes (hH : H w h Ls) {pv : Value} {p : List Nd} (hP : Plan h pv p) (hv : planOk p = true) {n : Nat} (hn : 1 ≤ n ∧ n ≤ 4) : Rets Try.prog 7 #[pv, .int .i64 (n : Int)] w fun v w' => ∃ dv cv nv rv, v = .tuple #[crV dv cv nv rv, .bool true] ∧ OwnCr h Ls (newCr p n) dv cv nv rv w' := by
  have hlen := PlanOk.len hv
  have hrl := readyI_len_le p []
  have hsv := fun {w : World} {Ls : List Heaplet} (hH : H w h Ls) => sPlanValid_ok hH hP (by omega)
  rw [hv] at hsv
  have hli := fun {w : World} {Ls : List Heaplet} (hH : H w h Ls) => l6In_ok hH (n : Int) 1 4
  rw [decide_eq_true (show 1 ≤ (n : Int) ∧ (n : Int) ≤ 4 by omega)] at hli
  refine rets_enter Try.func7 rfl Try.ntmps7 (by simp) ?_
  refine WT_seq ?_
  refine WT_region ?_
  refine WL_alloc _ rfl hH zero_crew rfl ?_; rintro g4 w1 hH1
  refine WL_v rfl (ov_assign rfl) ?_
  refine WL_nil ?_
  refine WT_seq ?_
  refine WT_seq ?_
  refine WT_region ?_
  refine WL_v rfl (ov_move rfl) ?_
  refine WL_call rfl rfl cf_spec_PlanValid (hsv hH1) ?_; rintro _ w2 ⟨rfl, hH2⟩
  refine WL_v rfl (ov_not rfl) ?_
  refine WL_v rfl (ov_move rfl) ?_
  refine WL_guardOn rfl rfl ?_
  refine WL_v rfl (ov_move rfl) ?_
  refine WL_guardOn rfl rfl ?_
  refine WL_call rfl rfl cf_spec_l6In (hli hH2) ?_; rintro _ w3 ⟨rfl, hH3⟩
  refine WL_guardOn rfl rfl ?_
  refine WL_v rfl (ov_not rfl) ?_
  refine WL_v rfl (ov_pickF rfl rfl) ?_
  refine WL_nil ?_
  refine WT_condF rfl ?_
  refine WT_skip ?_
  refine WT_seq ?_
  refine WT_region ?_
  refine WL_v rfl (ov_move rfl) ?_
  refine WL_call rfl rfl cf_spec_l11Counts (l11Counts_ok hH3 hP hv) ?_; rintro xv w4 ⟨X, hX, hH4⟩
  refine WL_bsI0 rfl hH4 run_bs_int0 ?_; rintro Y yv w5 hY hH5
  refine WL_v rfl (ov_build rfl (run_build_cd hX.sl hY.sl)) ?_
  refine WL_alloc _ rfl hH5 zero_crew rfl ?_; rintro g w6 hH6
  refine WL_storeN hH6 rfl rfl (i := 0) rfl rfl rfl (ones_cons rfl (ones_cons hX.sl.one (ones_cons hY.sl.one (ones_cons rfl ones_nil)))) sz_impl_Crew ?_; rintro w7 hH7
  refine WL_nil ?_
  refine WT_seq ?_
  refine WT_seq ?_
  refine WT_region ?_
  refine WL_v rfl (ov_assign rfl) ?_
  refine WL_nil ?_
  refine WT_block ?_
  refine WT_while (fun s : Nat => [(0, pv), (1, .int .i64 (n : Int)), (4, ptr g4), (6, ptr g), (7, .int .i64 (s : Int))]) (fun s w => s ≤ n ∧ ∃ dv D Ds, OLists D Ds dv (List.replicate s []) ∧ H w h (crbox g dv xv yv nilV :: D :: Y :: X :: cz9 g4 :: (Ds ++ Ls))) (fun s => n - s) 0 (by repeat (first | exact trivial | refine ⟨rfl, ?_⟩)) ⟨by omega, nilV, [], [], OLists.nil _ _ (Row.nil _ _), hH7.nilIn.swap⟩ ?_
  clear hH hH1 hH2 hH3 hH4 hH5 hH6 hH7
  rintro k w4 ⟨hk, dv, D, Ds, hD, hH⟩ again
  refine WT_seq ?_
  refine WT_seq ?_
  refine WT_region ?_
  refine WL_v rfl (ov_move rfl) ?_
  refine WL_v rfl (ov_move rfl) ?_
  refine WL_v rfl (ov_lss rfl rfl) ?_
  refine WL_nil ?_
  refine WT_cond rfl (fun hc => ?_) (fun hc => ?_)
  · skip
    first | with_reducible replace hc := of_decide_eq_true hc | with_reducible replace hc := bn_T hc | with_reducible replace hc := bb_T hc | skip
    have hkn : k < n := by omega
    obtain ⟨hil, xs, hR, hat⟩ := hD
    rw [List.length_replicate] at hil hR
    refine WT_skip ?_
    refine WT_seq ?_
    refine WT_block ?_
    refine WT_region ?_
    refine WL_v rfl (ov_field rfl fo_impl_Crew_0) ?_
    refine WL_v rfl (ov_load rfl one_sl_sl_int (hH.cb 0 rfl 0)) ?_
    refine WL_bsI0 rfl hH run_bs_int0 ?_; rintro T tv w5 hT hH5; obtain ⟨At, ct, htv, _⟩ := hT.sl.form
    refine WL_buildSlice (sz := 1) [tv] rfl hH5 rfl (fun W => by rw [htv]; exact run_bs_sl1 _ _ _ W) rfl (by omega) ?_; rintro Z zv w6 hZ hH6
    refine WL_append1 (i := 3) (j := 0) (n := k) (m := 1) rfl hH6 rfl rfl st_sl_sl_int (by omega) rfl hR rfl hZ (ones_cons hT.sl.one ones_nil) (by omega) (by omega) ?_; rintro D2 dv2 w7 hD2 hH7
    refine WL_v rfl (ov_field rfl fo_impl_Crew_0) ?_
    refine WL_store hH7 rfl rfl (i := 2) (off := 0) rfl rfl (by exact Nat.zero_lt_succ _) hD2.sl.one sz_sl_sl_int ?_; rintro w8 hH8
    refine WL_nil ?_
    refine WT_inBlock ?_
    refine WT_region ?_
    refine WL_v rfl (ov_move rfl) ?_
    refine WL_v rfl (ov_add rfl rfl (by omega)) ?_
    refine WL_v rfl (ov_assign rfl) ?_
    refine WL_nil ?_
    refine again (k + 1) _ _ (by omega) (by repeat (first | exact trivial | refine ⟨rfl, ?_⟩)) ⟨by omega, dv2, D2, Ds ++ [T], ?_, H.snocG (A := [_, _, _, _, _]) hH8.drop⟩
    have := OLists.snoc (by rw [List.length_replicate]; exact hil) (by rw [List.length_replicate]; exact hR) hat (by rw [List.length_replicate]; exact hD2) hT
    rw [repl_snoc]
    exact this
  first | with_reducible replace hc := of_decide_eq_false hc | with_reducible replace hc := bn_F hc | with_reducible replace hc := bb_F hc | skip
  obtain rfl : k = n := by omega
  refine WT_exit rfl ?_
  refine WT_seq ?_
  refine WT_seq ?_
  refine WT_region ?_
  refine WL_v rfl (ov_assign rfl) ?_
  refine WL_nil ?_
  refine WT_block ?_
  refine WT_while (fun s : Nat => [(0, pv), (1, .int .i64 (k : Int)), (4, ptr g4), (6, ptr g), (8, .int .i64 (s : Int))]) (fun s w => s ≤ p.length ∧ ∃ rv R Rs, OLists R Rs rv (List.replicate s []) ∧ H w h (crbox g dv xv yv rv :: R :: D :: Y :: X :: cz9 g4 :: (Ds ++ (Rs ++ Ls)))) (fun s => p.length - s) 0 (by repeat (first | exact trivial | refine ⟨rfl, ?_⟩)) ⟨by omega, nilV, [], [], OLists.nil _ _ (Row.nil _ _), hH.nilIn.swap⟩ ?_
  clear hH again
  rintro m w4 ⟨hm, rv, R, Rs, hR, hH⟩ again
  refine WT_seq ?_
  refine WT_seq ?_
  refine WT_region ?_
  refine WL_v rfl (ov_move rfl) ?_
  refine WL_v rfl (ov_move rfl) ?_
  refine WL_v rfl (ov_len rfl hP.sl st_sl_impl_Node) ?_
  refine WL_v rfl (ov_lss rfl rfl) ?_
  refine WL_nil ?_
  refine WT_cond rfl (fun hc2 => ?_) (fun hc2 => ?_)
  · skip
    first | with_reducible replace hc2 := of_decide_eq_true hc2 | with_reducible replace hc2 := bn_T hc2 | with_reducible replace hc2 := bb_T hc2 | skip
    have hmn : m < p.length := by omega
    obtain ⟨hil, xs, hR, hat⟩ := hR
    rw [List.length_replicate] at hil hR
    refine WT_skip ?_
    refine WT_seq ?_
    refine WT_block ?_
    refine WT_region ?_
    refine WL_v rfl (ov_field rfl fo_impl_Crew_3) ?_
    refine WL_v rfl (ov_load rfl one_sl_sl_int (hH.cb 0 rfl 3)) ?_
    refine WL_bsI0 rfl hH run_bs_int0 ?_; rintro T tv w5 hT hH5; obtain ⟨At, ct, htv, _⟩ := hT.sl.form
    refine WL_buildSlice (sz := 1) [tv] rfl hH5 rfl (fun W => by rw [htv]; exact run_bs_sl1 _ _ _ W) rfl (by omega) ?_; rintro Z zv w6 hZ hH6
    refine WL_append1 (i := 3) (j := 0) (n := m) (m := 1) rfl hH6 rfl rfl st_sl_sl_int (by omega) rfl hR rfl hZ (ones_cons hT.sl.one ones_nil) (by omega) (by omega) ?_; rintro R2 rv2 w7 hR2 hH7
    refine WL_v rfl (ov_field rfl fo_impl_Crew_3) ?_
    refine WL_store hH7 rfl rfl (i := 2) (off := 3) rfl rfl (by exact Nat.lt_succ_self _) hR2.sl.one sz_sl_sl_int ?_; rintro w8 hH8
    refine WL_nil ?_
    refine WT_inBlock ?_
    refine WT_region ?_
    refine WL_v rfl (ov_move rfl) ?_
    refine WL_v rfl (ov_add rfl rfl (by omega)) ?_
    refine WL_v rfl (ov_assign rfl) ?_
    refine WL_nil ?_
    refine again (m + 1) _ _ (by omega) (by repeat (first | exact trivial | refine ⟨rfl, ?_⟩)) ⟨by omega, rv2, R2, Rs ++ [T], ?_, ?_⟩
    · have := OLists.snoc (by rw [List.length_replicate]; exact hil) (by rw [List.length_replicate]; exact hR) hat (by rw [List.length_replicate]; exact hR2) hT
      rw [repl_snoc]
      exact this
    · have h9 : H w8 h (T :: ((crbox g dv xv yv rv2 :: R2 :: D :: Y :: X :: cz9 g4 :: Ds) ++ (Rs ++ Ls))) := by simpa using hH8.drop
      have := H.snocG h9
      simpa using this
  first | with_reducible replace hc2 := of_decide_eq_false hc2 | with_reducible replace hc2 := bn_F hc2 | with_reducible replace hc2 := bb_F hc2 | skip
  obtain rfl : m = p.length := by omega
  rw [countsL_cnt] at hX
  refine WT_exit rfl ?_
  refine WT_seq ?_
  refine WT_region ?_
  refine WL_v rfl (ov_field rfl fo_impl_Crew_1) ?_
  refine WL_v rfl (ov_load rfl one_sl_int (hH.cb 0 rfl 1)) ?_
  refine WL_call rfl rfl cf_spec_CountsReady (sCountsReady_ok hH (hX.rdl (i := 4) rfl) (by rw [cntL_len]; omega)) ?_; rintro qv w5 ⟨Q, hQ, hH5⟩
  refine WL_v rfl (ov_assign rfl) ?_
  refine WL_nil ?_
  refine WT_seq ?_
  refine WT_seq ?_
  refine WT_region ?_
  refine WL_v rfl (ov_assign rfl) ?_
  refine WL_nil ?_
  refine WT_block ?_
  rw [zeros_first hv] at hQ
  refine WT_while (fun s : Nat => [(1, .int .i64 (k : Int)), (4, ptr g4), (6, ptr g), (9, qv), (10, .int .i64 (s : Int))]) (fun s w => s ≤ (readyI p []).length ∧ ∃ D Ds, OLists D Ds dv (dealL (readyI p []) k s) ∧ H w h (Q :: crbox g dv xv yv rv :: R :: D :: Y :: X :: cz9 g4 :: (Ds ++ (Rs ++ Ls)))) (fun s => (readyI p []).length - s) 0 (by repeat (first | exact trivial | refine ⟨rfl, ?_⟩)) ⟨by omega, D, Ds, by rw [dealL_zero]; exact hD, hH5⟩ ?_
  clear hH hH5 again hD D Ds
  rintro s w6 ⟨hs, D, Ds, hD, hH⟩ again
  refine WT_seq ?_
  refine WT_seq ?_
  refine WT_region ?_
  refine WL_v rfl (ov_move rfl) ?_
  refine WL_v rfl (ov_move rfl) ?_
  refine WL_v rfl (ov_len rfl hQ.sl st_sl_int) ?_
  refine WL_v rfl (ov_lss rfl rfl) ?_
  refine WL_nil ?_
  refine WT_cond rfl (fun hc3 => ?_) (fun hc3 => ?_)
  · skip
    first | with_reducible replace hc3 := of_decide_eq_true hc3 | with_reducible replace hc3 := bn_T hc3 | with_reducible replace hc3 := bb_T hc3 | skip
    have hsr : s < (readyI p []).length := by omega
    have hdl := dealL_len (readyI p []) k s
    have hmk : s % k < k := Nat.mod_lt _ (by omega)
    have hmd : s % k < (dealL (readyI p []) k s).length := by omega
    have hmod : ((s : Nat) : Int) % ((k : Nat) : Int) = ((s % k : Nat) : Int) := (Int.natCast_emod s k).symm
    have hfl := deal_flat (L := readyI p []) (w := k) (by omega) hs
    have hfl2 : (dealL (readyI p []) k s)[s % k].length ≤ 10 := by
      have h1 := len_flat hmd
      have h2 := hfl.length_eq
      rw [List.length_take] at h2
      omega
    obtain ⟨hil, xs, hR0, hat⟩ := hD
    have hxl := hR0.len
    obtain ⟨u, F, e1, e2, e3⟩ := hat _ hmd
    have hul := e3.sl.one
    have hcu : ∀ {w' : World} {L : Heaplet}, H w' h (L :: [Q, crbox g dv xv yv rv, R, D]) → w'.cell? ((slA dv).add (s % k * 1)) = some u := fun hH => by
      rw [Nat.mul_one]; exact hR0.cell hH (i := 4) rfl e1
    refine WT_skip ?_
    refine WT_seq ?_
    refine WT_block ?_
    refine WT_mixS [(0, 1), (1, 0), (2, 1), (3, 1), (4, 1), (5, 1), (6, 0), (7, 1), (8, 1), (9, 1), (10, 1), (11, 0), (12, 1), (13, 1), (14, 1), (15, 0), (16, 2), (17, 2), (18, 1), (19, 3)] [Q, crbox g dv xv yv rv, R, D] (fun w' hh => Cl.sub [] [Q, crbox g dv xv yv rv, R, D] _ hh) mixed (by kernel_rfl) hH ?_
    clear hH
    intro w7 hH hC
    refine WM_p rfl rfl (fun _ => ov_field rfl fo_impl_Crew_0) ?_
    refine WM_v rfl rfl hC (fun _ ⟨_, hH⟩ => ov_load rfl one_sl_sl_int (hH.cb 2 rfl 0)) ?_
    refine WM_p rfl rfl (fun _ => ov_move rfl) ?_
    refine WM_p rfl rfl (fun _ => ov_move rfl) ?_
    refine WM_p rfl rfl (fun _ => ov_as (ov_rem rfl rfl (by omega) (by omega)) (congrArg (Value.int .i64) hmod)) ?_
    refine WM_p rfl rfl (fun _ => ov_field rfl fo_impl_Crew_0) ?_
    refine WM_v rfl rfl hC (fun _ ⟨_, hH⟩ => ov_load rfl one_sl_sl_int (hH.cb 2 rfl 0)) ?_
    refine WM_p rfl rfl (fun _ => ov_move rfl) ?_
    refine WM_p rfl rfl (fun _ => ov_move rfl) ?_
    refine WM_p rfl rfl (fun _ => ov_as (ov_rem rfl rfl (by omega) (by omega)) (congrArg (Value.int .i64) hmod)) ?_
    refine WM_p rfl rfl (fun _ => ov_index rfl rfl st_sl_sl_int hR0.sl hmd) ?_
    refine WM_v rfl rfl hC (fun _ ⟨_, hH⟩ => ov_load rfl one_sl_int (hcu hH)) ?_
    refine WM_p rfl rfl (fun _ => ov_move rfl) ?_
    refine WM_p rfl rfl (fun _ => ov_move rfl) ?_
    refine WM_p rfl rfl (fun _ => ov_index rfl rfl st_sl_int hQ.sl hsr) ?_
    refine WM_v rfl rfl hC (fun _ ⟨_, hH⟩ => ov_load rfl one_int (hQ.cell hH (i := 1) rfl hsr)) ?_
    refine WM_e rfl ?_
    refine WL_bsI rfl hH rfl (run_bs_int _) ?_; rintro Z zv w8 hZ hH8
    replace hC : Cl _ _ _ := Cl.sub [Z] [Q, crbox g dv xv yv rv, R, D] _ hH8
    refine WL_mix (fun _ => hC) ?_
    refine WM_e rfl ?_
    refine WL_appI (i := 8 + s % k) (j := 0) rfl hH8 rfl rfl st_sl_int (at_mid (A := [Z, Q, crbox g dv xv yv rv, R, D, Y, X, cz9 g4]) e2) e3 rfl hZ (by simp; omega) (by simp; omega) ?_; rintro F2 u2 w9 hF2 hH9; replace hH9 := hH9.setMid (A := [Z, Q, crbox g dv xv yv rv, R, D, Y, X, cz9 g4]) (by omega)
    replace hC : Cl _ _ _ := Cl.sub [Z] [Q, crbox g dv xv yv rv, R, D] _ hH9
    refine WL_mix (fun _ => hC) ?_
    refine WM_p rfl rfl (fun _ => ov_index rfl rfl st_sl_sl_int hR0.sl hmd) ?_
    refine WM_e rfl ?_
    refine WL_storeRow hH9 rfl rfl (i := 4) rfl hR0 (j := s % k * 1) (by omega) hF2.sl.one sz_sl_int ?_; rintro D2 w10 hD2 hH10; rw [Nat.mul_one] at hD2
    refine WL_mix (fun h => absurd rfl h) ?_
    refine WM_nil ?_
    refine WT_inBlock ?_
    refine WT_region ?_
    refine WL_v rfl (ov_move rfl) ?_
    refine WL_v rfl (ov_add rfl rfl (by omega)) ?_
    refine WL_v rfl (ov_assign rfl) ?_
    refine WL_nil ?_
    refine again (s + 1) _ _ (by omega) (by repeat (first | exact trivial | refine ⟨rfl, ?_⟩)) ⟨by omega, D2, Ds.set (s % k) F2, ?_, hH10.drop⟩
    rw [dealL_succ (by omega) hsr hmd]
    exact OLists.set hmd hil (by omega) hat hD2 hF2
  first | with_reducible replace hc3 := of_decide_eq_false hc3 | with_reducible replace hc3 := bn_F hc3 | with_reducible replace hc3 := bb_F hc3 | skip
  obtain rfl : s = (readyI p []).length := by omega
  refine WT_exit rfl ?_
  refine WT_seq ?_
  refine WT_region ?_
  refine WL_v rfl (ov_loadN [dv, xv, yv, rv] rfl agg_impl_Crew rfl ((loadCrew (i := 1) rfl hH))) ?_
  refine WL_storeN hH rfl rfl (i := 6) rfl rfl rfl (ones_cons hD.sl.one (ones_cons hX.sl.one (ones_cons hY.sl.one (ones_cons hR.sl.one ones_nil)))) sz_impl_Crew ?_; rintro w7 hH7
  refine WL_v rfl (ov_assign rfl) ?_
  refine WL_nil ?_
  exact WT_retCT Try.func7 Try.results7 rfl rfl (lvCrew (i := 6) (dv := dv) (cv := xv) (nv := yv) (rv := rv) rfl hH7) ⟨dv, xv, yv, rv, rfl, X, Y, D, R, Ds, Rs, ⟨hX, hY, hD, hR⟩, H.newOrd (hH7.del 6 rfl).drop.drop⟩
theorem sCrewNew_no (hH : H w h Ls) {pv : Value} {p : List Nd} (hP : Plan h pv p) (hpl : p.length ≤ 1000000000) {n : Int} (hb : ¬ (planOk p = true ∧ 1 ≤ n ∧ n ≤ 4)) : Rets Try.prog 7 #[pv, .int .i64 n] w fun v w' => v = .tuple #[crV nilV nilV nilV nilV, .bool false] ∧ H w' h Ls := by
  have hsv := fun {w : World} {Ls : List Heaplet} (hH : H w h Ls) => sPlanValid_ok hH hP hpl
  refine rets_enter Try.func7 rfl Try.ntmps7 (by simp) ?_
  refine WT_seq ?_
  refine WT_region ?_
  refine WL_alloc _ rfl hH zero_crew rfl ?_; rintro g4 w1 hH1
  refine WL_v rfl (ov_assign rfl) ?_
  refine WL_nil ?_
  refine WT_seq ?_
  refine WT_seq ?_
  refine WT_region ?_
  refine WL_v rfl (ov_move rfl) ?_
  by_cases hv : planOk p = true
  · skip
    rw [hv] at hsv
    have hli := fun {w : World} {Ls : List Heaplet} (hH : H w h Ls) => l6In_ok hH n 1 4
    rw [decide_eq_false (fun hh => hb ⟨hv, hh⟩)] at hli
    refine WL_call rfl rfl cf_spec_PlanValid (hsv hH1) ?_; rintro _ w2 ⟨rfl, hH2⟩
    refine WL_v rfl (ov_not rfl) ?_
    refine WL_v rfl (ov_move rfl) ?_
    refine WL_guardOn rfl rfl ?_
    refine WL_v rfl (ov_move rfl) ?_
    refine WL_guardOn rfl rfl ?_
    refine WL_call rfl rfl cf_spec_l6In (hli hH2) ?_; rintro _ w3 ⟨rfl, hH3⟩
    refine WL_guardOn rfl rfl ?_
    refine WL_v rfl (ov_not rfl) ?_
    refine WL_v rfl (ov_pickF rfl rfl) ?_
    refine WL_nil ?_
    refine WT_condT rfl ?_
    refine WT_seq ?_
    refine WT_region ?_
    refine WL_v rfl (ov_build rfl run_build_crew0) ?_
    refine WL_storeN hH3 rfl rfl (i := 0) rfl rfl rfl (ones_cons rfl (ones_cons rfl (ones_cons rfl (ones_cons rfl ones_nil)))) sz_impl_Crew ?_; rintro w4 hH4
    refine WL_v rfl (ov_assign rfl) ?_
    refine WL_nil ?_
    exact WT_retCT Try.func7 Try.results7 rfl rfl (lvCrew (i := 0) (dv := nilV) (cv := nilV) (nv := nilV) (rv := nilV) rfl hH4) ⟨rfl, hH4.drop⟩
  · skip
    have hv' : planOk p = false := by simpa using hv
    rw [hv'] at hsv
    refine WL_call rfl rfl cf_spec_PlanValid (hsv hH1) ?_; rintro _ w2 ⟨rfl, hH2⟩
    refine WL_v rfl (ov_not rfl) ?_
    refine WL_v rfl (ov_move rfl) ?_
    refine WL_guardOff rfl rfl rfl rfl ?_
    refine WL_guardOff rfl rfl rfl rfl ?_
    refine WL_guardOff rfl rfl rfl rfl ?_
    refine WL_v rfl (ov_pickT rfl rfl) ?_
    refine WL_nil ?_
    refine WT_condT rfl ?_
    refine WT_seq ?_
    refine WT_region ?_
    refine WL_v rfl (ov_build rfl run_build_crew0) ?_
    refine WL_storeN hH2 rfl rfl (i := 0) rfl rfl rfl (ones_cons rfl (ones_cons rfl (ones_cons rfl (ones_cons rfl ones_nil)))) sz_impl_Crew ?_; rintro w4 hH4
    refine WL_v rfl (ov_assign rfl) ?_
    refine WL_nil ?_
    exact WT_retCT Try.func7 Try.results7 rfl rfl (lvCrew (i := 0) (dv := nilV) (cv := nilV) (nv := nilV) (rv := nilV) rfl hH4) ⟨rfl, hH4.drop⟩

end
end Go.Proofs.Yteagnhdhafiofaa

/- Walks: CrewNew (impl), and crews that are the same. -/
namespace Go.Proofs.Yteagnhdhafiofaa
open Go.RowKit

section
variable {h : GH} {Ls : List Heaplet} {w : World}

theorem sameCrew_same (hH : H w h Ls) {dv cv nv rv dv2 cv2 nv2 rv2 : Value} {c : Cr} (hA : ∀ Ms, RdCr h (Ms ++ Ls) dv cv nv rv c) (hB : ∀ Ms, RdCr h (Ms ++ Ls) dv2 cv2 nv2 rv2 c) : Rets Try.prog 8 #[crV dv cv nv rv, crV dv2 cv2 nv2 rv2] w fun v w' => v = .bool true ∧ H w' h Ls := by
  obtain ⟨A2, c2, rfl, _⟩ := (hA []).dq.sl.form
  obtain ⟨A3, c3, rfl, _⟩ := (hA []).ct.sl.form
  obtain ⟨A4, c4, rfl, _⟩ := (hA []).dn.sl.form
  obtain ⟨A5, c5, rfl, _⟩ := (hA []).rw.sl.form
  obtain ⟨B2, d2, rfl, _⟩ := (hB []).dq.sl.form
  obtain ⟨B3, d3, rfl, _⟩ := (hB []).ct.sl.form
  obtain ⟨B4, d4, rfl, _⟩ := (hB []).dn.sl.form
  obtain ⟨B5, d5, rfl, _⟩ := (hB []).rw.sl.form
  have e1 := fun {w : World} {Ms : List Heaplet} (hH : H w h (Ms ++ Ls)) => sameRows_ok hH (hA _).dq (hB _).dq
  have e2 := fun {w : World} {Ms : List Heaplet} (hH : H w h (Ms ++ Ls)) => sameRow_ok hH (hA _).ct (hB _).ct
  have e3 := fun {w : World} {Ms : List Heaplet} (hH : H w h (Ms ++ Ls)) => sameRow_ok hH (hA _).dn (hB _).dn
  have e4 := fun {w : World} {Ms : List Heaplet} (hH : H w h (Ms ++ Ls)) => sameRows_ok hH (hA _).rw (hB _).rw
  rw [decide_eq_true rfl] at e1 e2 e3 e4
  refine rets_enter Try.func8 rfl Try.ntmps8 (by simp) ?_
  refine WT_seq ?_
  refine WT_region ?_
  refine WL_box _ rfl hH rfl rfl ?_; rintro b1 w1 hH1
  refine WL_box _ rfl hH1 rfl rfl ?_; rintro b2 w2 hH2; replace hH2 : H w2 h ([crbox b2 (.slice B2 c.dq.length d2) (.slice B3 c.ct.length d3) (.slice B4 c.dn.length d4) (.slice B5 c.rw.length d5), crbox b1 (.slice A2 c.dq.length c2) (.slice A3 c.ct.length c3) (.slice A4 c.dn.length c4) (.slice A5 c.rw.length c5)] ++ Ls) := hH2
  refine WL_v rfl (ov_assign rfl) ?_
  refine WL_nil ?_
  refine WT_seq ?_
  refine WT_region ?_
  refine WL_v rfl (ov_field rfl fo_impl_Crew_0) ?_
  refine WL_v rfl (ov_load rfl one_sl_sl_int (hH2.cb 1 rfl 0)) ?_
  refine WL_v rfl (ov_field rfl fo_impl_Crew_0) ?_
  refine WL_v rfl (ov_load rfl one_sl_sl_int (hH2.cb 0 rfl 0)) ?_
  refine WL_call rfl rfl cf_laws_sameRows (e1 hH2) ?_; rintro _ w3 ⟨rfl, hH3⟩
  refine WL_v rfl (ov_move rfl) ?_
  refine WL_guardOn rfl rfl ?_
  refine WL_v rfl (ov_field rfl fo_impl_Crew_1) ?_
  refine WL_guardOn rfl rfl ?_
  refine WL_v rfl (ov_load rfl one_sl_int (hH3.cb 1 rfl 1)) ?_
  refine WL_guardOn rfl rfl ?_
  refine WL_v rfl (ov_field rfl fo_impl_Crew_1) ?_
  refine WL_guardOn rfl rfl ?_
  refine WL_v rfl (ov_load rfl one_sl_int (hH3.cb 0 rfl 1)) ?_
  refine WL_guardOn rfl rfl ?_
  refine WL_call rfl rfl cf_laws_sameRow (e2 hH3) ?_; rintro _ w4 ⟨rfl, hH4⟩
  refine WL_v rfl (ov_pickT rfl rfl) ?_
  refine WL_v rfl (ov_move rfl) ?_
  refine WL_guardOn rfl rfl ?_
  refine WL_v rfl (ov_field rfl fo_impl_Crew_2) ?_
  refine WL_guardOn rfl rfl ?_
  refine WL_v rfl (ov_load rfl one_sl_int (hH4.cb 1 rfl 2)) ?_
  refine WL_guardOn rfl rfl ?_
  refine WL_v rfl (ov_field rfl fo_impl_Crew_2) ?_
  refine WL_guardOn rfl rfl ?_
  refine WL_v rfl (ov_load rfl one_sl_int (hH4.cb 0 rfl 2)) ?_
  refine WL_guardOn rfl rfl ?_
  refine WL_call rfl rfl cf_laws_sameRow (e3 hH4) ?_; rintro _ w5 ⟨rfl, hH5⟩
  refine WL_v rfl (ov_pickT rfl rfl) ?_
  refine WL_v rfl (ov_move rfl) ?_
  refine WL_guardOn rfl rfl ?_
  refine WL_v rfl (ov_field rfl fo_impl_Crew_3) ?_
  refine WL_guardOn rfl rfl ?_
  refine WL_v rfl (ov_load rfl one_sl_sl_int (hH5.cb 1 rfl 3)) ?_
  refine WL_guardOn rfl rfl ?_
  refine WL_v rfl (ov_field rfl fo_impl_Crew_3) ?_
  refine WL_guardOn rfl rfl ?_
  refine WL_v rfl (ov_load rfl one_sl_sl_int (hH5.cb 0 rfl 3)) ?_
  refine WL_guardOn rfl rfl ?_
  refine WL_call rfl rfl cf_laws_sameRows (e4 hH5) ?_; rintro _ w6 ⟨rfl, hH6⟩
  refine WL_v rfl (ov_pickT rfl rfl) ?_
  refine WL_v rfl (ov_assign rfl) ?_
  refine WL_nil ?_
  exact WT_ret1 Try.func8 Try.results8 rfl ⟨rfl, hH6.drop.drop⟩

theorem st_sl_impl_deque_int : SlT Try.prog 44 48 1 24 [.slice none 0 0] := SlT_of (.agg #[.slice none 0 0]) (by kernel_rfl) (by kernel_rfl) rfl rfl
theorem zero_deque (W : World) : (zeroValue 48).run Try.prog W = .ok (.agg #[.slice none 0 0]) W := by kernel_rfl
theorem run_build_13' (a b : Option Addr) (n m c d : Nat) (W : World) : (Instr.build 29 #[(1, .slice a n c), (3, .slice b m d)]).run Try.prog W = .ok (.agg #[.slice none 0 0, .slice a n c, .slice none 0 0, .slice b m d]) W := by kernel_rfl
theorem run_build_13 {u v : Value} {n m : Nat} (hu : Sl u n) (hv : Sl v m) (W : World) : (Instr.build 29 #[(1, u), (3, v)]).run Try.prog W = .ok (.agg #[.slice none 0 0, u, .slice none 0 0, v]) W := by
  obtain ⟨a, c, rfl, _⟩ := hu.form
  obtain ⟨b, d, rfl, _⟩ := hv.form
  exact run_build_13' _ _ _ _ _ _ W
theorem H.nils {A : List Heaplet} (n : Nat) (hH : H w h (A ++ Ls)) : H w h (A ++ (List.replicate n [] ++ Ls)) := by
  unfold H at *
  simpa using hH
theorem ols_set {Is : List Heaplet} {xs : List Value} {ls : List (List Int)} {k : Nat} {F : Heaplet} {u : Value} {l : List Int} (hk : k < ls.length) (hil : Is.length = ls.length) (hxl : xs.length = ls.length) (hat : ∀ i (hi : i < ls.length), OLAt Is xs i ls[i]) (hF : IRow F 3 u l) :
    ∀ i (hi : i < (ls.set k l).length), OLAt (Is.set k F) (xs.set k u) i (ls.set k l)[i] := fun i hi => by
  have hi' : i < ls.length := by simpa using hi
  by_cases h : k = i
  · subst h
    exact ⟨u, F, by rw [List.getElem?_set, if_pos rfl, if_pos (by omega)], by rw [List.getElem?_set, if_pos rfl, if_pos (by omega)], by rw [List.getElem_set, if_pos rfl]; exact hF⟩
  · obtain ⟨v, G, e1, e2, e3⟩ := hat i hi'
    exact ⟨v, G, by rw [List.getElem?_set, if_neg h]; exact e1, by rw [List.getElem?_set, if_neg h]; exact e2, by rw [List.getElem_set, if_neg h]; exact e3⟩

theorem push_ok (hH : H w h Ls) {io jf n m : Nat} {O F : Heaplet} {ov u : Value} {xs : List Value} {l : List Int} {a : Int} (hO : Row O 48 1 ov n xs) (hio : Ls[io]? = some O) (hm : xs[m]? = some u) (hF : IRow F 3 u l) (hjf : Ls[jf]? = some F) (hne : io ≠ jf) (hl : l.length ≤ 1000) :
    Rets Try.prog 20 #[.pointer (some ((slA ov).add (m * 1))), .int .i64 a] w fun _ w' => ∃ F' u' O', IRow F' 3 u' (l ++ [a]) ∧ Row O' 48 1 ov n (xs.set m u') ∧ H w' h ((Ls.set io O').set jf F') := by
  have hml : m < xs.length := (List.getElem?_eq_some_iff.1 hm).1
  have hcell : w.cell? (((slA ov).add (m * 1)).add 0) = some u := by
    rw [add_add, Nat.mul_one]
    exact hO.cell hH hio hm
  refine rets_enter Try.func20 rfl Try.ntmps20 (by simp) ?_
  refine WT_region ?_
  refine WL_v rfl (ov_move rfl) ?_
  refine WL_v rfl (ov_move rfl) ?_
  refine WL_v rfl (ov_nilCheck rfl) ?_
  refine WL_v rfl (ov_field rfl fo_impl_deque_int_0) ?_
  refine WL_v rfl (ov_load rfl one_sl_int (hcell)) ?_
  refine WL_v rfl (ov_move rfl) ?_
  refine WL_bsI rfl hH rfl (run_bs_int _) ?_; rintro Z zv w2 hZ hH2
  refine WL_appI (i := jf + 1) (j := 0) rfl hH2 rfl rfl st_sl_int hjf hF rfl hZ (by simp; omega) (by simp; omega) ?_; rintro F2 u2 w3 hF2 hH3
  refine WL_v rfl (ov_nilCheck rfl) ?_
  refine WL_v rfl (ov_field rfl fo_impl_deque_int_0) ?_
  refine WL_storeRow (j := m * 1) hH3 rfl rfl (i := io + 1) (by show (Ls.set jf F2)[io]? = some O; rw [List.getElem?_set, if_neg hne.symm]; exact hio) hO (by omega) hF2.sl.one sz_sl_int ?_; rintro O2 w4 hO2 hH4; rw [Nat.mul_one] at hO2
  refine WL_nil ?_
  have hH5 : H w4 h (Z :: ((Ls.set jf F2).set io O2)) := hH4
  rw [List.set_comm _ _ hne.symm] at hH5
  exact WT_end0 Try.func20 Try.results20 ⟨F2, u2, O2, hF2, hO2, hH5.drop⟩

set_option maxHeartbeats 2000000 in
theorem crewNew_yes (hH : H w h Ls) {pv : Value} {p : List Nd} (hP : Plan h pv p) (hv : planOk p = true) {n : Nat} (hn : 1 ≤ n ∧ n ≤ 4) : Rets Try.prog 6 #[pv, .int .i64 (n : Int)] w fun v w' => ∃ dv cv nv rv, v = .tuple #[crV dv cv nv rv, .bool true] ∧ OwnCr h Ls (newCr p n) dv cv nv rv w' := by
  have hlen := PlanOk.len hv
  have hrl := readyI_len_le p []
  have hpv := fun {w : World} {Ls : List Heaplet} (hH : H w h Ls) => planValid_ok hH hP
  rw [hv] at hpv
  have hwf := fun {w : World} {Ls : List Heaplet} (hH : H w h Ls) => workersFit_ok hH (n : Int)
  rw [decide_eq_true (show 1 ≤ (n : Int) ∧ (n : Int) ≤ 4 by omega)] at hwf
  refine rets_enter Try.func6 rfl Try.ntmps6 (by simp) ?_
  refine WT_seq ?_
  refine WT_region ?_
  refine WL_alloc _ rfl hH zero_crew rfl ?_; rintro g4 w1 hH1
  refine WL_v rfl (ov_assign rfl) ?_
  refine WL_nil ?_
  refine WT_seq ?_
  refine WT_seq ?_
  refine WT_region ?_
  refine WL_v rfl (ov_move rfl) ?_
  refine WL_call rfl rfl cf_impl_PlanValid (hpv hH1) ?_; rintro _ w2 ⟨rfl, hH2⟩
  refine WL_v rfl (ov_not rfl) ?_
  refine WL_v rfl (ov_move rfl) ?_
  refine WL_guardOn rfl rfl ?_
  refine WL_v rfl (ov_move rfl) ?_
  refine WL_guardOn rfl rfl ?_
  refine WL_call rfl rfl cf_impl_workersFit (hwf hH2) ?_; rintro _ w3 ⟨rfl, hH3⟩
  refine WL_guardOn rfl rfl ?_
  refine WL_v rfl (ov_not rfl) ?_
  refine WL_v rfl (ov_pickF rfl rfl) ?_
  refine WL_nil ?_
  refine WT_condF rfl ?_
  refine WT_skip ?_
  refine WT_seq ?_
  refine WT_region ?_
  refine WL_v rfl (ov_move rfl) ?_
  refine WL_make (sz := 1) (n := n) (c := n) rfl hH3 rfl rfl st_sl_impl_deque_int (by omega) (by omega) (by omega) (by omega) ?_; rintro O0 ov w4 hO0 hH4
  refine WL_v rfl (ov_assign rfl) ?_
  refine WL_nil ?_
  refine WT_seq ?_
  refine WT_region ?_
  refine WL_v rfl (ov_move rfl) ?_
  refine WL_call rfl rfl cf_impl_CountsOf (countsOf_ok hH4 hP) ?_; rintro xv w5 ⟨X, hX, hH5⟩
  refine WL_v rfl (ov_assign rfl) ?_
  refine WL_nil ?_
  refine WT_seq ?_
  refine WT_seq ?_
  refine WT_region ?_
  refine WL_v rfl (ov_move rfl) ?_
  rw [countsOf, if_pos hv, countsL_cnt] at hX
  rw [List.flatten_replicate_singleton] at hO0
  refine WL_call rfl rfl cf_impl_CountsReady (countsReady_ok hH5 (hX.rdl (i := 0) rfl) (by rw [cntL_len]; omega)) ?_; rintro qv w6 ⟨Q, hQ, hH6⟩
  rw [zeros_first hv] at hQ
  have hH7 : H w6 h ([Q, O0, X, cz9 g4] ++ Ls) := hH6.perm (.cons _ (.swap _ _ _))
  refine WL_v rfl (ov_len rfl hQ.sl st_sl_int) ?_
  refine WL_v rfl (ov_move rfl) ?_
  refine WL_nil ?_
  refine WT_block ?_
  refine WT_while (fun s : Nat => [(0, pv), (1, .int .i64 (n : Int)), (4, ptr g4), (6, ov), (7, xv), (27, qv), (28, .int .i64 ((readyI p []).length : Int)), (29, .int .i64 (s : Int))]) (fun s w => s ≤ (readyI p []).length ∧ ∃ O Is xs, Row O 48 1 ov n xs ∧ Is.length = n ∧ (∀ i (hi : i < (dealL (readyI p []) n s).length), OLAt Is xs i (dealL (readyI p []) n s)[i]) ∧ H w h (Q :: O :: X :: cz9 g4 :: (Is ++ Ls))) (fun s => (readyI p []).length - s) 0 (by repeat (first | exact trivial | refine ⟨rfl, ?_⟩)) ⟨by omega, O0, List.replicate n [], _, hO0, by simp, fun i hi => ⟨nilV, [], by
      rw [dealL_len] at hi; rw [List.getElem?_replicate, if_pos hi], by rw [dealL_len] at hi; rw [List.getElem?_replicate, if_pos hi], by
      have e : (dealL (readyI p []) n 0)[i] = [] := by simp [dealL_zero]
      rw [e]; exact IRow.nil _⟩, H.nils n hH7⟩ ?_
  clear hH hH1 hH2 hH3 hH4 hH5 hH6 hH7 hO0
  rintro s w6 ⟨hs, O, Is, xs, hO, hil, hat, hH⟩ again
  refine WT_seq ?_
  refine WT_region ?_
  refine WL_v rfl (ov_lss rfl rfl) ?_
  refine WL_nil ?_
  refine WT_seq ?_
  refine WT_cond rfl (fun hc => ?_) (fun hc => ?_)
  · skip
    first | with_reducible replace hc := of_decide_eq_true hc | with_reducible replace hc := bn_T hc | with_reducible replace hc := bb_T hc | skip
    have hsr : s < (readyI p []).length := by omega
    have hdl := dealL_len (readyI p []) n s
    have hmk : s % n < n := Nat.mod_lt _ (by omega)
    have hmd : s % n < (dealL (readyI p []) n s).length := by omega
    have hmod : ((s : Nat) : Int) % ((n : Nat) : Int) = ((s % n : Nat) : Int) := (Int.natCast_emod s n).symm
    have hfl := deal_flat (L := readyI p []) (w := n) (by omega) hs
    have hfl2 : (dealL (readyI p []) n s)[s % n].length ≤ 10 := by
      have h1 := len_flat hmd
      have h2 := hfl.length_eq
      rw [List.length_take] at h2
      omega
    have hxl := hO.len
    obtain ⟨u, F, e1, e2, e3⟩ := hat _ hmd
    refine WT_skip ?_
    refine WT_seq ?_
    refine WT_block ?_
    refine WT_seq ?_
    refine WT_region ?_
    refine WL_v rfl (ov_move rfl) ?_
    refine WL_v rfl (ov_index rfl rfl st_sl_int hQ.sl hsr) ?_
    refine WL_v rfl (ov_load rfl one_int ((hQ.cell hH (i := 0) rfl hsr))) ?_
    refine WL_v rfl (ov_assign rfl) ?_
    refine WL_v rfl (ov_assign rfl) ?_
    refine WL_nil ?_
    refine WT_region ?_
    refine WL_v rfl (ov_move rfl) ?_
    refine WL_v rfl (ov_move rfl) ?_
    refine WL_v rfl (ov_move rfl) ?_
    refine WL_v rfl (ov_as (ov_rem rfl rfl (by omega) (by omega)) (congrArg (Value.int .i64) hmod)) ?_
    refine WL_v rfl (ov_index rfl rfl st_sl_impl_deque_int hO.sl hmk) ?_
    refine WL_v rfl (ov_move rfl) ?_
    refine WL_call rfl rfl cf_p_impl_deque_int_push (push_ok hH hO (io := 1) rfl e1 e3 (at_mid (A := [Q, O, X, cz9 g4]) e2) (by simp; omega) (by omega)) ?_; rintro _ w7 ⟨F2, u2, O2, hF2, hO2, hH7⟩; replace hH7 := hH7.setMid (A := [Q, O2, X, cz9 g4]) (by omega)
    refine WL_nil ?_
    refine WT_inBlock ?_
    refine WT_region ?_
    refine WL_v rfl (ov_add rfl rfl (by omega)) ?_
    refine WL_v rfl (ov_move rfl) ?_
    refine WL_nil ?_
    refine again (s + 1) _ _ (by omega) (by repeat (first | exact trivial | refine ⟨rfl, ?_⟩)) ⟨by omega, O2, Is.set (s % n) F2, _, hO2, by simp [hil], ?_, hH7⟩
    rw [dealL_succ (by omega) hsr hmd]
    exact ols_set hmd (by omega) (by omega) hat hF2
  first | with_reducible replace hc := of_decide_eq_false hc | with_reducible replace hc := bn_F hc | with_reducible replace hc := bb_F hc | skip
  obtain rfl : s = (readyI p []).length := by omega
  clear again
  have hdl := dealL_len (readyI p []) n (readyI p []).length
  have hxl := hO.len
  refine WT_exit rfl ?_
  refine WT_seq ?_
  refine WT_region ?_
  refine WL_v rfl (ov_move rfl) ?_
  refine WL_v rfl (ov_move rfl) ?_
  refine WL_v rfl (ov_len rfl hP.sl st_sl_impl_Node) ?_
  refine WL_make (sz := 1) (n := p.length) (c := p.length) rfl hH rfl rfl st_sl_sl_int (by omega) (by omega) (by omega) (by omega) ?_; rintro R rv w7 hR hH7
  refine WL_v rfl (ov_build rfl (run_build_13 hX.sl hR.sl)) ?_
  refine WL_alloc _ rfl hH7 zero_crew rfl ?_; rintro g w8 hH8
  refine WL_storeN hH8 rfl rfl (i := 0) rfl rfl rfl (ones_cons rfl (ones_cons hX.sl.one (ones_cons rfl (ones_cons hR.sl.one ones_nil)))) sz_impl_Crew ?_; rintro w9 hH9
  refine WL_nil ?_
  refine WT_seq ?_
  refine WT_seq ?_
  refine WT_region ?_
  refine WL_v rfl (ov_move rfl) ?_
  rw [List.flatten_replicate_singleton] at hR
  refine WL_v rfl (ov_len rfl hO.sl st_sl_impl_deque_int) ?_
  refine WL_v rfl (ov_move rfl) ?_
  refine WL_nil ?_
  refine WT_block ?_
  refine WT_while (fun s : Nat => [(4, ptr g4), (10, ptr g), (47, ov), (48, .int .i64 (n : Int)), (49, .int .i64 (s : Int))]) (fun s w => s ≤ n ∧ ∃ dv D, Row D 27 1 dv s (xs.take s) ∧ H w h (crbox g dv xv nilV rv :: D :: R :: Q :: O :: X :: cz9 g4 :: (Is ++ Ls))) (fun s => n - s) 0 (by repeat (first | exact trivial | refine ⟨rfl, ?_⟩)) ⟨by omega, nilV, [], by rw [List.take_zero]; exact Row.nil _ _, hH9.nilIn.swap⟩ ?_
  clear hH hH7 hH8 hH9
  rintro k w6 ⟨hk, dv, D, hD, hH⟩ again
  refine WT_seq ?_
  refine WT_region ?_
  refine WL_v rfl (ov_lss rfl rfl) ?_
  refine WL_nil ?_
  refine WT_seq ?_
  refine WT_cond rfl (fun hc2 => ?_) (fun hc2 => ?_)
  · skip
    first | with_reducible replace hc2 := of_decide_eq_true hc2 | with_reducible replace hc2 := bn_T hc2 | with_reducible replace hc2 := bb_T hc2 | skip
    have hkn : k < n := by omega
    obtain ⟨u, F, e1, e2, e3⟩ := hat k (by omega)
    have hul := e3.sl.one
    have hld : ∀ j v, [u][j]? = some v → w6.cell? (((slA ov).add (k * 1)).add j) = some v := fun j v hj => by
      match j, hj with
      | 0, hj =>
        obtain rfl : u = v := by simpa using hj
        rw [add_add, Nat.mul_one]
        exact hO.cell hH (i := 4) rfl e1
    obtain ⟨At, ct, htv, _⟩ := e3.sl.form
    refine WT_skip ?_
    refine WT_seq ?_
    refine WT_block ?_
    refine WT_seq ?_
    refine WT_region ?_
    refine WL_v rfl (ov_index rfl rfl st_sl_impl_deque_int hO.sl hkn) ?_
    refine WL_v rfl (ov_loadN [u] rfl agg_impl_deque_int rfl ((hld))) ?_
    refine WL_alloc _ rfl hH zero_deque rfl ?_; rintro g12 w7 hH7
    refine WL_storeN hH7 rfl rfl (i := 0) rfl rfl rfl (ones_cons hul ones_nil) sz_impl_deque_int ?_; rintro w8 hH8
    refine WL_nil ?_
    refine WT_region ?_
    refine WL_v rfl (ov_field rfl fo_impl_Crew_0) ?_
    refine WL_v rfl (ov_load rfl one_sl_sl_int (hH8.cb 1 rfl 0)) ?_
    refine WL_v rfl (ov_field rfl fo_impl_deque_int_0) ?_
    refine WL_v rfl (ov_load rfl one_sl_int (hH8.cb 0 rfl 0)) ?_
    refine WL_buildSlice (sz := 1) [u] rfl hH8 rfl (fun W => by rw [htv]; exact run_bs_sl1 _ _ _ W) rfl (by omega) ?_; rintro Z zv w9 hZ hH9
    refine WL_append1 (i := 3) (j := 0) (n := k) (m := 1) rfl hH9 rfl rfl st_sl_sl_int (by omega) rfl hD rfl hZ (ones_cons hul ones_nil) (by omega) (by omega) ?_; rintro D2 dv2 w10 hD2 hH10
    refine WL_v rfl (ov_field rfl fo_impl_Crew_0) ?_
    refine WL_store hH10 rfl rfl (i := 2) (off := 0) rfl rfl (by exact Nat.zero_lt_succ _) hD2.sl.one sz_sl_sl_int ?_; rintro w11 hH11
    refine WL_nil ?_
    refine WT_inBlock ?_
    refine WT_region ?_
    refine WL_v rfl (ov_add rfl rfl (by omega)) ?_
    refine WL_v rfl (ov_move rfl) ?_
    refine WL_nil ?_
    refine again (k + 1) _ _ (by omega) (by repeat (first | exact trivial | refine ⟨rfl, ?_⟩)) ⟨by omega, dv2, D2, ?_, hH11.drop.drop⟩
    have hkx : k < xs.length := by omega
    have e4 : xs[k] = u := by rw [List.getElem?_eq_getElem hkx] at e1; exact Option.some.inj e1
    rw [List.take_succ_eq_append_getElem hkx, e4]
    exact hD2
  first | with_reducible replace hc2 := of_decide_eq_false hc2 | with_reducible replace hc2 := bn_F hc2 | with_reducible replace hc2 := bb_F hc2 | skip
  obtain rfl : k = n := by omega
  rw [List.take_of_length_le (by omega)] at hD
  refine WT_exit rfl ?_
  refine WT_seq ?_
  refine WT_region ?_
  refine WL_v rfl (ov_loadN [dv, xv, nilV, rv] rfl agg_impl_Crew rfl ((loadCrew (i := 0) rfl hH))) ?_
  refine WL_storeN hH rfl rfl (i := 6) rfl rfl rfl (ones_cons hD.sl.one (ones_cons hX.sl.one (ones_cons rfl (ones_cons hR.sl.one ones_nil)))) sz_impl_Crew ?_; rintro w7 hH7
  refine WL_v rfl (ov_assign rfl) ?_
  refine WL_nil ?_
  have hH8 : H w7 h ([X, [], D, R] ++ (Is ++ Ls)) := ((((hH7.del 6 rfl).del 4 rfl).del 3 rfl).drop.pull 2 rfl).nilIn.swap
  have hH9 : H w7 h (X :: [] :: D :: R :: (Is ++ (List.replicate p.length [] ++ Ls))) := by
    have := H.nils (A := [X, [], D, R] ++ Is) (Ls := Ls) p.length (by simpa using hH8)
    simpa using this
  exact WT_retCT Try.func6 Try.results6 rfl rfl (lvCrew (i := 6) (dv := dv) (cv := xv) (nv := nilV) (rv := rv) rfl hH7) ⟨dv, xv, nilV, rv, rfl, X, [], D, R, Is, List.replicate p.length [], ⟨hX, IRow.nil _, ⟨by rw [hil]; exact hdl.symm, xs, by rw [show (newCr p k).dq.length = k from hdl]; exact hD, hat⟩, ⟨by simp [newCr], _, by rw [show (newCr p k).rw.length = p.length by simp [newCr]]; exact hR, fun i hi => ⟨nilV, [], by
      have hi' : i < p.length := by simpa [newCr] using hi
      rw [List.getElem?_replicate, if_pos hi'], by
      have hi' : i < p.length := by simpa [newCr] using hi
      rw [List.getElem?_replicate, if_pos hi'], by
      have e : (newCr p k).rw[i] = [] := by simp [newCr]
      rw [e]; exact IRow.nil _⟩⟩⟩, hH9⟩

theorem crewNew_no (hH : H w h Ls) {pv : Value} {p : List Nd} (hP : Plan h pv p) {n : Int} (hb : ¬ (planOk p = true ∧ 1 ≤ n ∧ n ≤ 4)) : Rets Try.prog 6 #[pv, .int .i64 n] w fun v w' => v = .tuple #[crV nilV nilV nilV nilV, .bool false] ∧ H w' h Ls := by
  have hpv := fun {w : World} {Ls : List Heaplet} (hH : H w h Ls) => planValid_ok hH hP
  refine rets_enter Try.func6 rfl Try.ntmps6 (by simp) ?_
  refine WT_seq ?_
  refine WT_region ?_
  refine WL_alloc _ rfl hH zero_crew rfl ?_; rintro g4 w1 hH1
  refine WL_v rfl (ov_assign rfl) ?_
  refine WL_nil ?_
  refine WT_seq ?_
  refine WT_seq ?_
  refine WT_region ?_
  refine WL_v rfl (ov_move rfl) ?_
  by_cases hv : planOk p = true
  · skip
    rw [hv] at hpv
    have hwf := fun {w : World} {Ls : List Heaplet} (hH : H w h Ls) => workersFit_ok hH n
    rw [decide_eq_false (fun hh => hb ⟨hv, hh⟩)] at hwf
    refine WL_call rfl rfl cf_impl_PlanValid (hpv hH1) ?_; rintro _ w2 ⟨rfl, hH2⟩
    refine WL_v rfl (ov_not rfl) ?_
    refine WL_v rfl (ov_move rfl) ?_
    refine WL_guardOn rfl rfl ?_
    refine WL_v rfl (ov_move rfl) ?_
    refine WL_guardOn rfl rfl ?_
    refine WL_call rfl rfl cf_impl_workersFit (hwf hH2) ?_; rintro _ w3 ⟨rfl, hH3⟩
    refine WL_guardOn rfl rfl ?_
    refine WL_v rfl (ov_not rfl) ?_
    refine WL_v rfl (ov_pickF rfl rfl) ?_
    refine WL_nil ?_
    refine WT_condT rfl ?_
    refine WT_seq ?_
    refine WT_region ?_
    refine WL_v rfl (ov_build rfl run_build_crew0) ?_
    refine WL_storeN hH3 rfl rfl (i := 0) rfl rfl rfl (ones_cons rfl (ones_cons rfl (ones_cons rfl (ones_cons rfl ones_nil)))) sz_impl_Crew ?_; rintro w4 hH4
    refine WL_v rfl (ov_assign rfl) ?_
    refine WL_nil ?_
    exact WT_retCT Try.func6 Try.results6 rfl rfl (lvCrew (i := 0) (dv := nilV) (cv := nilV) (nv := nilV) (rv := nilV) rfl hH4) ⟨rfl, hH4.drop⟩
  · skip
    have hv' : planOk p = false := by simpa using hv
    rw [hv'] at hpv
    refine WL_call rfl rfl cf_impl_PlanValid (hpv hH1) ?_; rintro _ w2 ⟨rfl, hH2⟩
    refine WL_v rfl (ov_not rfl) ?_
    refine WL_v rfl (ov_move rfl) ?_
    refine WL_guardOff rfl rfl rfl rfl ?_
    refine WL_guardOff rfl rfl rfl rfl ?_
    refine WL_guardOff rfl rfl rfl rfl ?_
    refine WL_v rfl (ov_pickT rfl rfl) ?_
    refine WL_nil ?_
    refine WT_condT rfl ?_
    refine WT_seq ?_
    refine WT_region ?_
    refine WL_v rfl (ov_build rfl run_build_crew0) ?_
    refine WL_storeN hH2 rfl rfl (i := 0) rfl rfl rfl (ones_cons rfl (ones_cons rfl (ones_cons rfl (ones_cons rfl ones_nil)))) sz_impl_Crew ?_; rintro w4 hH4
    refine WL_v rfl (ov_assign rfl) ?_
    refine WL_nil ?_
    exact WT_retCT Try.func6 Try.results6 rfl rfl (lvCrew (i := 0) (dv := nilV) (cv := nilV) (nv := nilV) (rv := nilV) rfl hH4) ⟨rfl, hH4.drop⟩
end
end Go.Proofs.Yteagnhdhafiofaa

/- Walks: turns: the reference. -/
namespace Go.Proofs.Yteagnhdhafiofaa
open Go.RowKit

theorem fromW_at {dq : List (List Int)} {w s : Nat} (hs : s < dq.length) (h1 : dq.getD ((w + s) % dq.length) [] ≠ []) (h2 : ∀ j, j < s → dq.getD ((w + j) % dq.length) [] = []) : fromW dq w = (((w + s) % dq.length : Nat) : Int) := by
  have : (List.range dq.length).find? (fun s => decide (dq.getD ((w + s) % dq.length) [] ≠ [])) = some s := List.find?_range_eq_some.2 ⟨decide_eq_true h1, List.mem_range.2 hs, fun j hj => by rw [decide_eq_false (fun hh => hh (h2 j hj))]; rfl⟩
  rw [fromW, this]
theorem fromW_none {dq : List (List Int)} {w : Nat} (h2 : ∀ j, j < dq.length → dq.getD ((w + j) % dq.length) [] = []) : fromW dq w = -1 := by
  have : (List.range dq.length).find? (fun s => decide (dq.getD ((w + s) % dq.length) [] ≠ [])) = none := List.find?_range_eq_none.2 fun j hj => by rw [decide_eq_false (fun hh => hh (h2 j hj))]; rfl
  rw [fromW, this]

section
variable {h : GH} {Ls : List Heaplet} {w : World}

theorem RdL.drop1 {v : Value} {xs : List Int} (hA : RdL h Ls v xs) (hk : 1 ≤ xs.length) : RdL h Ls (reslice v 1 xs.length 1) (xs.drop 1) :=
  ⟨by
    have := reslice_sl (sz := 1) hA.sl (lo := 1) (hi := xs.length) (by omega) (Nat.le_refl _)
    rw [List.length_drop]
    exact this, fun hH j hj => by
    rw [List.length_drop] at hj
    obtain ⟨h1, h2, h3⟩ := reslice_at (sz := 1) hA.sl (lo := 1) (hi := xs.length) (by omega) (Nat.le_refl _)
    obtain ⟨c, _, _, hsp⟩ := hA.sl.some (by omega)
    have h4 := hA.cell hH (j := j + 1) (by omega)
    rw [List.getElem_drop]
    have : (slA (reslice v 1 xs.length 1)).add (j * 1) = (slA v).add ((j + 1) * 1) := by
      rw [add_of h2, add_of hsp, h1, h3]
      congr 1
      omega
    rw [this, h4]
    congr 2
    simp [Nat.add_comm]⟩

end
end Go.Proofs.Yteagnhdhafiofaa
