/- Plain laws: a plan without nodes that do the same. -/
import Derived.Test.YtmcedghgincaaaaPlR
namespace Go.Proofs.Ytmcedghgincaaaa

/-- A node is the first one that does what it does. -/
def shB (fs : List Int) (i : Nat) : Bool := decide (fs.getD i 0 = (i : Int))
def shNum (fs : List Int) (i : Nat) : Nat := numK (shB fs) (fs.getD i 0).toNat
def shNode (fs : List Int) (x : Nd) : Nd := ⟨x.kind, x.frm.map fun f => ((shNum fs f.toNat : Nat) : Int), x.row⟩
def shTo (p : List Nd) (fs : List Int) (n : Nat) : List Nd := ((List.range n).filter (shB fs)).map fun i => shNode fs (p.getD i default)
theorem shTo_succ (p : List Nd) (fs : List Int) (n : Nat) : shTo p fs (n + 1) = shTo p fs n ++ if shB fs n = true then [shNode fs (p.getD n default)] else [] := by
  unfold shTo
  rw [List.range_succ, List.filter_append, List.map_append, List.filter_cons]
  by_cases h : shB fs n = true <;> simp [h]
theorem shTo_len (p : List Nd) (fs : List Int) (n : Nat) : (shTo p fs n).length = numK (shB fs) n := by simp [shTo, numK]
theorem shTo_getD {p : List Nd} {fs : List Int} {i : Nat} (hi : shB fs i = true) : ∀ {n : Nat}, i < n → (shTo p fs n).getD (numK (shB fs) i) default = shNode fs (p.getD i default)
  | n + 1, h => by
    rw [shTo_succ, List.getD_eq_getElem?_getD]
    rcases Nat.lt_or_ge i n with h1 | h1
    · rw [List.getElem?_append_left (by rw [shTo_len]; exact numK_lt h1 hi), ← List.getD_eq_getElem?_getD]
      exact shTo_getD hi h1
    · obtain rfl : i = n := by omega
      rw [List.getElem?_append_right (by rw [shTo_len]; exact Nat.le_refl _), shTo_len, if_pos hi, Nat.sub_self]
      rfl

section
variable {p : List Nd} {fs : List Int} {L : List (List Int × Int)}
theorem Shr.num (h : Shr p p.length fs L) {i : Nat} (hi : i < p.length) : ∃ j : Nat, fs.getD i 0 = (j : Int) ∧ j ≤ i ∧ shB fs j = true ∧ shNum fs i = numK (shB fs) j ∧ keyL (p.getD i default) fs = keyL (p.getD j default) fs := by
  obtain ⟨j, h1, h2, h3, h4⟩ := h.first hi
  exact ⟨j, h1, h2, decide_eq_true h3, by unfold shNum; rw [h1, Int.toNat_natCast], h4⟩
theorem shared_ok (hv : planOk p = true) (h : Shr p p.length fs L) : planOk (shTo p fs p.length) = true := by
  refine (planOk_iff _).2 ⟨by have := PlanOk.len hv; have := numK_le (shB fs) p.length; rw [shTo_len]; omega, fun j hj => ?_⟩
  have hj' := hj
  rw [shTo_len] at hj'
  obtain ⟨i, hi, hk, he⟩ := cut_at hj'
  have hx : (shTo p fs p.length)[j] = shNode fs (p.getD i default) := by rw [← getD_of hj, ← he]; exact shTo_getD hk hi
  rw [hx, getD_of hi]
  have hN := PlanOk.node hv hi
  have hfr := frm_pos hv hi
  rw [getD_of hi] at hfr
  refine nodeOk_of (by simpa [shNode] using hN.len) hN.row (fun g hg => ?_) (fun h0 => ?_) hN.none_
  · obtain ⟨f, hf, rfl⟩ := List.mem_map.1 hg
    have h1 := hfr f hf
    obtain ⟨u, _, h3, h4, h5, _⟩ := h.num (i := f.toNat) (by omega)
    have h2 := numK_lt (K := shB fs) (i := u) (j := i) (by omega) h4
    rw [h5]
    omega
  · refine (hN.wide h0).trans (wideOf_eq (W := wideOf p) (fun x hx => ?_) ⟨(shTo p fs p.length)[j], List.getElem_mem hj, ?_⟩).symm
    · obtain ⟨i2, hi2, rfl⟩ := List.mem_map.1 hx
      have hi3 := List.mem_range.1 (List.mem_filter.1 hi2).1
      intro hk2
      have := (PlanOk.node hv hi3).wide
      rw [← getD_of hi3] at this
      exact this hk2
    · rw [hx, getD_of hi]; exact h0
theorem keyA_of {x : Nd} {fs : List Int} {f : Int} {r : List Int} (hx : x.frm = f :: r) : keyA x fs = fs.getD f.toNat 0 := by unfold keyA; rw [hx]
theorem keyB_one {x : Nd} {fs : List Int} {f : Int} (hx : x.frm = [f]) : keyB x fs = -1 := by unfold keyB; rw [hx]
theorem keyB_two {x : Nd} {fs : List Int} {f g : Int} {r : List Int} (hx : x.frm = f :: g :: r) : keyB x fs = fs.getD g.toNat 0 := by unfold keyB; rw [hx]
theorem upOf_one (c : Int) (ps : List Int) (f : Int) : upOf c ps [f] = max 0 (ps.getD f.toNat 0 + c) := rfl
theorem upOf_two (c : Int) (ps : List Int) (f g : Int) : upOf c ps [f, g] = max (max 0 (ps.getD f.toNat 0 + c)) (ps.getD g.toNat 0 + c) := rfl
/-- Nodes that do the same have paths that cost the same. -/
theorem shared_path (hv : planOk p = true) (h : Shr p p.length fs L) : ∀ i, i < p.length → ∀ j : Nat, fs.getD i 0 = (j : Int) → (pathsTo p p.length).getD i 0 = (pathsTo p p.length).getD j 0 := by
  intro i
  induction i using Nat.strongRecOn with
  | _ i ih =>
    intro hi j hj
    obtain ⟨j2, h1, h2, h3, h4⟩ := h.first hi
    obtain rfl : j2 = j := by omega
    rcases Nat.lt_or_ge j2 i with hlt | hge
    case inr => rw [show i = j2 by omega]
    have hjp : j2 < p.length := by omega
    rw [pathsTo_getD hi, pathsTo_getD hjp]
    have hNi := PlanOk.node hv hi
    have hNj := PlanOk.node hv hjp
    rw [← getD_of hi] at hNi
    rw [← getD_of hjp] at hNj
    have hfi := frm_pos hv hi
    have hfj := frm_pos hv hjp
    have hk : (p.getD i default).kind = (p.getD j2 default).kind := by
      unfold keyL at h4
      exact (List.cons.inj h4).1
    have hl : (p.getD i default).frm.length = (p.getD j2 default).frm.length := by
      have e1 := hNi.len; have e2 := hNj.len; rw [hk] at e1; omega
    rw [hk]
    congr 1
    unfold keyL at h4
    have h5 := (List.cons.inj (List.cons.inj h4).2)
    have h6 := (List.cons.inj h5.2).1
    have h7 := h5.1
    have hAB : (keyA (p.getD i default) fs = keyA (p.getD j2 default) fs ∧ keyB (p.getD i default) fs = keyB (p.getD j2 default) fs) ∨ (keyA (p.getD i default) fs = keyB (p.getD j2 default) fs ∧ keyB (p.getD i default) fs = keyA (p.getD j2 default) fs) := by
      by_cases s1 : swapB (p.getD i default) fs = true <;> by_cases s2 : swapB (p.getD j2 default) fs = true
      · rw [if_pos s1, if_pos s2] at h6 h7; exact .inl ⟨h6, h7⟩
      · rw [if_pos s1, if_neg s2] at h6 h7; exact .inr ⟨h6, h7⟩
      · rw [if_neg s1, if_pos s2] at h6 h7; exact .inr ⟨h7, h6⟩
      · rw [if_neg s1, if_neg s2] at h6 h7; exact .inl ⟨h7, h6⟩
    have l2 := hNi.len2
    generalize hx : (p.getD i default).frm = a at *
    generalize hy : (p.getD j2 default).frm = b at *
    have hpi : ∀ f ∈ a, ∀ u : Nat, fs.getD f.toNat 0 = (u : Int) → (pathsTo p i).getD f.toNat 0 = (pathsTo p p.length).getD u 0 := fun f hf u hu => by
      have e := hfi f hf
      rw [← ih f.toNat (by omega) (by omega) u hu]
      exact progTo_same (by omega) (by omega)
    have hpj : ∀ f ∈ b, ∀ u : Nat, fs.getD f.toNat 0 = (u : Int) → (pathsTo p j2).getD f.toNat 0 = (pathsTo p p.length).getD u 0 := fun f hf u hu => by
      have e := hfj f hf
      rw [← ih f.toNat (by omega) (by omega) u hu]
      exact progTo_same (by omega) (by omega)
    match a, b, hl with
    | [], [], _ => rfl
    | [f], [g], _ =>
      have ef := hfi f (by simp)
      have eg := hfj g (by simp)
      obtain ⟨u, hu, _⟩ := h.first (i := f.toNat) (by omega)
      obtain ⟨v, hw, _⟩ := h.first (i := g.toNat) (by omega)
      have a1 := keyA_of (fs := fs) hx
      have a2 := keyA_of (fs := fs) hy
      have b1 := keyB_one (fs := fs) hx
      have b2 := keyB_one (fs := fs) hy
      obtain rfl : u = v := by omega
      rw [upOf_one, upOf_one, hpi f (by simp) u hu, hpj g (by simp) u hw]
    | [f, f2], [g, g2], _ =>
      have ef := hfi f (by simp)
      have eg := hfj g (by simp)
      have ef2 := hfi f2 (by simp)
      have eg2 := hfj g2 (by simp)
      obtain ⟨u, hu, _⟩ := h.first (i := f.toNat) (by omega)
      obtain ⟨v, hw, _⟩ := h.first (i := g.toNat) (by omega)
      obtain ⟨u2, hu2, _⟩ := h.first (i := f2.toNat) (by omega)
      obtain ⟨v2, hw2, _⟩ := h.first (i := g2.toNat) (by omega)
      have a1 := keyA_of (fs := fs) hx
      have a2 := keyA_of (fs := fs) hy
      have b1 := keyB_two (fs := fs) hx
      have b2 := keyB_two (fs := fs) hy
      rw [upOf_two, upOf_two, hpi f (by simp) u hu, hpj g (by simp) v hw, hpi f2 (by simp) u2 hu2, hpj g2 (by simp) v2 hw2]
      rcases (show (u = v ∧ u2 = v2) ∨ (u = v2 ∧ u2 = v) by omega) with ⟨rfl, rfl⟩ | ⟨rfl, rfl⟩
      · rfl
      · omega
    | _ :: _ :: _ :: _, _, _ => simp at l2
theorem shared_at (hv : planOk p = true) (h : Shr p p.length fs L) : ∀ i, i < p.length → shB fs i = true → (pathsTo (shTo p fs p.length) (shTo p fs p.length).length).getD (numK (shB fs) i) 0 = (pathsTo p p.length).getD i 0 := by
  intro i
  induction i using Nat.strongRecOn with
  | _ i ih =>
    intro hi hk
    have hfr := frm_pos hv hi
    have hj : numK (shB fs) i < (shTo p fs p.length).length := by rw [shTo_len]; exact numK_lt hi hk
    rw [pathsTo_getD hj, pathsTo_getD hi, shTo_getD hk hi]
    show upOf 0 _ ((p.getD i default).frm.map fun f => ((shNum fs f.toNat : Nat) : Int)) + _ = _
    rw [upOf_map]
    congr 1
    refine foldl_max_congr _ _ _ _ fun f hf => ?_
    have h1 := hfr f hf
    obtain ⟨u, hu, hle, hku, hnu, _⟩ := h.num (i := f.toNat) (by omega)
    have h2 := ih u (by omega) (by omega) hku
    have h3 := numK_lt (K := shB fs) (i := u) (j := i) (by omega) hku
    have h7 := shared_path hv h f.toNat (by omega) u hu
    rw [Int.toNat_natCast, hnu]
    have h4 : (pathsTo (shTo p fs p.length) (numK (shB fs) i)).getD (numK (shB fs) u) 0 = (pathsTo (shTo p fs p.length) (shTo p fs p.length).length).getD (numK (shB fs) u) 0 := progTo_same h3 (by omega)
    have h5 : (pathsTo p i).getD f.toNat 0 = (pathsTo p p.length).getD f.toNat 0 := progTo_same (by omega) (by omega)
    rw [h4, h5, h2, h7]
theorem shared_most (hv : planOk p = true) (h : Shr p p.length fs L) : mostOf (pathsTo (shTo p fs p.length) (shTo p fs p.length).length) ≤ mostOf (pathsTo p p.length) := by
  refine mostOf_le (mostOf_nonneg _) fun a ha => ?_
  obtain ⟨j, hj, rfl⟩ := List.mem_iff_getElem.1 ha
  have hj' := hj
  rw [pathsTo_len, shTo_len] at hj'
  obtain ⟨i, hi, hk, he⟩ := cut_at hj'
  rw [← getD_elem hj, ← he, shared_at hv h i hi hk]
  exact le_mostOf (getD_mem (by rw [pathsTo_len]; exact hi))
end
theorem sumTo_app (a b : List Nd) : ∀ k, k ≤ a.length → sumTo (a ++ b) k = sumTo a k
  | 0, _ => rfl
  | k + 1, h => by
    rw [sumTo, sumTo, sumTo_app a b k (by omega), List.getD_eq_getElem?_getD, List.getD_eq_getElem?_getD, List.getElem?_append_left (by omega)]
theorem shared_sum (p : List Nd) (fs : List Int) : ∀ n, sumTo (shTo p fs n) (shTo p fs n).length ≤ sumTo p n
  | 0 => by simp [shTo, sumTo]
  | n + 1 => by
    have ih := shared_sum p fs n
    have hc := kindCost_rg (p.getD n default).kind
    rw [shTo_succ, sumTo]
    by_cases h : shB fs n = true
    · rw [if_pos h, List.length_append]
      show sumTo (shTo p fs n ++ [shNode fs (p.getD n default)]) ((shTo p fs n).length + 1) ≤ _
      rw [sumTo, sumTo_app _ _ _ (Nat.le_refl _), List.getD_eq_getElem?_getD, List.getElem?_append_right (Nat.le_refl _), Nat.sub_self]
      show sumTo (shTo p fs n) (shTo p fs n).length + kindCost (p.getD n default).kind ≤ _
      omega
    · rw [if_neg h, List.append_nil]
      omega
end Go.Proofs.Ytmcedghgincaaaa
