/- Plain laws: until when rows are needed and who needs them; the first nodes alone. -/
import Derived.Test.YtmcedghgincaaaaPlB
import Derived.Test.YtmcedghgincaaaaPlD
namespace Go.Proofs.Ytmcedghgincaaaa

theorem getD_default_of {p : List Nd} {i : Nat} (h : p.length ≤ i) : p.getD i default = default := by simp [List.getD_eq_getElem?_getD, List.getElem?_eq_none h]
theorem frm_pos {p : List Nd} (hv : planOk p = true) {k : Nat} (hk : k < p.length) : ∀ f ∈ (p.getD k default).frm, 0 ≤ f ∧ f < (k : Int) := by
  rw [getD_of hk]; exact (PlanOk.node hv hk).frm
theorem usersTo_gt {p : List Nd} (hv : planOk p = true) {k i j : Nat} (hk : k ≤ p.length) (h : j ∈ usersTo p k i) : i < j := by
  obtain ⟨h1, h2⟩ := mem_usersTo.1 h
  have := (frm_pos hv (show j < p.length by omega) _ h2).2
  omega
/-- The last one, or another one if there is none. -/
def lastOr (l : List Nat) (d : Nat) : Nat := l.getLast?.getD d
theorem lastOr_snoc (l : List Nat) (a d : Nat) : lastOr (l ++ [a]) d = a := by simp [lastOr]
theorem lastOr_nil (d : Nat) : lastOr [] d = d := rfl
theorem lastOr_mem {l : List Nat} (d : Nat) (h : l ≠ []) : lastOr l d ∈ l := by
  unfold lastOr
  rw [List.getLast?_eq_some_getLast h]
  exact List.getLast_mem h
theorem usersTo_succ' (p : List Nd) (k i : Nat) : usersTo p (k + 1) i = usersTo p k i ++ (if (i : Int) ∈ (p.getD k default).frm then [k] else []) := by
  simp only [usersTo, List.range_succ, List.filter_append, List.filter_cons, List.filter_nil]
  by_cases h : (i : Int) ∈ (p.getD k default).frm <;> simp [h]

theorem endsTo_get {p : List Nd} (hv : planOk p = true) : ∀ {k : Nat}, k ≤ p.length → ∀ {i : Nat}, i < k → (endsTo p k)[i]? = some ((lastOr (usersTo p k i) i : Nat) : Int)
  | k + 1, hk, i, hi => by
    have hf : ∀ f ∈ (p.getD k default).frm, 0 ≤ f := fun f h => (frm_pos hv (by omega) f h).1
    have hel := endsTo_len p k
    rw [endsTo, setAll_get _ _ _ _ hf, usersTo_succ']
    by_cases hm : (i : Int) ∈ (p.getD k default).frm
    · rw [if_pos ⟨hm, by simp [hel]; omega⟩, if_pos hm, lastOr_snoc]
    · rw [if_neg (fun h => hm h.1), if_neg hm, List.append_nil]
      rcases Nat.lt_or_ge i k with h1 | h1
      · rw [List.getElem?_append_left (by omega)]
        exact endsTo_get hv (by omega) h1
      · obtain rfl : i = k := by omega
        rw [List.getElem?_append_right (by omega), hel]
        have : usersTo p i i = [] := by
          apply List.eq_nil_iff_forall_not_mem.2
          intro j hj
          have h2 := usersTo_gt hv (by omega) hj
          have h3 := (mem_usersTo.1 hj).1
          omega
        rw [this, lastOr_nil]
        simp
theorem endsTo_getD {p : List Nd} (hv : planOk p = true) {k i : Nat} (hk : k ≤ p.length) (hi : i < k) : (endsTo p k).getD i 0 = ((lastOr (usersTo p k i) i : Nat) : Int) := by
  rw [List.getD_eq_getElem?_getD, endsTo_get hv hk hi]; rfl
theorem lastOr_rg {p : List Nd} (hv : planOk p = true) {k i : Nat} (hk : k ≤ p.length) (hi : i < k) : i ≤ lastOr (usersTo p k i) i ∧ lastOr (usersTo p k i) i < k ∧ (lastOr (usersTo p k i) i = i ↔ usersTo p k i = []) := by
  by_cases h0 : usersTo p k i = []
  · rw [h0, lastOr_nil]; exact ⟨by omega, hi, by simp⟩
  · have h1 := lastOr_mem i h0
    have h2 := usersTo_gt hv hk h1
    have h3 := (mem_usersTo.1 h1).1
    exact ⟨by omega, h3, ⟨fun h => by omega, fun h => absurd h h0⟩⟩
theorem endsTo_mono {p : List Nd} (hv : planOk p = true) {k i : Nat} (hk : k + 1 ≤ p.length) (hi : i < k) : (endsTo p k).getD i 0 ≤ (endsTo p (k + 1)).getD i 0 := by
  rw [endsTo_getD hv (by omega) hi, endsTo_getD hv hk (by omega), usersTo_succ']
  have := lastOr_rg hv (show k ≤ p.length by omega) hi
  split
  · rw [lastOr_snoc]; omega
  · rw [List.append_nil]; omega
theorem endsTo_mono' {p : List Nd} (hv : planOk p = true) {k i : Nat} (hi : i < k) : ∀ m, k + m ≤ p.length → (endsTo p k).getD i 0 ≤ (endsTo p (k + m)).getD i 0
  | 0, _ => by simp
  | m + 1, h => by
    have h1 := endsTo_mono' hv hi m (by omega)
    have h2 := endsTo_mono hv (k := k + m) (i := i) (by omega) (by omega)
    rw [show k + (m + 1) = k + m + 1 by omega]
    omega

/-! the first nodes -/
theorem getD_takeN {p : List Nd} {k i : Nat} (h : i < k) : (p.take k).getD i default = p.getD i default := by
  simp [List.getD_eq_getElem?_getD, List.getElem?_take, h]
theorem endsTo_take (p : List Nd) (k : Nat) : ∀ j, j ≤ k → endsTo (p.take k) j = endsTo p j
  | 0, _ => rfl
  | j + 1, h => by rw [endsTo, endsTo, endsTo_take p k j (by omega), getD_takeN (by omega)]
theorem wideOf_take : ∀ (p : List Nd) (k : Nat) (x : Nd), x ∈ p.take k → x.kind = 0 → wideOf (p.take k) = wideOf p
  | [], k, x, h, _ => by simp at h
  | y :: p, 0, x, h, _ => by simp at h
  | y :: p, k + 1, x, h, h0 => by
    simp only [List.take_succ_cons, wideOf]
    by_cases hy : y.kind = 0
    · rw [if_pos hy, if_pos hy]
    · rw [if_neg hy, if_neg hy]
      rw [List.take_succ_cons] at h
      rcases List.mem_cons.1 h with rfl | h
      · exact absurd h0 hy
      · exact wideOf_take p k x h h0
theorem nodeOk_congr {x : Nd} {i a b : Nat} (h : x.kind = 0 → a = b) : nodeOk x i a = nodeOk x i b := by
  unfold nodeOk
  by_cases h0 : x.kind = 0
  · rw [h h0]
  · simp only [if_neg h0]
theorem planOk_take {p : List Nd} (hv : planOk p = true) (k : Nat) : planOk (p.take k) = true := by
  refine (planOk_iff _).2 ⟨by have := PlanOk.len hv; rw [List.length_take]; omega, fun i h => ?_⟩
  have h1 : i < p.length := by rw [List.length_take] at h; omega
  have := ((planOk_iff p).1 hv).2 i h1
  rw [List.getElem_take]
  rw [nodeOk_congr (b := wideOf p) (fun h0 => wideOf_take p k p[i] (by rw [← List.getElem_take (h := h)]; exact List.getElem_mem h) h0)]
  exact this
theorem live_mono {E E' : List Int} {i : Nat} : ∀ j : Nat, (∀ a, a < j → (i : Int) ≤ E.getD a 0 → (i : Int) ≤ E'.getD a 0) → live E i j ≤ live E' i j
  | 0, _ => by simp [live]
  | j + 1, h => by
    have h1 := live_mono j fun a ha => h a (by omega)
    have h2 := h j (by omega)
    simp only [live]
    by_cases h3 : (i : Int) ≤ E.getD j 0
    · rw [if_pos h3, if_pos (h2 h3)]; omega
    · rw [if_neg h3]; split <;> omega
theorem rowsTo_mono {E E' : List Int} : ∀ i : Nat, (∀ b, b < i → ∀ a, a < b → (b : Int) ≤ E.getD a 0 → (b : Int) ≤ E'.getD a 0) → rowsTo E i ≤ rowsTo E' i
  | 0, _ => by simp [rowsTo]
  | i + 1, h => by
    have h1 := rowsTo_mono i fun b hb => h b (by omega)
    have h2 := live_mono (E := E) (E' := E') (i := i) i (h i (by omega))
    simp only [rowsTo]
    omega
theorem rowsTo_le (E : List Int) (i : Nat) : ∀ m, rowsTo E i ≤ rowsTo E (i + m)
  | 0 => by simp
  | m + 1 => by
    have := rowsTo_le E i m
    rw [show i + (m + 1) = i + m + 1 by omega, rowsTo]
    omega
/-- The first nodes need no more places. -/
theorem rowsTo_take {p : List Nd} (hv : planOk p = true) {k : Nat} (hk : k ≤ p.length) : rowsTo (endsTo (p.take k) k) k ≤ rowsTo (endsTo p p.length) p.length := by
  rw [endsTo_take p k k (by omega)]
  have h1 := rowsTo_mono (E := endsTo p k) (E' := endsTo p p.length) k fun b hb a ha h => by
    have := endsTo_mono' hv (k := k) (i := a) (by omega) (p.length - k) (by omega)
    rw [show k + (p.length - k) = p.length by omega] at this
    omega
  have h2 := rowsTo_le (endsTo p p.length) k (p.length - k)
  rw [show k + (p.length - k) = p.length by omega] at h2
  omega
end Go.Proofs.Ytmcedghgincaaaa
