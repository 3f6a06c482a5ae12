/- Plain laws: counts taken down one by one. -/
import Derived.Test.YtmcedghgincaaaaPlM
namespace Go.Proofs.Ytmcedghgincaaaa

theorem nodup_le {Q : List Nat} {n : Nat} (hn : Q.Nodup) (h : ∀ q ∈ Q, q < n) : Q.length ≤ n := by
  have := hn.length_le_of_subset (l₂ := List.range n) fun q hq => List.mem_range.2 (h q hq)
  simpa using this
/-- Some counts are less by one. -/
def decAll (l : List Nat) (L : List Int) : List Int := l.foldl (fun y u => y.set u (y.getD u 0 - 1)) L
theorem decAll_snoc (l : List Nat) (L : List Int) (u : Nat) : decAll (l ++ [u]) L = (decAll l L).set u ((decAll l L).getD u 0 - 1) := by simp [decAll]
theorem decAll_len : ∀ (l : List Nat) (L : List Int), (decAll l L).length = L.length
  | [], _ => rfl
  | u :: l, L => by simp only [decAll, List.foldl_cons]; exact (decAll_len l _).trans (by simp)
theorem decAll_getD : ∀ {l : List Nat} {L : List Int}, l.Nodup → (∀ u ∈ l, u < L.length) → ∀ i, (decAll l L).getD i 0 = L.getD i 0 - (if i ∈ l then 1 else 0)
  | [], L, _, _, i => by simp [decAll]
  | u :: l, L, hn, hu, i => by
    rw [List.nodup_cons] at hn
    have hul := hu u (by simp)
    have ih := decAll_getD (l := l) (L := L.set u (L.getD u 0 - 1)) hn.2 (fun x hx => by rw [List.length_set]; exact hu x (by simp [hx])) i
    simp only [decAll, List.foldl_cons] at ih ⊢
    rw [ih, getD_setI hul]
    by_cases h : u = i
    · subst h
      rw [if_pos rfl, if_neg hn.1, if_pos (by simp)]; omega
    · have : (i ∈ u :: l) ↔ i ∈ l := by simp [Ne.symm h]
      rw [if_neg h]
      simp only [this]
theorem decAll_take {p : List Nd} (hv : planOk p = true) {c R : List Int} (hc : c.length = p.length) {a : Nat} : (decAll (usersTo p p.length a) (c ++ R)).take p.length = doneC p c (a : Int) := by
  have hl := decAll_len (usersTo p p.length a) (c ++ R)
  have hn : (usersTo p p.length a).Nodup := List.nodup_range.filter _
  refine List.ext_getElem (by rw [List.length_take, hl, doneC_len]; simp [hc]) fun i h1 h2 => ?_
  have hi : i < p.length := by rw [doneC_len] at h2; exact h2
  rw [List.getElem_take, doneC_get]
  have := decAll_getD (L := c ++ R) hn (fun u hu => by have := (mem_usersTo.1 hu).1; simp [hc]; omega) i
  rw [getD_elem (by rw [hl]; simp [hc]; omega)] at this
  rw [this]
  have h3 : (c ++ R).getD i 0 = c.getD i 0 := by
    rw [List.getD_eq_getElem?_getD, List.getElem?_append_left (by omega), ← List.getD_eq_getElem?_getD]
  rw [h3]
  have h4 : i ∈ usersTo p p.length a ↔ (a : Int) ∈ (p.getD i default).frm := by rw [mem_usersTo]; exact ⟨fun h => h.2, fun h => ⟨hi, h⟩⟩
  simp only [h4]
/-- Who is told, from the users. -/
theorem doneR_eq {p : List Nd} {c : List Int} {a : Nat} : (usersTo p p.length a).filter (fun u => decide (c.getD u 0 = 1)) = doneR p c (a : Int) := by
  unfold usersTo doneR
  rw [List.filter_filter]
  refine List.filter_congr fun i _ => ?_
  rw [Bool.and_comm]
end Go.Proofs.Ytmcedghgincaaaa
