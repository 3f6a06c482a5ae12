/- Plain laws: rounds of workers over what is ready. -/
import Derived.Test.YtmcedghgincaaaaPlM
namespace Go.Proofs.Ytmcedghgincaaaa

/-- Different nodes, each with all that it needs. -/
structure Closed (p : List Nd) (D : List Int) : Prop where
  nd : D.Nodup
  rg : ∀ d ∈ D, 0 ≤ d ∧ d < (p.length : Int)
  cl : ∀ d ∈ D, ∀ f ∈ (p.getD d.toNat default).frm, f ∈ D
/-- What is done behind some rounds. -/
def roundAt (p : List Nd) (k : Nat) : Nat → List Int
  | 0 => []
  | n + 1 => roundAt p k n ++ ((readyL p (roundAt p k n)).map fun (j : Nat) => (j : Int)).take k
theorem Closed.nil (p : List Nd) : Closed p [] := ⟨by simp, by simp, by simp⟩
theorem Closed.next {p : List Nd} {D : List Int} (h : Closed p D) (k : Nat) : Closed p (D ++ ((readyL p D).map fun (j : Nat) => (j : Int)).take k) := by
  have hm : ∀ d ∈ ((readyL p D).map fun (j : Nat) => (j : Int)).take k, ∃ i : Nat, d = (i : Int) ∧ i < p.length ∧ (i : Int) ∉ D ∧ ∀ f ∈ (p.getD i default).frm, f ∈ D := fun d hd => by
    obtain ⟨i, hi, rfl⟩ := List.mem_map.1 (List.mem_of_mem_take hd)
    exact ⟨i, rfl, mem_readyL.1 hi⟩
  refine ⟨List.nodup_append.2 ⟨h.nd, ?_, ?_⟩, fun d hd => ?_, fun d hd f hf => ?_⟩
  · have h1 : ((readyL p D).map fun (j : Nat) => (j : Int)).Nodup := List.Pairwise.map _ (fun a b (hab : a ≠ b) => show (a : Int) ≠ (b : Int) by omega) (readyL_nodup p D)
    exact h1.sublist (List.take_sublist _ _)
  · intro a ha b hb hab
    obtain ⟨i, rfl, _, h3, _⟩ := hm b hb
    exact h3 (hab ▸ ha)
  · rcases List.mem_append.1 hd with hd | hd
    · exact h.rg d hd
    · obtain ⟨i, rfl, h1, _⟩ := hm d hd; omega
  · rcases List.mem_append.1 hd with hd | hd
    · exact List.mem_append_left _ (h.cl d hd f hf)
    · obtain ⟨i, rfl, _, _, h4⟩ := hm d hd
      exact List.mem_append_left _ (h4 f hf)
theorem Closed.round (p : List Nd) (k n : Nat) : Closed p (roundAt p k n) := by
  induction n with
  | zero => exact Closed.nil p
  | succ n ih => exact ih.next k
theorem Closed.nats {p : List Nd} {D : List Int} (h : Closed p D) : (D.map Int.toNat).Nodup := List.pairwise_map.2 (h.nd.imp_of_mem fun ha hb hab he => hab (by have := h.rg _ ha; have := h.rg _ hb; omega))
theorem Closed.len {p : List Nd} {D : List Int} (h : Closed p D) : D.length ≤ p.length := by
  have := h.nats.length_le_of_subset (l₂ := List.range p.length) fun q hq => by
    obtain ⟨d, hd, rfl⟩ := List.mem_map.1 hq
    have := h.rg d hd
    exact List.mem_range.2 (by omega)
  simpa using this
theorem Closed.all {p : List Nd} {D : List Int} (h : Closed p D) (hl : p.length ≤ D.length) {i : Nat} (hi : i < p.length) : (i : Int) ∈ D := by
  rcases Classical.em ((i : Int) ∈ D) with h1 | h1
  · exact h1
  · exfalso
    have h2 : ((i :: D.map Int.toNat) : List Nat).Nodup := List.nodup_cons.2 ⟨fun hm => by
      obtain ⟨d, hd, he⟩ := List.mem_map.1 hm
      have := h.rg d hd
      exact h1 (by rw [show (i : Int) = d by omega]; exact hd), h.nats⟩
    have h3 := h2.length_le_of_subset (l₂ := List.range p.length) fun q hq => by
      rcases List.mem_cons.1 hq with rfl | hq
      · exact List.mem_range.2 hi
      · obtain ⟨d, hd, rfl⟩ := List.mem_map.1 hq
        have := h.rg d hd
        exact List.mem_range.2 (by omega)
    simp at h3
    omega
/-- Someone is ready while not all are done. -/
theorem Closed.some {p : List Nd} (hv : planOk p = true) {D : List Int} (h : Closed p D) (hl : D.length < p.length) : readyL p D ≠ [] := by
  have h1 : ∃ i, i < p.length ∧ (i : Int) ∉ D := by
    rcases Classical.em (∃ i, i < p.length ∧ (i : Int) ∉ D) with h1 | h1
    · exact h1
    · exfalso
      have h2 := (List.nodup_range (n := p.length)).length_le_of_subset (l₂ := D.map Int.toNat) fun q hq => by
        have hq' := List.mem_range.1 hq
        rcases Classical.em ((q : Int) ∈ D) with h3 | h3
        · exact List.mem_map.2 ⟨_, h3, by omega⟩
        · exact absurd ⟨q, hq', h3⟩ h1
      simp at h2
      omega
  obtain ⟨i, hi, hiD⟩ := h1
  induction i using Nat.strongRecOn with
  | _ i ih =>
    rcases Classical.em (∀ f ∈ (p.getD i default).frm, f ∈ D) with h2 | h2
    · exact List.ne_nil_of_mem (mem_readyL.2 ⟨hi, hiD, h2⟩)
    · obtain ⟨f, h3⟩ := Classical.not_forall.1 h2
      obtain ⟨hf, h4⟩ := Classical.not_imp.1 h3
      have h5 := frm_pos hv hi f hf
      exact ih f.toNat (by omega) (by omega) (by rw [show (f.toNat : Int) = f by omega]; exact h4)
theorem roundAt_lt {p : List Nd} (hv : planOk p = true) {k n : Nat} (hk : 1 ≤ k) (hl : (roundAt p k n).length < p.length) : (roundAt p k n).length < (roundAt p k (n + 1)).length := by
  have h1 := (Closed.round p k n).some hv hl
  have h2 : 0 < (readyL p (roundAt p k n)).length := List.length_pos_iff.2 h1
  rw [roundAt, List.length_append, List.length_take, List.length_map]
  omega
theorem roundAt_le (p : List Nd) (k n : Nat) : (roundAt p k n).length ≤ n * k := by
  induction n with
  | zero => simp [roundAt]
  | succ n ih =>
    rw [roundAt, List.length_append, List.length_take, Nat.succ_mul]
    omega
/-- Each done node's level is less than the rounds. -/
theorem roundAt_lev {p : List Nd} (hv : planOk p = true) (k n : Nat) : ∀ d ∈ roundAt p k n, lev p d.toNat < (n : Int) := by
  induction n with
  | zero => intro d hd; simp [roundAt] at hd
  | succ n ih =>
    intro d hd
    rcases List.mem_append.1 hd with hd | hd
    · have := ih d hd; omega
    · obtain ⟨i, hi, rfl⟩ := List.mem_map.1 (List.mem_of_mem_take hd)
      obtain ⟨h1, h2, h3⟩ := mem_readyL.1 hi
      rw [Int.toNat_natCast]
      rcases (show 0 < lev p i ∨ lev p i ≤ 0 by omega) with h4 | h4
      · obtain ⟨f, _, hf, he⟩ := lev_down hv h1 h4
        have := ih _ (h3 _ hf)
        rw [Int.toNat_natCast] at this
        omega
      · omega
/-- All are done in a number of rounds, and not earlier. -/
def Rounds (p : List Nd) (k n : Nat) : Prop := p.length ≤ (roundAt p k n).length ∧ ∀ j, j < n → (roundAt p k j).length < p.length
theorem Rounds.uniq {p : List Nd} {k n m : Nat} (h1 : Rounds p k n) (h2 : Rounds p k m) : n = m := by
  rcases Nat.lt_trichotomy n m with h | h | h
  · have := h2.2 n h; have := h1.1; omega
  · exact h
  · have := h1.2 m h; have := h2.1; omega
theorem Rounds.le {p : List Nd} (hv : planOk p = true) {k n : Nat} (hk : 1 ≤ k) (h : Rounds p k n) : n ≤ p.length := by
  have h1 : ∀ j, j ≤ n → j ≤ (roundAt p k j).length := by
    intro j
    induction j with
    | zero => intro _; omega
    | succ j ih =>
      intro hj
      have h2 := ih (by omega)
      have h3 := roundAt_lt hv hk (h.2 j (by omega))
      omega
  have := h1 n (Nat.le_refl _)
  have := (Closed.round p k n).len
  omega
theorem Rounds.mul {p : List Nd} {k n : Nat} (h : Rounds p k n) : p.length ≤ n * k := Nat.le_trans h.1 (roundAt_le p k n)
theorem Rounds.lev {p : List Nd} (hv : planOk p = true) {k n : Nat} (h : Rounds p k n) : levCount p ≤ (n : Int) := by
  rcases (show 0 < levCount p ∨ levCount p ≤ 0 by omega) with h1 | h1
  · obtain ⟨i, hi, he⟩ := lev_some hv 0 (levCount p - 1) (by omega) (by omega)
    have h2 := (Closed.round p k n).all h.1 hi
    have := roundAt_lev hv k n _ h2
    rw [Int.toNat_natCast] at this
    omega
  · omega
end Go.Proofs.Ytmcedghgincaaaa
