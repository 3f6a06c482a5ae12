/- Plain laws: the nodes of each level. -/
import Derived.Test.YtmcedghgincaaaaPlG
namespace Go.Proofs.Ytmcedghgincaaaa

/-- The level of a node of a valid plan. -/
def lev (p : List Nd) (i : Nat) : Int := (levelsTo p p.length).getD i 0
theorem lev_nonneg (p : List Nd) (i : Nat) : 0 ≤ lev p i := by
  unfold lev
  rcases getD_mem_or (levelsTo p p.length) i with h | h
  · omega
  · exact (levelsTo_rg p _ _ h).1
theorem lev_le {p : List Nd} (hv : planOk p = true) : ∀ i, i < p.length → lev p i ≤ i := by
  intro i
  induction i using Nat.strongRecOn with
  | _ i ih =>
    intro hi
    unfold lev
    rw [levelsTo_getD hi]
    refine upOf_le (by omega) fun f hf => ?_
    have h1 := frm_pos hv hi f hf
    have h2 := ih f.toNat (by omega) (by omega)
    have h3 : (levelsTo p i).getD f.toNat 0 = lev p f.toNat := progTo_same (by omega) (by omega)
    omega
theorem lev_lt_count {p : List Nd} {i : Nat} (hi : i < p.length) : lev p i < levCount p := by
  have := le_mostOf (l := (levelsTo p p.length).map (· + 1)) (a := lev p i + 1) (List.mem_map.2 ⟨_, getD_mem (by rw [levelsTo_len]; exact hi), rfl⟩)
  unfold levCount
  omega
theorem levCount_rg {p : List Nd} (hv : planOk p = true) : 0 ≤ levCount p ∧ levCount p ≤ p.length := by
  refine ⟨mostOf_nonneg _, mostOf_le (by omega) fun a ha => ?_⟩
  obtain ⟨b, hb, rfl⟩ := List.mem_map.1 ha
  obtain ⟨i, hi, rfl⟩ := List.mem_iff_getElem.1 hb
  rw [levelsTo_len] at hi
  have := lev_le hv i hi
  unfold lev at this
  rw [getD_elem (by rw [levelsTo_len]; exact hi)] at this
  omega
/-- Who is not at the bottom needs one just below. -/
theorem lev_down {p : List Nd} (hv : planOk p = true) {i : Nat} (hi : i < p.length) (h0 : 0 < lev p i) : ∃ f, f < i ∧ (f : Int) ∈ (p.getD i default).frm ∧ lev p f + 1 = lev p i := by
  have h1 : lev p i = upOf 1 (levelsTo p i) (p.getD i default).frm := levelsTo_getD hi
  unfold upOf at h1
  rcases foldl_max_eq (fun f : Int => (levelsTo p i).getD f.toNat 0 + 1) (p.getD i default).frm 0 with h | ⟨f, hf, h⟩
  · rw [h] at h1; omega
  · have h2 := frm_pos hv hi f hf
    have h3 : (levelsTo p i).getD f.toNat 0 = lev p f.toNat := progTo_same (by omega) (by omega)
    refine ⟨f.toNat, by omega, by rw [show (f.toNat : Int) = f by omega]; exact hf, ?_⟩
    rw [h] at h1
    omega
theorem lev_some {p : List Nd} (hv : planOk p = true) : ∀ (d : Nat) (m : Int), 0 ≤ m → m + 1 + d = levCount p → ∃ i, i < p.length ∧ lev p i = m
  | 0, m, hm, h => by
    rcases mostOf_eq ((levelsTo p p.length).map (· + 1)) with h1 | h1
    · unfold levCount at h; omega
    · obtain ⟨b, hb, h2⟩ := List.mem_map.1 h1
      obtain ⟨i, hi, rfl⟩ := List.mem_iff_getElem.1 hb
      have hi' : i < p.length := by rw [levelsTo_len] at hi; exact hi
      refine ⟨i, hi', ?_⟩
      unfold lev
      rw [getD_elem hi]
      unfold levCount at h
      omega
  | d + 1, m, hm, h => by
    obtain ⟨i, hi, h1⟩ := lev_some hv d (m + 1) (by omega) (by omega)
    obtain ⟨f, hf, _, h2⟩ := lev_down hv hi (by omega)
    exact ⟨f, by omega, by omega⟩

/-- The nodes of a level. -/
def levRow (p : List Nd) (n : Nat) : List Nat := (List.range p.length).filter fun i => decide (lev p i = (n : Int))
theorem mem_levRow {p : List Nd} {n i : Nat} : i ∈ levRow p n ↔ i < p.length ∧ lev p i = (n : Int) := by simp [levRow]
theorem levRow_ne {p : List Nd} (hv : planOk p = true) {n : Nat} (h : (n : Int) < levCount p) : levRow p n ≠ [] := by
  obtain ⟨i, hi, h1⟩ := lev_some hv (levCount p - 1 - n).toNat n (by omega) (by omega)
  exact List.ne_nil_of_mem (mem_levRow.2 ⟨hi, h1⟩)
theorem levRow_nil {p : List Nd} {n : Nat} (h : levCount p ≤ (n : Int)) : levRow p n = [] := by
  apply List.eq_nil_iff_forall_not_mem.2
  intro i hi
  have := mem_levRow.1 hi
  have := lev_lt_count this.1
  omega
theorem levRow_asc (p : List Nd) (n : Nat) : (levRow p n).Pairwise (· < ·) := List.pairwise_lt_range.filter _
/-- All levels together have all nodes. -/
def rowsLen (p : List Nd) : Nat → Nat
  | 0 => 0
  | n + 1 => rowsLen p n + (levRow p n).length
theorem rowsLen_eq (p : List Nd) : ∀ n : Nat, rowsLen p n = ((List.range p.length).filter fun i => decide (lev p i < (n : Int))).length
  | 0 => by
    have : ((List.range p.length).filter fun i => decide (lev p i < ((0 : Nat) : Int))) = [] := List.filter_eq_nil_iff.2 fun i _ => by have := lev_nonneg p i; simp; omega
    rw [this]; rfl
  | n + 1 => by
    rw [rowsLen, rowsLen_eq p n, levRow]
    generalize List.range p.length = l
    induction l with
    | nil => rfl
    | cons a l ih =>
      simp only [List.filter_cons]
      by_cases h1 : lev p a < (n : Int)
      · rw [if_pos (by simpa using h1), if_neg (by simp; omega), if_pos (by simp; omega)]
        simp only [List.length_cons]; omega
      · by_cases h2 : lev p a = (n : Int)
        · rw [if_neg (by simpa using h1), if_pos (by simpa using h2), if_pos (by simp; omega)]
          simp only [List.length_cons]; omega
        · rw [if_neg (by simpa using h1), if_neg (by simpa using h2), if_neg (by simp; omega)]
          exact ih
theorem rowsLen_all {p : List Nd} (hv : planOk p = true) : rowsLen p (levCount p).toNat = p.length := by
  have hr := levCount_rg hv
  rw [rowsLen_eq, List.filter_eq_self.2 fun i hi => by have := lev_lt_count (List.mem_range.1 hi); simp; omega, List.length_range]
end Go.Proofs.Ytmcedghgincaaaa
