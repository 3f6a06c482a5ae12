/- Plain laws: places: each node gets the least one that is not held. -/
import Derived.Test.YteagnhdhafiofaaGreatBh1
namespace Go.Proofs.YteagnhdhafiofaaGreat

/-- The least number that is not in a list. -/
def IsLeast (l : List Int) (n : Nat) : Prop := (n : Int) ∉ l ∧ ∀ m, m < n → (m : Int) ∈ l
theorem IsLeast.uniq {l : List Int} {n m : Nat} (hn : IsLeast l n) (hm : IsLeast l m) : n = m := by
  rcases Nat.lt_trichotomy n m with h | h | h
  · exact absurd (hm.2 n h) hn.1
  · exact h
  · exact absurd (hn.2 m h) hm.1
theorem leFree_len {l : List Int} {n : Nat} (h : ∀ m, m < n → (m : Int) ∈ l) : n ≤ l.length := by
  have h1 : ((List.range n).map fun (m : Nat) => (m : Int)).Nodup := by
    rw [List.nodup_iff_pairwise_ne, List.pairwise_map]
    exact (List.nodup_iff_pairwise_ne.1 List.nodup_range).imp fun h he => h (by omega)
  have h2 := h1.length_le_of_subset (l₂ := l) fun a ha => by
    obtain ⟨m, hm, rfl⟩ := List.mem_map.1 ha
    exact h m (List.mem_range.1 hm)
  simpa using h2
/-- It is reckoned by going up. -/
def leastFree (l : List Int) : Nat := ((List.range (l.length + 1)).find? fun (n : Nat) => decide ((n : Int) ∉ l)).getD 0
theorem leastFree_spec (l : List Int) : IsLeast l (leastFree l) := by
  unfold leastFree
  cases h : (List.range (l.length + 1)).find? fun (n : Nat) => decide ((n : Int) ∉ l) with
  | none =>
    have := List.find?_eq_none.1 h
    have h2 := leFree_len (l := l) (n := l.length + 1) fun m hm => by simpa using this m (List.mem_range.2 hm)
    omega
  | some n =>
    rw [List.find?_range_eq_some] at h
    obtain ⟨h1, h2, h3⟩ := h
    refine ⟨by simpa using h1, fun m hm => by simpa using h3 m hm⟩
theorem leastFree_le (l : List Int) : leastFree l ≤ l.length := leFree_len (leastFree_spec l).2

/-- The places held at a node by the first nodes. -/
def takenTo (E out : List Int) (i : Nat) : Nat → List Int
  | 0 => []
  | j + 1 => takenTo E out i j ++ (if (i : Int) ≤ E.getD j 0 then [out.getD j 0] else [])
theorem mem_takenTo {E out : List Int} {i : Nat} {a : Int} : ∀ {j : Nat}, a ∈ takenTo E out i j ↔ ∃ k, k < j ∧ (i : Int) ≤ E.getD k 0 ∧ out.getD k 0 = a
  | 0 => by simp [takenTo]
  | j + 1 => by
    rw [takenTo, List.mem_append, mem_takenTo]
    constructor
    · rintro (⟨k, h1, h2, h3⟩ | h)
      · exact ⟨k, by omega, h2, h3⟩
      · split at h
        · rename_i h2
          exact ⟨j, by omega, h2, (List.mem_singleton.1 h).symm⟩
        · simp at h
    · rintro ⟨k, h1, h2, h3⟩
      rcases Nat.lt_or_ge k j with h4 | h4
      · exact .inl ⟨k, h4, h2, h3⟩
      · obtain rfl : k = j := by omega
        rw [if_pos h2, h3]
        exact .inr (List.mem_singleton.2 rfl)
theorem takenTo_len (E out : List Int) (i : Nat) : ∀ j, ((takenTo E out i j).length : Int) = live E i j
  | 0 => by simp [takenTo, live]
  | j + 1 => by
    rw [takenTo, List.length_append, live, ← takenTo_len E out i j]
    split <;> simp
/-- The places of the first nodes. -/
def giveTo (E : List Int) : Nat → List Int
  | 0 => []
  | k + 1 => giveTo E k ++ [((leastFree (takenTo E (giveTo E k) k k) : Nat) : Int)]
theorem giveTo_len (E : List Int) : ∀ k, (giveTo E k).length = k
  | 0 => rfl
  | k + 1 => by simp [giveTo, giveTo_len E k]
theorem giveTo_get {E : List Int} {i : Nat} : ∀ {k : Nat}, i < k → (giveTo E k).getD i 0 = ((leastFree (takenTo E (giveTo E i) i i) : Nat) : Int)
  | k + 1, h => by
    rw [giveTo, List.getD_eq_getElem?_getD]
    rcases Nat.lt_or_ge i k with h1 | h1
    · rw [List.getElem?_append_left (by rw [giveTo_len]; exact h1), ← List.getD_eq_getElem?_getD]
      exact giveTo_get h1
    · obtain rfl : i = k := by omega
      rw [List.getElem?_append_right (by rw [giveTo_len]; omega), giveTo_len]
      simp
theorem giveTo_same {E : List Int} {i k j : Nat} (h : i < k) (h2 : i < j) : (giveTo E k).getD i 0 = (giveTo E j).getD i 0 := by rw [giveTo_get h, giveTo_get h2]
/-- Whose row is still needed has another place. -/
theorem giveTo_apart {E : List Int} {j i k : Nat} (hji : j < i) (hik : i < k) (hE : (i : Int) ≤ E.getD j 0) : (giveTo E k).getD j 0 ≠ (giveTo E k).getD i 0 := by
  intro he
  have h1 := (leastFree_spec (takenTo E (giveTo E i) i i)).1
  rw [← giveTo_get hik] at h1
  exact h1 (mem_takenTo.2 ⟨j, hji, hE, by rw [giveTo_same hji (show j < k by omega)]; exact he⟩)
theorem giveTo_nonneg {E : List Int} {i k : Nat} (h : i < k) : 0 ≤ (giveTo E k).getD i 0 := by rw [giveTo_get h]; omega
theorem giveTo_le {E : List Int} {i k : Nat} (h : i < k) : (giveTo E k).getD i 0 ≤ live E i i := by
  rw [giveTo_get h, ← takenTo_len E (giveTo E i) i i]
  have := leastFree_le (takenTo E (giveTo E i) i i)
  omega
theorem takenTo_nodup {E : List Int} {i : Nat} : ∀ j, j ≤ i → (takenTo E (giveTo E i) i j).Nodup
  | 0, _ => by simp [takenTo]
  | j + 1, h => by
    rw [takenTo]
    split
    · rename_i hE
      rw [List.nodup_append]
      refine ⟨takenTo_nodup j (by omega), by simp, fun a ha b hb => ?_⟩
      rw [List.mem_singleton] at hb
      subst hb
      obtain ⟨k, h1, h2, rfl⟩ := mem_takenTo.1 ha
      exact giveTo_apart h1 (by omega) (by omega)
    · simpa using takenTo_nodup j (by omega)

theorem rowsTo_arg (E : List Int) : ∀ n : Nat, rowsTo E n = 0 ∨ ∃ i, i < n ∧ rowsTo E n = 1 + live E i i
  | 0 => .inl rfl
  | n + 1 => by
    rw [rowsTo]
    rcases Int.le_total (rowsTo E n) (1 + live E n n) with h | h
    · exact .inr ⟨n, by omega, by omega⟩
    · rcases rowsTo_arg E n with h1 | ⟨i, h1, h2⟩
      · have := live_rg E n n; omega
      · exact .inr ⟨i, by omega, by omega⟩
theorem le_rowsTo {E : List Int} {i : Nat} : ∀ {n : Nat}, i < n → 1 + live E i i ≤ rowsTo E n
  | n + 1, h => by
    rw [rowsTo]
    rcases Nat.lt_or_ge i n with h1 | h1
    · have := le_rowsTo (E := E) h1; omega
    · obtain rfl : i = n := by omega
      omega
/-- As many places are used as must be. -/
theorem give_most (E : List Int) {n : Nat} (hn : 0 < n) (m : Int) (hm : m = 0 ∨ m ∈ giveTo E n) (hle : ∀ a ∈ giveTo E n, a ≤ m) : m + 1 = rowsTo E n := by
  have hup : m + 1 ≤ rowsTo E n := by
    rcases hm with rfl | hm
    · have := le_rowsTo (E := E) hn; have := live_rg E 0 0; omega
    · obtain ⟨i, hi, rfl⟩ := List.mem_iff_getElem.1 hm
      rw [giveTo_len] at hi
      have h1 := giveTo_le (E := E) hi
      rw [List.getD_eq_getElem?_getD, List.getElem?_eq_getElem (by rw [giveTo_len]; exact hi)] at h1
      have h2 := le_rowsTo (E := E) hi
      simp only [Option.getD_some] at h1
      omega
  rcases rowsTo_arg E n with h0 | ⟨i, hi, hr⟩
  · have h1 := le_rowsTo (E := E) hn; have := live_rg E 0 0; omega
  · have hnd := takenTo_nodup (E := E) (i := i) i (Nat.le_refl _)
    have hl := takenTo_len E (giveTo E i) i i
    have h0 := (leastFree_spec (takenTo E (giveTo E i) i i)).1
    have hmem : ∀ k, k < n → (giveTo E n).getD k 0 ∈ giveTo E n := fun k hk => by
      rw [List.getD_eq_getElem?_getD, List.getElem?_eq_getElem (by rw [giveTo_len]; exact hk)]
      exact List.getElem_mem _
    have hall : ∀ a ∈ ((leastFree (takenTo E (giveTo E i) i i) : Nat) : Int) :: takenTo E (giveTo E i) i i, 0 ≤ a ∧ a ≤ m := by
      intro a ha
      rcases List.mem_cons.1 ha with rfl | ha
      · rw [← giveTo_get hi]
        exact ⟨giveTo_nonneg hi, hle _ (hmem i hi)⟩
      · obtain ⟨k, h1, h2, rfl⟩ := mem_takenTo.1 ha
        rw [giveTo_same h1 (show k < n by omega)]
        exact ⟨giveTo_nonneg (by omega), hle _ (hmem k (by omega))⟩
    have hnd2 : (((leastFree (takenTo E (giveTo E i) i i) : Nat) : Int) :: takenTo E (giveTo E i) i i).Nodup := List.nodup_cons.2 ⟨h0, hnd⟩
    have hm0 : 0 ≤ m := by have := hall _ (List.mem_cons_self ..); omega
    have := hnd2.length_le_of_subset (l₂ := (List.range (m.toNat + 1)).map fun (m : Nat) => (m : Int)) fun a ha => by
      have := hall a ha
      exact List.mem_map.2 ⟨a.toNat, List.mem_range.2 (by omega), by omega⟩
    simp at this
    omega

/-- Places of a plan. -/
def giveOf (p : List Nd) : List Int := if planOk p = true then giveTo (endsTo p p.length) p.length else []
theorem give_fits {p : List Nd} (hv : planOk p = true) : fitsPl p (giveOf p) = true := by
  unfold fitsPl giveOf
  rw [hv, if_pos rfl, Bool.true_and, decide_eq_true_eq]
  refine ⟨giveTo_len _ _, fun i hi => ⟨giveTo_nonneg hi, fun k hk hc => ?_⟩⟩
  exact giveTo_apart hk hi hc.1 hc.2
theorem all_fits {p : List Nd} (hv : planOk p = true) : fitsPl p ((List.range p.length).map fun (i : Nat) => (i : Int)) = true := by
  have hg : ∀ i, i < p.length → (((List.range p.length).map fun (i : Nat) => (i : Int))).getD i 0 = (i : Int) := fun i hi => by
    rw [List.getD_eq_getElem?_getD, List.getElem?_map, List.getElem?_range hi]; rfl
  unfold fitsPl
  rw [hv, Bool.true_and, decide_eq_true_eq]
  refine ⟨by simp, fun i hi => ⟨by rw [hg i hi]; omega, fun k hk hc => ?_⟩⟩
  have := hc.2
  rw [hg i hi, hg k (by omega)] at this
  omega

/-! a list of free places, and how many there are -/

/-- What is free: those made that are not held (at a later time than the bound says). -/
def Held (E out : List Int) (i : Nat) (b : Int) (j : Nat) (n : Nat) : Prop := ∃ k, k < i ∧ out.getD k 0 = (n : Int) ∧ (b + 1 ≤ E.getD k 0 ∨ (E.getD k 0 = b ∧ j ≤ k))
structure FreeAt (E out : List Int) (i : Nat) (b : Int) (j : Nat) (m : Nat) (ps : List Nat) : Prop where
  mem : ∀ n, n ∈ ps ↔ n < m ∧ ¬ Held E out i b j n
  asc : ps.Pairwise (· < ·)
  lt : ∀ k, k < i → out.getD k 0 < (m : Int)
theorem FreeAt.zero (E : List Int) : FreeAt E [] 0 (-1) 0 0 [] := ⟨fun n => by simp, by simp, by simp⟩
/-- A place that nobody holds any more is put in order. -/
def insAsc (a : Nat) (ps : List Nat) : List Nat := ps.takeWhile (fun x => decide (x < a)) ++ a :: ps.dropWhile (fun x => decide (x < a))
theorem mem_insAsc {a b : Nat} {ps : List Nat} : b ∈ insAsc a ps ↔ b = a ∨ b ∈ ps := by
  unfold insAsc
  have h : ps.takeWhile (fun x => decide (x < a)) ++ ps.dropWhile (fun x => decide (x < a)) = ps := List.takeWhile_append_dropWhile
  constructor
  · intro hb
    rcases List.mem_append.1 hb with hb | hb
    · exact .inr (by rw [← h]; exact List.mem_append_left _ hb)
    · rcases List.mem_cons.1 hb with rfl | hb
      · exact .inl rfl
      · exact .inr (by rw [← h]; exact List.mem_append_right _ hb)
  · rintro (rfl | hb)
    · simp
    · rw [← h] at hb
      rcases List.mem_append.1 hb with hb | hb
      · exact List.mem_append_left _ hb
      · exact List.mem_append_right _ (List.mem_cons_of_mem _ hb)
theorem insAsc_asc {a : Nat} : ∀ {ps : List Nat}, ps.Pairwise (· < ·) → a ∉ ps → (insAsc a ps).Pairwise (· < ·)
  | [], _, _ => by simp [insAsc]
  | x :: ps, h, ha => by
    simp only [List.mem_cons, not_or] at ha
    rw [List.pairwise_cons] at h
    by_cases hx : x < a
    · have : insAsc a (x :: ps) = x :: insAsc a ps := by simp [insAsc, hx]
      rw [this, List.pairwise_cons]
      refine ⟨fun b hb => ?_, insAsc_asc h.2 ha.2⟩
      rcases mem_insAsc.1 hb with rfl | hb
      · exact hx
      · exact h.1 b hb
    · have : insAsc a (x :: ps) = a :: x :: ps := by simp [insAsc, hx]
      rw [this, List.pairwise_cons]
      refine ⟨fun b hb => ?_, List.pairwise_cons.2 h⟩
      rcases List.mem_cons.1 hb with rfl | hb
      · omega
      · have := h.1 b hb; omega
theorem insAsc_len (a : Nat) (ps : List Nat) : (insAsc a ps).length = ps.length + 1 := by
  unfold insAsc
  have h : (ps.takeWhile (fun x => decide (x < a)) ++ ps.dropWhile (fun x => decide (x < a))).length = ps.length := by rw [List.takeWhile_append_dropWhile]
  simp only [List.length_append, List.length_cons] at h ⊢
  omega

/-- Places held by two are the same one's. -/
theorem held_inj {E : List Int} {i : Nat} {b : Int} (hb : (i : Int) ≤ b + 1) {k l : Nat} (hk : k < i) (hl : l < i) (h1 : b ≤ E.getD k 0) (h2 : b ≤ E.getD l 0) (he : (giveTo E i).getD k 0 = (giveTo E i).getD l 0) : k = l := by
  rcases Nat.lt_trichotomy k l with h | h | h
  · exact absurd he (giveTo_apart h hl (by omega))
  · exact h
  · exact absurd he.symm (giveTo_apart h hk (by omega))
/-- One step of giving back. -/
theorem FreeAt.give {E : List Int} {i : Nat} {b : Int} {j m : Nat} {ps : List Nat} {n : Nat} (hF : FreeAt E (giveTo E i) i b j m ps) (hb : (i : Int) ≤ b + 1) (hj : j < i) (hE : E.getD j 0 = b) (hn : (giveTo E i).getD j 0 = (n : Int)) :
    FreeAt E (giveTo E i) i b (j + 1) m (insAsc n ps) := by
  have hnh : Held E (giveTo E i) i b j n := ⟨j, hj, hn, .inr ⟨hE, Nat.le_refl _⟩⟩
  have hnot : n ∉ ps := fun h => ((hF.mem n).1 h).2 hnh
  have hnm : n < m := by have := hF.lt j hj; omega
  refine ⟨fun a => ?_, insAsc_asc hF.asc hnot, hF.lt⟩
  rw [mem_insAsc, hF.mem]
  constructor
  · rintro (rfl | ⟨h1, h2⟩)
    · refine ⟨hnm, fun ⟨k, h1, h2, h3⟩ => ?_⟩
      have hkj := held_inj hb h1 hj (by omega) (by omega) (h2.trans hn.symm)
      subst hkj
      omega
    · refine ⟨h1, fun ⟨k, g1, g2, g3⟩ => h2 ⟨k, g1, g2, by omega⟩⟩
  · rintro ⟨h1, h2⟩
    by_cases han : a = n
    · exact .inl han
    · refine .inr ⟨h1, fun ⟨k, g1, g2, g3⟩ => h2 ⟨k, g1, g2, ?_⟩⟩
      rcases g3 with g3 | ⟨g3, g4⟩
      · exact .inl g3
      · refine .inr ⟨g3, ?_⟩
        rcases Nat.lt_or_ge j k with h5 | h5
        · exact h5
        · obtain rfl : k = j := by omega
          omega
theorem FreeAt.skip {E out : List Int} {i : Nat} {b : Int} {j m : Nat} {ps : List Nat} (hF : FreeAt E out i b j m ps) (hE : E.getD j 0 ≠ b) : FreeAt E out i b (j + 1) m ps := by
  refine ⟨fun n => ?_, hF.asc, hF.lt⟩
  rw [hF.mem]
  refine and_congr_right fun _ => not_congr ?_
  constructor
  · rintro ⟨k, g1, g2, g3⟩
    refine ⟨k, g1, g2, g3.imp id fun ⟨g4, g5⟩ => ⟨g4, ?_⟩⟩
    rcases Nat.lt_or_ge j k with h5 | h5
    · exact h5
    · obtain rfl : k = j := by omega
      exact absurd g4 hE
  · rintro ⟨k, g1, g2, g3⟩
    exact ⟨k, g1, g2, by omega⟩
theorem FreeAt.held {E : List Int} {i m : Nat} {ps : List Nat} (hF : FreeAt E (giveTo E i) i ((i : Int) - 1) i m ps) (n : Nat) : n ∈ ps ↔ n < m ∧ (n : Int) ∉ takenTo E (giveTo E i) i i := by
  rw [hF.mem, mem_takenTo]
  refine and_congr_right fun _ => not_congr ?_
  constructor
  · rintro ⟨k, g1, g2, g3⟩
    exact ⟨k, g1, by omega, g2⟩
  · rintro ⟨k, g1, g2, g3⟩
    exact ⟨k, g1, g3, .inl (by omega)⟩
theorem taken_lt {E out : List Int} {i : Nat} {b : Int} {j m : Nat} {ps : List Nat} (hF : FreeAt E out i b j m ps) {a : Int} (h : a ∈ takenTo E out i i) : a < (m : Int) := by
  obtain ⟨k, g1, g2, rfl⟩ := mem_takenTo.1 h
  exact hF.lt k g1
/-- No place is free: a new one. -/
theorem FreeAt.makes {E : List Int} {i m : Nat} (hF : FreeAt E (giveTo E i) i ((i : Int) - 1) i m []) (hE : (i : Int) ≤ E.getD i 0) :
    m = leastFree (takenTo E (giveTo E i) i i) ∧ FreeAt E (giveTo E (i + 1)) (i + 1) (i : Int) 0 (m + 1) [] := by
  have h1 : IsLeast (takenTo E (giveTo E i) i i) m := ⟨fun h => by have := taken_lt hF h; omega, fun n hn => by
    have h2 := hF.held n
    by_cases h3 : (n : Int) ∈ takenTo E (giveTo E i) i i
    · exact h3
    · exact absurd (h2.2 ⟨hn, h3⟩) (by simp)⟩
  have he := h1.uniq (leastFree_spec _)
  have hgi : (giveTo E (i + 1)).getD i 0 = (m : Int) := by rw [giveTo_get (by omega), ← he]
  refine ⟨he, fun n => ?_, by simp, fun k hk => ?_⟩
  · simp only [List.not_mem_nil, false_iff, not_and, Classical.not_not]
    intro hn
    rcases Nat.lt_or_ge n m with h3 | h3
    · obtain ⟨k, g1, g2, g3⟩ := mem_takenTo.1 (h1.2 n h3)
      exact ⟨k, by omega, by rw [giveTo_same (show k < i + 1 by omega) g1]; exact g3, by omega⟩
    · obtain rfl : n = m := by omega
      exact ⟨i, by omega, hgi, by omega⟩
  · rcases Nat.lt_or_ge k i with h3 | h3
    · rw [giveTo_same hk h3]; have := hF.lt k h3; omega
    · obtain rfl : k = i := by omega
      rw [hgi]; omega
/-- The first free place is taken. -/
theorem FreeAt.takes {E : List Int} {i m a : Nat} {ps : List Nat} (hF : FreeAt E (giveTo E i) i ((i : Int) - 1) i m (a :: ps)) (hE : (i : Int) ≤ E.getD i 0) :
    a = leastFree (takenTo E (giveTo E i) i i) ∧ FreeAt E (giveTo E (i + 1)) (i + 1) (i : Int) 0 m ps := by
  have hasc := List.pairwise_cons.1 hF.asc
  have ha := (hF.held a).1 (List.mem_cons_self ..)
  have h1 : IsLeast (takenTo E (giveTo E i) i i) a := ⟨ha.2, fun n hn => by
    have h2 := hF.held n
    by_cases h3 : (n : Int) ∈ takenTo E (giveTo E i) i i
    · exact h3
    · have := h2.2 ⟨by omega, h3⟩
      rcases List.mem_cons.1 this with h4 | h4
      · omega
      · have := hasc.1 n h4; omega⟩
  have he := h1.uniq (leastFree_spec _)
  have hgi : (giveTo E (i + 1)).getD i 0 = (a : Int) := by rw [giveTo_get (by omega), ← he]
  refine ⟨he, fun n => ?_, hasc.2, fun k hk => ?_⟩
  · have h2 := hF.held n
    constructor
    · intro hn
      have h3 := h2.1 (List.mem_cons_of_mem _ hn)
      have h4 := hasc.1 n hn
      refine ⟨h3.1, fun ⟨k, g1, g2, g3⟩ => ?_⟩
      rcases Nat.lt_or_ge k i with h5 | h5
      · exact h3.2 (mem_takenTo.2 ⟨k, h5, by omega, by rw [giveTo_same h5 (show k < i + 1 by omega)]; exact g2⟩)
      · obtain rfl : k = i := by omega
        rw [hgi] at g2; omega
    · rintro ⟨h3, h4⟩
      have h5 : (n : Int) ∉ takenTo E (giveTo E i) i i := fun h => by
        obtain ⟨k, g1, g2, g3⟩ := mem_takenTo.1 h
        exact h4 ⟨k, by omega, by rw [giveTo_same (show k < i + 1 by omega) g1]; exact g3, by omega⟩
      rcases List.mem_cons.1 (h2.2 ⟨h3, h5⟩) with h6 | h6
      · exact absurd ⟨i, by omega, by rw [hgi, h6], by omega⟩ h4
      · exact h6
  · rcases Nat.lt_or_ge k i with h3 | h3
    · rw [giveTo_same hk h3]; exact hF.lt k h3
    · obtain rfl : k = i := by omega
      rw [hgi]; omega
end Go.Proofs.YteagnhdhafiofaaGreat

/- Plain laws: a queue of nodes in whose order all that a node needs is behind it; its levels. -/
namespace Go.Proofs.YteagnhdhafiofaaGreat

/-- The greatest value of some nodes, one more, or 0. -/
structure Top (S : Nat → Prop) (v : Nat → Int) (m : Int) : Prop where
  is : m = 0 ∨ ∃ f, S f ∧ m = v f + 1
  nn : 0 ≤ m
  ge : ∀ f, S f → v f + 1 ≤ m
theorem Top.uniq {S : Nat → Prop} {v : Nat → Int} {m n : Int} (hv : ∀ f, S f → 0 ≤ v f) (hm : Top S v m) (hn : Top S v n) : m = n := by
  have h1 := hm.nn
  have h2 := hn.nn
  rcases hm.is with h3 | ⟨f, hf, h3⟩
  · rcases hn.is with h4 | ⟨f, hf, h4⟩
    · omega
    · have := hm.ge f hf
      have := hv f hf
      omega
  · have h5 := hn.ge f hf
    rcases hn.is with h4 | ⟨f', hf', h4⟩
    · have := hv f hf
      omega
    · have := hm.ge f' hf'
      omega
theorem Top.none {S : Nat → Prop} {v : Nat → Int} (h : ∀ f, ¬ S f) : Top S v 0 := ⟨.inl rfl, by omega, fun f hf => absurd hf (h f)⟩
theorem Top.congr {S S' : Nat → Prop} {v : Nat → Int} {m : Int} (hm : Top S v m) (h : ∀ f, S f ↔ S' f) : Top S' v m :=
  ⟨hm.is.imp id fun ⟨f, hf, e⟩ => ⟨f, (h f).1 hf, e⟩, hm.nn, fun f hf => hm.ge f ((h f).2 hf)⟩
theorem Top.add {S : Nat → Prop} {v : Nat → Int} {m : Int} (hm : Top S v m) (x : Nat) (hx : 0 ≤ v x) : Top (fun f => S f ∨ f = x) v (max m (v x + 1)) := by
  have := hm.nn
  refine ⟨?_, by omega, fun f hf => ?_⟩
  · rcases Int.le_total (v x + 1) m with h | h
    · rw [Int.max_eq_left h]
      exact hm.is.imp id fun ⟨f, hf, e⟩ => ⟨f, .inl hf, e⟩
    · rw [Int.max_eq_right h]
      exact .inr ⟨x, .inr rfl, rfl⟩
  · rcases hf with hf | rfl
    · have := hm.ge f hf; omega
    · omega
/-- The level of a node is such a greatest value. -/
theorem top_upOf (ps : List Int) (l : List Int) (h0 : ∀ f ∈ l, 0 ≤ f) : Top (fun f => (f : Int) ∈ l) (fun f => ps.getD f 0) (upOf 1 ps l) := by
  refine ⟨?_, upOf_nonneg _ _ _, fun f hf => ?_⟩
  · rcases foldl_max_eq (fun f : Int => ps.getD f.toNat 0 + 1) l 0 with h | ⟨f, hf, h⟩
    · exact .inl h
    · have := h0 f hf
      exact .inr ⟨f.toNat, by rw [show (f.toNat : Int) = f by omega]; exact hf, h⟩
  · have := le_upOf (c := 1) (ps := ps) hf
    simpa using this
end Go.Proofs.YteagnhdhafiofaaGreat

/- Plain laws: a path costs at most all, at least each node, and is as long as there are levels; what workers need at least. -/
namespace Go.Proofs.YteagnhdhafiofaaGreat

theorem mostOf_le {l : List Int} {b : Int} (hb : 0 ≤ b) (h : ∀ a ∈ l, a ≤ b) : mostOf l ≤ b := foldl_max_le (fun a => a) b l 0 hb h
theorem le_mostOf {l : List Int} {a : Int} (h : a ∈ l) : a ≤ mostOf l := (le_foldl_max (fun a => a) l 0).2 a h
theorem mostOf_nonneg (l : List Int) : 0 ≤ mostOf l := (le_foldl_max (fun a => a) l 0).1
theorem mostOf_eq (l : List Int) : mostOf l = 0 ∨ mostOf l ∈ l := by
  rcases foldl_max_eq (fun a : Int => a) l 0 with h | ⟨a, ha, h⟩
  · exact .inl h
  · exact .inr (by unfold mostOf; rw [h]; exact ha)
theorem pathsTo_len (p : List Nd) (k : Nat) : (pathsTo p k).length = k := progTo_len _ _ _
theorem levelsTo_len (p : List Nd) (k : Nat) : (levelsTo p k).length = k := progTo_len _ _ _

theorem pathsTo_le_sum (p : List Nd) : ∀ k, ∀ a ∈ pathsTo p k, a ≤ sumTo p k
  | 0 => by simp [pathsTo, progTo]
  | k + 1 => by
    intro a ha
    have h1 := kindCost_rg (p.getD k default).kind
    have h0 := sumTo_rg p k
    simp only [pathsTo, progTo, List.mem_append, List.mem_singleton] at ha
    simp only [sumTo]
    rcases ha with ha | rfl
    · have := pathsTo_le_sum p k a ha; omega
    · have h3 : upOf 0 (pathsTo p k) (p.getD k default).frm ≤ sumTo p k := upOf_le (by omega) fun f _ => by
        rcases getD_mem_or (pathsTo p k) f.toNat with h | h
        · rw [h]; omega
        · have := pathsTo_le_sum p k _ h; omega
      simp only [pathsTo] at h3
      omega
theorem path_le_all (p : List Nd) : mostOf (pathsTo p p.length) ≤ sumTo p p.length := mostOf_le (by have := sumTo_rg p p.length; omega) (pathsTo_le_sum p _)
theorem pathsTo_getD {p : List Nd} {i k : Nat} (h : i < k) : (pathsTo p k).getD i 0 = upOf 0 (pathsTo p i) (p.getD i default).frm + kindCost (p.getD i default).kind := progTo_getD h
theorem levelsTo_getD {p : List Nd} {i k : Nat} (h : i < k) : (levelsTo p k).getD i 0 = upOf 1 (levelsTo p i) (p.getD i default).frm := progTo_getD h
theorem getD_mem {l : List Int} {i : Nat} (h : i < l.length) : l.getD i 0 ∈ l := by rw [getD_elem h]; exact List.getElem_mem h
theorem cost_le_path {p : List Nd} {i : Nat} (h : i < p.length) : kindCost p[i].kind ≤ mostOf (pathsTo p p.length) := by
  have h1 := pathsTo_getD (p := p) h
  have h2 := upOf_nonneg 0 (pathsTo p i) (p.getD i default).frm
  have h3 := le_mostOf (getD_mem (l := pathsTo p p.length) (i := i) (by rw [pathsTo_len]; exact h))
  rw [getD_of h] at h1 h2
  omega
/-- A level is less than the path to it. -/
theorem level_lt_path {p : List Nd} (hv : planOk p = true) : ∀ i, i < p.length → (levelsTo p p.length).getD i 0 + 1 ≤ (pathsTo p p.length).getD i 0 := by
  intro i
  induction i using Nat.strongRecOn with
  | _ i ih =>
    intro hi
    rw [levelsTo_getD hi, pathsTo_getD hi]
    have hc := kindCost_rg (p.getD i default).kind
    have hn := upOf_nonneg 0 (pathsTo p i) (p.getD i default).frm
    have : upOf 1 (levelsTo p i) (p.getD i default).frm ≤ upOf 0 (pathsTo p i) (p.getD i default).frm := upOf_le hn fun f hf => by
      have h1 := frm_pos hv hi f hf
      have h2 := le_upOf (c := 0) (ps := pathsTo p i) hf
      have h3 := ih f.toNat (by omega) (by omega)
      have h4 : (levelsTo p i).getD f.toNat 0 = (levelsTo p p.length).getD f.toNat 0 := progTo_same (by omega) (by omega)
      have h5 : (pathsTo p i).getD f.toNat 0 = (pathsTo p p.length).getD f.toNat 0 := progTo_same (by omega) (by omega)
      omega
    omega
/-- How many levels there are. -/
def levCount (p : List Nd) : Int := mostOf ((levelsTo p p.length).map (· + 1))
theorem levCount_le_path {p : List Nd} (hv : planOk p = true) : levCount p ≤ mostOf (pathsTo p p.length) := by
  refine mostOf_le (mostOf_nonneg _) fun a ha => ?_
  obtain ⟨b, hb, rfl⟩ := List.mem_map.1 ha
  obtain ⟨i, hi, rfl⟩ := List.mem_iff_getElem.1 hb
  rw [levelsTo_len] at hi
  have h1 := level_lt_path hv i hi
  have h2 := le_mostOf (getD_mem (l := pathsTo p p.length) (i := i) (by rw [pathsTo_len]; exact hi))
  rw [getD_elem (by rw [levelsTo_len]; exact hi)] at h1
  omega

/-- What workers need at least. -/
def leastOf (p : List Nd) (m : Int) : Int := max (mostOf (pathsTo p p.length)) ((sumTo p p.length + m - 1) / m)
def costLeast (p : List Nd) (m : Int) : Int := if planOk p = true ∧ 1 ≤ m ∧ m ≤ 4 then leastOf p m else -1
theorem leastOf_rg (p : List Nd) {m : Int} (h1 : 1 ≤ m) (h4 : m ≤ 4) : 0 ≤ leastOf p m ∧ leastOf p m ≤ 4 * p.length ∧ mostOf (pathsTo p p.length) ≤ leastOf p m ∧ sumTo p p.length ≤ leastOf p m * m ∧ (leastOf p m = mostOf (pathsTo p p.length) ∨ (leastOf p m - 1) * m < sumTo p p.length) := by
  have ha := sumTo_rg p p.length
  have hb := path_le_all p
  have hc := mostOf_nonneg (pathsTo p p.length)
  unfold leastOf
  have hm : m = 1 ∨ m = 2 ∨ m = 3 ∨ m = 4 := by omega
  rcases hm with rfl | rfl | rfl | rfl <;> omega
theorem leastOf_one (p : List Nd) : leastOf p 1 = sumTo p p.length := by
  have hb := path_le_all p
  unfold leastOf
  omega
theorem leastOf_more (p : List Nd) {m : Int} (h1 : 1 ≤ m) (h4 : m ≤ 3) : leastOf p (m + 1) ≤ leastOf p m := by
  have ha := sumTo_rg p p.length
  unfold leastOf
  have hm : m = 1 ∨ m = 2 ∨ m = 3 := by omega
  rcases hm with rfl | rfl | rfl <;> omega
end Go.Proofs.YteagnhdhafiofaaGreat

/- Plain laws: levels found by a queue: who needs nothing any more is put at its end. -/
namespace Go.Proofs.YteagnhdhafiofaaGreat

theorem addN_nodup {l : List Nat} {f : Nat} (h : l.Nodup) : (addN l f).Nodup := by
  unfold addN
  split
  · exact h
  · rename_i hf
    rw [List.nodup_append]
    exact ⟨h, by simp, fun a ha b hb he => hf (by rw [List.mem_singleton] at hb; rw [← hb, ← he]; exact ha)⟩
theorem needTo_nodup (l : List Int) : (needTo l).Nodup := by
  have key : ∀ (l : List Int) (acc : List Nat), acc.Nodup → (l.foldl (fun a f => addN a f.toNat) acc).Nodup := by
    intro l
    induction l with
    | nil => intro acc h; exact h
    | cons f l ih => intro acc h; exact ih _ (addN_nodup h)
  exact key l [] (by simp)

/-- How many of what a node needs is not done. -/
def cntN (p : List Nd) (D : List Nat) (u : Nat) : Nat := ((needTo (p.getD u default).frm).filter fun f => decide (f ∉ D)).length
theorem filter_less {D : List Nat} {x : Nat} (hx : x ∉ D) : ∀ {l : List Nat}, l.Nodup → x ∈ l → (l.filter fun f => decide (f ∉ D ++ [x])).length + 1 = (l.filter fun f => decide (f ∉ D)).length
  | [], _, h => by simp at h
  | y :: l, hn, h => by
    rw [List.nodup_cons] at hn
    by_cases hy : y = x
    · subst hy
      have h1 : ∀ l : List Nat, y ∉ l → (l.filter fun f => decide (f ∉ D ++ [y])) = l.filter fun f => decide (f ∉ D) := fun l hl => List.filter_congr fun z hz => by
        have : z ≠ y := fun he => hl (he ▸ hz)
        simp [this]
      rw [List.filter_cons, List.filter_cons, if_neg (by simp), if_pos (by simpa using hx), h1 l hn.1]
      simp
    · have hl : x ∈ l := by
        rcases List.mem_cons.1 h with h | h
        · exact absurd h.symm hy
        · exact h
      have ih := filter_less hx hn.2 hl
      by_cases hyD : y ∈ D
      · rw [List.filter_cons, List.filter_cons, if_neg (by simp [hyD]), if_neg (by simp [hyD])]
        exact ih
      · rw [List.filter_cons, List.filter_cons, if_pos (by simp [hyD, hy]), if_pos (by simp [hyD])]
        simp only [List.length_cons]
        omega
theorem cntN_less {p : List Nd} {D : List Nat} {u x : Nat} (hx : x ∉ D) (h : x ∈ needTo (p.getD u default).frm) : cntN p (D ++ [x]) u + 1 = cntN p D u := filter_less hx (needTo_nodup _) h
theorem cntN_same {p : List Nd} {D : List Nat} {u x : Nat} (h : x ∉ needTo (p.getD u default).frm) : cntN p (D ++ [x]) u = cntN p D u := by
  unfold cntN
  congr 1
  refine List.filter_congr fun z hz => ?_
  have : z ≠ x := fun he => h (he ▸ hz)
  simp [this]
theorem cntN_zero {p : List Nd} {D : List Nat} {u : Nat} : cntN p D u = 0 ↔ ∀ f ∈ needTo (p.getD u default).frm, f ∈ D := by
  unfold cntN
  rw [List.length_eq_zero_iff, List.filter_eq_nil_iff]
  simp
theorem cntN_nil (p : List Nd) (u : Nat) : cntN p [] u = (needTo (p.getD u default).frm).length := by simp [cntN]

structure Kahn (p : List Nd) (Df : Nat → List Nat) (Dn : List Nat) (lv lf : List Int) (Q : List Nat) : Prop where
  lvl : lv.length = p.length
  lfl : lf.length = p.length
  cnt : ∀ u, u < p.length → lf.getD u 0 = (cntN p (Df u) u : Int)
  top : ∀ u, u < p.length → Top (fun f => f ∈ needTo (p.getD u default).frm ∧ f ∈ Df u) (fun f => (levelsTo p p.length).getD f 0) (lv.getD u 0)
  mem : ∀ q, q ∈ Q ↔ q < p.length ∧ q ∉ Dn ∧ cntN p (Df q) q = 0
  nodup : Q.Nodup

theorem levelsTo_getD_nonneg (p : List Nd) (k i : Nat) : 0 ≤ (levelsTo p k).getD i 0 := by
  rcases getD_mem_or (levelsTo p k) i with h | h
  · omega
  · exact (levelsTo_rg p k _ h).1
/-- All that a node needs is done: its level is known. -/
theorem Kahn.level {p : List Nd} (hv : planOk p = true) {Df : Nat → List Nat} {Dn : List Nat} {lv lf : List Int} {Q : List Nat} (hK : Kahn p Df Dn lv lf Q) {u : Nat} (hu : u < p.length) (h0 : cntN p (Df u) u = 0) : lv.getD u 0 = (levelsTo p p.length).getD u 0 := by
  have hf := frm_pos hv hu
  have h1 := (hK.top u hu).congr (S' := fun f => (f : Int) ∈ (p.getD u default).frm) fun f => by
    constructor
    · intro h; exact (mem_needTo' fun f h => (hf f h).1).1 h.1
    · intro h
      have := (mem_needTo' fun f h => (hf f h).1).2 h
      exact ⟨this, cntN_zero.1 h0 f this⟩
  have h2 := top_upOf (levelsTo p u) (p.getD u default).frm fun f h => (hf f h).1
  have h3 : Top (fun f => (f : Int) ∈ (p.getD u default).frm) (fun f => (levelsTo p p.length).getD f 0) (upOf 1 (levelsTo p u) (p.getD u default).frm) := by
    have he : ∀ f : Nat, (f : Int) ∈ (p.getD u default).frm → (levelsTo p u).getD f 0 = (levelsTo p p.length).getD f 0 := fun f hm => by
      have := hf _ hm
      exact progTo_same (by omega) (by omega)
    refine ⟨?_, h2.nn, fun f hm => by rw [← he f hm]; exact h2.ge f hm⟩
    rcases h2.is with h | ⟨f, hm, h⟩
    · exact .inl h
    · exact .inr ⟨f, hm, by rw [← he f hm]; exact h⟩
  rw [levelsTo_getD hu]
  exact h1.uniq (fun f _ => levelsTo_getD_nonneg p _ f) h3
theorem Kahn.congr {p : List Nd} {Df Df' : Nat → List Nat} {Dn : List Nat} {lv lf : List Int} {Q : List Nat} (hK : Kahn p Df Dn lv lf Q)
    (h1 : ∀ u, u < p.length → cntN p (Df' u) u = cntN p (Df u) u) (h2 : ∀ u, u < p.length → ∀ f ∈ needTo (p.getD u default).frm, (f ∈ Df u ↔ f ∈ Df' u)) : Kahn p Df' Dn lv lf Q :=
  ⟨hK.lvl, hK.lfl, fun u hu => by rw [h1 u hu]; exact hK.cnt u hu, fun u hu => (hK.top u hu).congr fun f => and_congr_right fun hf => h2 u hu f hf,
    fun q => by
      rw [hK.mem]
      refine and_congr_right fun hq => and_congr_right fun _ => ?_
      rw [h1 q hq], hK.nodup⟩
theorem Kahn.take {p : List Nd} {Df : Nat → List Nat} {D : List Nat} {lv lf : List Int} {x : Nat} {Q : List Nat} (hK : Kahn p Df D lv lf (x :: Q)) : Kahn p Df (D ++ [x]) lv lf Q := by
  have hn := List.nodup_cons.1 hK.nodup
  refine ⟨hK.lvl, hK.lfl, hK.cnt, hK.top, fun q => ?_, hn.2⟩
  have := hK.mem q
  rw [List.mem_cons] at this
  rw [List.mem_append, List.mem_singleton]
  constructor
  · intro h
    have h2 := this.1 (.inr h)
    exact ⟨h2.1, fun h3 => h3.elim h2.2.1 fun h4 => hn.1 (h4 ▸ h), h2.2.2⟩
  · rintro ⟨g1, g2, g3⟩
    rcases this.2 ⟨g1, fun h => g2 (.inl h), g3⟩ with h | h
    · exact absurd (.inr h) g2
    · exact h
theorem getD_setI {l : List Int} {i j : Nat} {a : Int} (hi : i < l.length) : (l.set i a).getD j 0 = if i = j then a else l.getD j 0 := by
  rw [List.getD_eq_getElem?_getD, List.getElem?_set]
  by_cases h : i = j
  · simp [h, h ▸ hi]
  · simp [h, List.getD_eq_getElem?_getD]
/-- A user of the node that was taken. -/
theorem Kahn.step {p : List Nd} {Df : Nat → List Nat} {Dn D : List Nat} {lv lf : List Int} {Q : List Nat} {x u : Nat} (hK : Kahn p Df Dn lv lf Q) (hu : u < p.length) (hDf : Df u = D) (hxD : x ∉ D) (hux : x ∈ needTo (p.getD u default).frm) (hDn : u ∉ Dn) :
    Kahn p (fun a => if a = u then D ++ [x] else Df a) Dn (lv.set u (max (lv.getD u 0) ((levelsTo p p.length).getD x 0 + 1))) (lf.set u (lf.getD u 0 - 1)) (if cntN p (D ++ [x]) u = 0 then Q ++ [u] else Q) := by
  have hl := hK.lvl
  have hf := hK.lfl
  have hc := cntN_less (p := p) (u := u) hxD hux
  refine ⟨by simp [hl], by simp [hf], fun a ha => ?_, fun a ha => ?_, fun q => ?_, ?_⟩
  · rw [getD_setI (by omega)]
    by_cases hau : a = u
    · subst hau
      rw [if_pos rfl, if_pos rfl, hK.cnt a ha, hDf]; omega
    · rw [if_neg (fun h => hau h.symm), if_neg hau]; exact hK.cnt a ha
  · rw [getD_setI (by omega)]
    by_cases hau : a = u
    · subst hau
      rw [if_pos rfl]
      simp only [if_true]
      refine ((hK.top a ha).add x (levelsTo_getD_nonneg p _ x)).congr fun f => ?_
      rw [hDf, List.mem_append, List.mem_singleton]
      constructor
      · rintro (⟨h1, h2⟩ | rfl)
        · exact ⟨h1, .inl h2⟩
        · exact ⟨hux, .inr rfl⟩
      · rintro ⟨h1, h2 | h2⟩
        · exact .inl ⟨h1, h2⟩
        · exact .inr h2
    · rw [if_neg (show ¬ u = a from fun h => hau h.symm)]
      simp only [if_neg hau]
      exact hK.top a ha
  · have hm := hK.mem q
    by_cases hqu : q = u
    · subst hqu
      simp only [if_true]
      have hnq : q ∉ Q := fun h => by
        have := (hm.1 h).2.2
        rw [hDf] at this
        omega
      split
      · rename_i h0
        simp only [List.mem_append, List.mem_singleton, or_true, true_iff]
        exact ⟨hu, hDn, h0⟩
      · rename_i h0
        constructor
        · exact fun h => absurd h hnq
        · exact fun h => absurd h.2.2 h0
    · simp only [if_neg hqu]
      rw [← hm]
      split <;> simp [hqu]
  · split
    · rw [List.nodup_append]
      refine ⟨hK.nodup, by simp, fun a ha b hb he => ?_⟩
      rw [List.mem_singleton] at hb
      subst hb
      subst he
      have := ((hK.mem a).1 ha).2.2
      rw [hDf] at this
      omega
    · exact hK.nodup
/-- At first. -/
theorem Kahn.start {p : List Nd} {lf : List Int} {Q : List Nat} (hlf : lf = (List.range p.length).map fun (u : Nat) => ((needTo (p.getD u default).frm).length : Int)) (hQ : Q = (List.range p.length).filter fun u => decide ((needTo (p.getD u default).frm).length = 0)) :
    Kahn p (fun _ => []) [] (List.replicate p.length 0) lf Q := by
  subst hlf
  subst hQ
  refine ⟨by simp, by simp, fun u hu => ?_, fun u hu => ?_, fun q => ?_, List.nodup_range.filter _⟩
  · rw [cntN_nil, List.getD_eq_getElem?_getD, List.getElem?_map, List.getElem?_range hu]; rfl
  · rw [show (List.replicate p.length (0 : Int)).getD u 0 = 0 by rw [List.getD_eq_getElem?_getD, List.getElem?_replicate, if_pos hu]; rfl]
    exact Top.none fun f h => by simp at h
  · simp only [List.mem_filter, List.mem_range, decide_eq_true_eq, cntN_nil, List.not_mem_nil, not_false_eq_true, true_and]
/-- At last. -/
theorem Kahn.all {p : List Nd} (hv : planOk p = true) {D : List Nat} {lv lf : List Int} (hK : Kahn p (fun _ => D) D lv lf []) : ∀ u, u < p.length → u ∈ D := by
  intro u
  induction u using Nat.strongRecOn with
  | _ u ih =>
    intro hu
    have hf := frm_pos hv hu
    by_cases h : u ∈ D
    · exact h
    · have := (hK.mem u).2 ⟨hu, h, cntN_zero.2 fun f hm => by
        have h1 := hf _ ((mem_needTo' fun f h => (hf f h).1).1 hm)
        exact ih f (by omega) (by omega)⟩
      simp at this
theorem Kahn.done {p : List Nd} (hv : planOk p = true) {D : List Nat} {lv lf : List Int} (hK : Kahn p (fun _ => D) D lv lf []) (hD : ∀ d ∈ D, d < p.length ∧ cntN p D d = 0) : lv = levelsTo p p.length := by
  have hl := hK.lvl
  refine List.ext_getElem (by rw [hl, levelsTo_len]) fun i h1 h2 => ?_
  have hi : i < p.length := by omega
  have := hK.level hv hi (hD i (hK.all hv i hi)).2
  rw [getD_elem h1, getD_elem h2] at this
  exact this
theorem mem_users_needs {p : List Nd} (hv : planOk p = true) {x u : Nat} (hu : u < p.length) : u ∈ usersTo p p.length x ↔ x ∈ needTo (p.getD u default).frm := by
  rw [mem_usersTo, mem_needTo' fun f h => (frm_pos hv hu f h).1]
  exact ⟨fun h => h.2, fun h => ⟨hu, h⟩⟩
end Go.Proofs.YteagnhdhafiofaaGreat

/- Plain laws: how many different nodes a node needs; rows kept. -/
namespace Go.Proofs.YteagnhdhafiofaaGreat

theorem lastOr_ge {l : List Nat} (h : l.Pairwise (· < ·)) {a : Nat} (ha : a ∈ l) (d : Nat) : a ≤ lastOr l d := by
  have hne : l ≠ [] := List.ne_nil_of_mem ha
  unfold lastOr
  rw [List.getLast?_eq_some_getLast hne, Option.getD_some]
  obtain ⟨i, hi, rfl⟩ := List.mem_iff_getElem.1 ha
  rw [List.getLast_eq_getElem]
  rcases Nat.lt_or_ge i (l.length - 1) with h1 | h1
  · exact Nat.le_of_lt (List.pairwise_iff_getElem.1 h i (l.length - 1) hi (by omega) h1)
  · have : i = l.length - 1 := by omega
    subst this
    exact Nat.le_refl _
theorem usersTo_asc (p : List Nd) (k i : Nat) : (usersTo p k i).Pairwise (· < ·) := List.pairwise_lt_range.filter _
theorem live_eq (E : List Int) (i : Nat) : ∀ j, live E i j = (((List.range j).filter fun a => decide ((i : Int) ≤ E.getD a 0)).length : Int)
  | 0 => rfl
  | j + 1 => by
    rw [live, live_eq E i j, List.range_succ, List.filter_append, List.length_append, List.filter_cons, List.filter_nil]
    by_cases h : (i : Int) ≤ E.getD j 0
    · rw [if_pos h, if_pos (by simpa using h)]; simp
    · rw [if_neg h, if_neg (by simpa using h)]; simp
/-- All that a node needs is still there when it is done. -/
theorem needs_live {p : List Nd} (hv : planOk p = true) {i : Nat} (hi : i < p.length) : ((needTo (p.getD i default).frm).length : Int) ≤ live (endsTo p p.length) i i := by
  rw [live_eq]
  have := (needTo_nodup (p.getD i default).frm).length_le_of_subset (l₂ := (List.range i).filter fun a => decide ((i : Int) ≤ (endsTo p p.length).getD a 0)) fun f hf => by
    have hm := (mem_users_needs hv (x := f) hi).2 hf
    have h1 := usersTo_gt hv (Nat.le_refl _) hm
    rw [List.mem_filter, List.mem_range, decide_eq_true_eq, endsTo_getD hv (Nat.le_refl _) (by omega)]
    have := lastOr_ge (usersTo_asc p p.length f) hm f
    omega
  omega
theorem needs_rows {p : List Nd} (hv : planOk p = true) {i : Nat} (hi : i < p.length) : ((needTo (p.getD i default).frm).length : Int) < rowsTo (endsTo p p.length) p.length := by
  have h1 := needs_live hv hi
  have h2 := le_rowsTo (E := endsTo p p.length) hi
  omega

/-- What of the needs is ahead of a node. -/
def cntK (p : List Nd) (k u : Nat) : Nat := ((needTo (p.getD u default).frm).filter fun f => decide (f < k)).length
theorem cntK_zero (p : List Nd) (u : Nat) : cntK p 0 u = 0 := by
  unfold cntK
  rw [List.filter_eq_nil_iff.2 (by simp)]; rfl
theorem filter_lt_succ {k : Nat} : ∀ {l : List Nat}, l.Nodup → (l.filter fun f => decide (f < k + 1)).length = (l.filter fun f => decide (f < k)).length + (if k ∈ l then 1 else 0)
  | [], _ => by simp
  | a :: l, hn => by
    rw [List.nodup_cons] at hn
    have ih := filter_lt_succ (k := k) hn.2
    simp only [List.filter_cons]
    by_cases ha : a = k
    · subst ha
      rw [if_neg hn.1] at ih
      rw [if_pos (by simp), if_neg (by simp), if_pos (by simp)]
      simp only [List.length_cons]; omega
    · have hm : (k ∈ a :: l) ↔ k ∈ l := by simp [Ne.symm ha]
      simp only [hm]
      by_cases h1 : a < k
      · rw [if_pos (by simp; omega), if_pos (by simpa using h1)]
        simp only [List.length_cons]; omega
      · rw [if_neg (by simp; omega), if_neg (by simpa using h1)]
        exact ih
theorem cntK_succ {p : List Nd} (k u : Nat) : cntK p (k + 1) u = cntK p k u + (if k ∈ needTo (p.getD u default).frm then 1 else 0) := filter_lt_succ (needTo_nodup _)
theorem cntK_all {p : List Nd} (hv : planOk p = true) (u : Nat) : cntK p p.length u = (needTo (p.getD u default).frm).length := by
  unfold cntK
  rw [List.filter_eq_self.2 fun f hf => ?_]
  rcases Nat.lt_or_ge u p.length with hu | hu
  · have := frm_pos hv hu
    have h1 := (mem_needTo' fun f h => (this f h).1).1 hf
    have := (this _ h1).2
    simp; omega
  · rw [getD_default_of hu] at hf
    simp [needTo, default] at hf
theorem cntK_le (p : List Nd) (k u : Nat) : cntK p k u ≤ (needTo (p.getD u default).frm).length := List.length_filter_le _ _
theorem usersTo_lt' {p : List Nd} {k i j : Nat} (h : j ∈ usersTo p k i) : j < k := (mem_usersTo.1 h).1
/-- The table while users are told. -/
def tabK (p : List Nd) (k : Nat) (l : List Nat) : List Int := (List.range 10).map fun (u : Nat) => ((cntK p k u + (if u ∈ l then 1 else 0) : Nat) : Int)
theorem tabK_len (p : List Nd) (k : Nat) (l : List Nat) : (tabK p k l).length = 10 := by simp [tabK]
theorem tabK_get {p : List Nd} {k : Nat} {l : List Nat} {u : Nat} (h : u < (tabK p k l).length) : (tabK p k l)[u] = ((cntK p k u + (if u ∈ l then 1 else 0) : Nat) : Int) := by simp [tabK]
theorem tabK_zero (p : List Nd) : tabK p 0 [] = List.replicate 10 0 := by
  refine List.ext_getElem (by simp [tabK]) fun i h1 h2 => ?_
  rw [tabK_get, cntK_zero, List.getElem_replicate]
  simp
theorem tabK_snoc {p : List Nd} {k : Nat} {l : List Nat} {u : Nat} (_hu : u < 10) (_hl : u ∉ l) : (tabK p k l).set u ((cntK p k u : Int) + 1) = tabK p k (l ++ [u]) := by
  refine List.ext_getElem (by simp [tabK]) fun i h1 h2 => ?_
  rw [List.getElem_set, tabK_get, tabK_get]
  by_cases h : u = i
  · subst h
    simp
  · rw [if_neg h]
    simp [Ne.symm h]
theorem tabK_next {p : List Nd} (hv : planOk p = true) {k : Nat} (_hk : k < p.length) : tabK p k (usersTo p p.length k) = tabK p (k + 1) [] := by
  refine List.ext_getElem (by simp [tabK]) fun i h1 h2 => ?_
  rw [tabK_get, tabK_get, cntK_succ]
  have hm : i ∈ usersTo p p.length k ↔ k ∈ needTo (p.getD i default).frm := by
    rcases Nat.lt_or_ge i p.length with hi | hi
    · exact mem_users_needs hv hi
    · rw [getD_default_of hi]
      constructor
      · intro h; have := usersTo_lt' h; omega
      · intro h; simp [needTo, default] at h
  simp [hm]
/-- The counts of a valid plan. -/
theorem tabK_take {p : List Nd} (hv : planOk p = true) : (tabK p p.length []).take p.length = (List.range p.length).map fun (u : Nat) => ((needTo (p.getD u default).frm).length : Int) := by
  have hlen := PlanOk.len hv
  refine List.ext_getElem (by simp [tabK]; omega) fun i h1 h2 => ?_
  rw [List.getElem_take, tabK_get, cntK_all hv, List.getElem_map, List.getElem_range]
  simp
end Go.Proofs.YteagnhdhafiofaaGreat

/- Walks: how many different nodes each node needs: the program's table. -/
namespace Go.Proofs.YteagnhdhafiofaaGreat
open Go.RowKit

/-- The variable of a table: ten counts and how many count. -/
def cbox (g : Nat) (L : List Int) (n : Nat) : Heaplet := [(g, .cells (L.map (Value.int .i64) ++ [Value.int .i64 (n : Int)]).toArray 142 (0, 0))]
theorem cbox_get {L : List Int} {n u : Nat} (hu : u < L.length) : ((L.map (Value.int .i64) ++ [Value.int .i64 (n : Int)]).toArray)[0 + u]? = some (.int .i64 L[u]) := by
  rw [Nat.zero_add, List.getElem?_toArray, List.getElem?_append_left (by simpa using hu)]
  simp [hu]
theorem cbox_size {L : List Int} {n : Nat} (hL : L.length = 10) : ((L.map (Value.int .i64) ++ [Value.int .i64 (n : Int)]).toArray)[10]? = some (.int .i64 (n : Int)) := by
  rw [List.getElem?_toArray, List.getElem?_append_right (by simp [hL])]
  simp [hL]
theorem cbox_set {L : List Int} {n u : Nat} (hu : u < L.length) (a : Int) : (L.map (Value.int .i64) ++ [Value.int .i64 (n : Int)]).toArray.setIfInBounds (0 + u) (.int .i64 a) = ((L.set u a).map (Value.int .i64) ++ [Value.int .i64 (n : Int)]).toArray := by
  rw [Nat.zero_add, List.setIfInBounds_toArray, List.set_append_left _ _ (by simpa using hu), List.map_set]

section
variable {h : GH} {Ls : List Heaplet} {w : World}

theorem copyInts_ok (hH : H w h Ls) {av : Value} {xs : List Int} (hA : RdL h Ls av xs) (hl : xs.length ≤ 1000000000) : Rets Tryz.prog 39 #[av] w fun v w' => ∃ X, IRow X 3 v xs ∧ H w' h (X :: Ls) := by
  refine rets_enter Tryz.func39 rfl Tryz.ntmps39 (by simp) ?_
  refine WT_seq ?_
  refine WT_region ?_
  refine WL_v rfl (ov_assign rfl) ?_
  refine WL_nil ?_
  refine WT_seq ?_
  refine WT_region ?_
  refine WL_v rfl (ov_move rfl) ?_
  refine WL_appR (i := 0) (xs := []) rfl hH.nilIn rfl rfl st_sl_int rfl (IRow.nil _) hA.sl (hA.cell hH) (by simp only [List.length_nil]; omega) (by simp only [List.length_nil]; omega) ?_; rintro X v w2 hX hH2
  refine WL_v rfl (ov_assign rfl) ?_
  refine WL_nil ?_
  exact WT_ret1 Tryz.func39 Tryz.results39 rfl ⟨X, by simpa using hX, hH2⟩

theorem run_build_ct (n : Int) (W : World) : (Instr.build 142 #[(1, .int .i64 n)]).run Tryz.prog W = .ok (.agg #[.int .i64 0, .int .i64 0, .int .i64 0, .int .i64 0, .int .i64 0, .int .i64 0, .int .i64 0, .int .i64 0, .int .i64 0, .int .i64 0, .int .i64 n]) W := by kernel_rfl

theorem ctList_ok {i g : Nat} {L : List Int} {n : Nat} (hH : H w h Ls) (hi : Ls[i]? = some (cbox g L n)) (hL : L.length = 10) (hn : n ≤ 10) : Rets Tryz.prog 102 #[ptr g] w fun v w' => ∃ X, IRow X 3 v (L.take n) ∧ H w' h (X :: Ls) := by
  have hsl : Sl (.slice (some ⟨g, 0, none⟩) n 10) (L.take n).length := ⟨by rw [List.length_take]; omega, _, 10, by rw [List.length_take, hL, Nat.min_eq_left hn], by rw [List.length_take]; omega, fun _ => rfl, fun _ a ha => by cases ha; rfl⟩
  have hrd : RdL h Ls (.slice (some ⟨g, 0, none⟩) n 10) (L.take n) := ⟨hsl, fun {w} hH {j} hj => by
    rw [List.length_take] at hj
    have := hH.cbA i hi 0 j
    rw [cbox_get (by omega)] at this
    rw [List.getElem_take]
    exact this⟩
  refine rets_enter Tryz.func102 rfl Tryz.ntmps102 (by simp) ?_
  refine WT_seq ?_
  refine WT_region ?_
  refine WL_v rfl (ov_assign rfl) ?_
  refine WL_nil ?_
  refine WT_seq ?_
  refine WT_mixL [(0, 0), (1, 0), (2, 0), (3, 0), (4, 0), (5, 0), (6, 0), (7, 0), (8, 2), (9, 0)] mixed (by kernel_rfl) hH ?_
  clear hH
  intro w1 hH hC
  refine WM_v rfl rfl hC (fun _ _ => ov_move rfl) ?_
  refine WM_v rfl rfl hC (fun _ _ => ov_nilCheck rfl) ?_
  refine WM_v rfl rfl hC (fun _ _ => ov_field rfl fo_impl_countTable_0) ?_
  refine WM_v rfl rfl hC (fun _ _ => ov_move rfl) ?_
  refine WM_v rfl rfl hC (fun _ _ => ov_nilCheck rfl) ?_
  refine WM_v rfl rfl hC (fun _ _ => ov_field rfl fo_impl_countTable_1) ?_
  refine WM_v rfl rfl hC (fun _ ⟨_, hH⟩ => ov_load rfl one_int ((hH.cb (i + 1) hi 10).trans (cbox_size hL))) ?_
  refine WM_v rfl rfl hC (fun _ _ => ov_sliceA rfl rfl arr_10int hn) ?_
  refine WM_e rfl ?_
  refine WL_call rfl rfl cf_impl_copyInts (copyInts_ok hH hrd (by rw [List.length_take]; omega)) ?_; rintro v w2 ⟨X, hX, hH2⟩
  replace hC : Cl _ _ _ := ⟨_, hH2⟩
  refine WL_mix (fun _ => hC) ?_
  refine WM_v rfl rfl hC (fun _ _ => ov_assign rfl) ?_
  refine WM_nil ?_
  exact WT_ret1 Tryz.func102 Tryz.results102 rfl ⟨X, hX, hH2⟩

set_option maxHeartbeats 1000000 in
theorem countTableOf_ok (hH : H w h Ls) {pv : Value} {p : List Nd} (hP : Plan h pv p) (hv : planOk p = true) : Rets Tryz.prog 101 #[pv] w fun v w' => ∃ g, v = ptr g ∧ H w' h (cbox g (tabK p p.length []) p.length :: Ls) := by
  have hlen := PlanOk.len hv
  refine rets_enter Tryz.func101 rfl Tryz.ntmps101 (by simp) ?_
  refine WT_seq ?_
  refine WT_region ?_
  refine WL_v rfl (ov_assign rfl) ?_
  refine WL_nil ?_
  refine WT_seq ?_
  refine WT_region ?_
  refine WL_v rfl (ov_move rfl) ?_
  refine WL_v rfl (ov_len rfl hP.sl st_sl_impl_Node) ?_
  refine WL_v rfl (ov_build rfl (run_build_ct _)) ?_
  refine WL_box _ rfl hH rfl rfl ?_; rintro g w1 hH1
  refine WL_v rfl (ov_assign rfl) ?_
  refine WL_nil ?_
  refine WT_seq ?_
  refine WT_seq ?_
  refine WT_region ?_
  refine WL_v rfl (ov_move rfl) ?_
  refine WL_v rfl (ov_len rfl hP.sl st_sl_impl_Node) ?_
  refine WL_v rfl (ov_move rfl) ?_
  refine WL_nil ?_
  refine WT_block ?_
  have hH2 : H w1 h (cbox g (tabK p 0 []) p.length :: Ls) := by unfold cbox; rw [tabK_zero]; exact hH1
  refine WT_while (fun s : Nat => [(0, pv), (3, ptr g), (12, .int .i64 (p.length : Int)), (13, .int .i64 (s : Int))]) (fun k w => k ≤ p.length ∧ H w h (cbox g (tabK p k []) p.length :: Ls)) (fun k => p.length - k) 0 (by repeat (first | exact trivial | refine ⟨rfl, ?_⟩)) ⟨by omega, hH2⟩ ?_
  clear hH hH1 hH2
  rintro k w2 ⟨hk, hH⟩ again
  refine WT_seq ?_
  refine WT_region ?_
  refine WL_v rfl (ov_lss rfl rfl) ?_
  refine WL_nil ?_
  refine WT_seq ?_
  refine WT_cond rfl (fun hc => ?_) (fun hc => ?_)
  · skip
    first | with_reducible replace hc := of_decide_eq_true hc | with_reducible replace hc := bn_T hc | with_reducible replace hc := bb_T hc | skip
    have hkp : k < p.length := by omega
    have hu : usesOf p (k : Int) = toI (usersTo p p.length k) := by unfold usesOf; rw [if_pos ⟨hv, by omega, by omega⟩]; simp
    have hul := toI_len (usersTo p p.length k)
    have hul2 := usersTo_len p p.length k
    refine WT_skip ?_
    refine WT_seq ?_
    refine WT_block ?_
    refine WT_seq ?_
    refine WT_region ?_
    refine WL_v rfl (ov_move rfl) ?_
    refine WL_v rfl (ov_assign rfl) ?_
    refine WL_nil ?_
    refine WT_seq ?_
    refine WT_region ?_
    refine WL_v rfl (ov_move rfl) ?_
    refine WL_v rfl (ov_move rfl) ?_
    refine WL_call rfl rfl cf_impl_PlanUses (planUses_ok hH hP (k : Int)) ?_; rintro uv w3 ⟨U, hU, hH3⟩
    rw [hu] at hU
    refine WL_v rfl (ov_len rfl hU.sl st_sl_int) ?_
    refine WL_v rfl (ov_move rfl) ?_
    refine WL_nil ?_
    refine WT_block ?_
    refine WT_while (fun s : Nat => [(0, pv), (3, ptr g), (12, .int .i64 (p.length : Int)), (13, .int .i64 (k : Int)), (18, uv), (19, .int .i64 ((toI (usersTo p p.length k)).length : Int)), (20, .int .i64 (s : Int))]) (fun j w => j ≤ (usersTo p p.length k).length ∧ H w h (U :: cbox g (tabK p k ((usersTo p p.length k).take j)) p.length :: Ls)) (fun j => (usersTo p p.length k).length - j) 0 (by repeat (first | exact trivial | refine ⟨rfl, ?_⟩)) ⟨by omega, by simpa using hH3⟩ ?_
    clear hH hH3
    rintro j w4 ⟨hj, hH⟩ again2
    refine WT_seq ?_
    refine WT_region ?_
    refine WL_v rfl (ov_lss rfl rfl) ?_
    refine WL_nil ?_
    refine WT_seq ?_
    refine WT_cond rfl (fun hc2 => ?_) (fun hc2 => ?_)
    · skip
      first | with_reducible replace hc2 := of_decide_eq_true hc2 | with_reducible replace hc2 := bn_T hc2 | with_reducible replace hc2 := bb_T hc2 | skip
      have hju : j < (usersTo p p.length k).length := by omega
      have hjt : j < (toI (usersTo p p.length k)).length := by omega
      obtain ⟨u, hu⟩ : ∃ u, (usersTo p p.length k)[j] = u := ⟨_, rfl⟩
      have hgj : (toI (usersTo p p.length k))[j] = (u : Int) := by simp [toI, hu]
      have hup : u < p.length := usersTo_lt (hu ▸ List.getElem_mem hju)
      have hut : u ∉ (usersTo p p.length k).take j := fun hm => by
        obtain ⟨i, hi, he⟩ := List.mem_iff_getElem.1 hm
        rw [List.length_take] at hi
        rw [List.getElem_take, ← hu] at he
        have hUn : (usersTo p p.length k).Nodup := List.nodup_range.filter _
        have := (List.getElem_inj hUn).1 he
        omega
      have hul10 : u < (tabK p k ((usersTo p p.length k).take j)).length := by rw [tabK_len]; omega
      have hgu : (tabK p k ((usersTo p p.length k).take j))[u] = (cntK p k u : Int) := by rw [tabK_get, if_neg hut, Nat.add_zero]
      have hcl := cntK_le p k u
      have hnl := needTo_len (p.getD u default).frm
      have hn2 : (p.getD u default).frm.length ≤ 2 := by rw [getD_of hup]; exact NodeOk.len2 (PlanOk.node hv hup)
      have hcell : ∀ {w L}, H w h (L :: U :: cbox g (tabK p k ((usersTo p p.length k).take j)) p.length :: Ls) → w.cell? (((⟨g, 0, none⟩ : Addr).add 0).add (u * 1)) = some (.int .i64 (cntK p k u : Int)) := fun {w L} hH => by
        have := hH.cbA 2 rfl 0 u
        rw [cbox_get hul10, hgu] at this
        exact this
      refine WT_skip ?_
      refine WT_seq ?_
      refine WT_block ?_
      refine WT_seq ?_
      refine WT_region ?_
      refine WL_v rfl (ov_index rfl rfl st_sl_int hU.sl hjt) ?_
      refine WL_v rfl (ov_load rfl one_int (hU.cell hH (i := 0) rfl hjt)) ?_; rw [hgj]
      refine WL_v rfl (ov_assign rfl) ?_
      refine WL_nil ?_
      refine WT_mixL [(0, 0), (1, 0), (2, 0), (3, 0), (4, 0), (5, 0), (6, 0), (7, 0), (8, 0), (9, 0), (10, 3)] mixed (by kernel_rfl) hH ?_
      clear hH
      intro w5 hH hC
      refine WM_v rfl rfl hC (fun _ _ => ov_move rfl) ?_
      refine WM_v rfl rfl hC (fun _ _ => ov_move rfl) ?_
      refine WM_v rfl rfl hC (fun _ _ => ov_nilCheck rfl) ?_
      refine WM_v rfl rfl hC (fun _ _ => ov_field rfl fo_impl_countTable_0) ?_
      refine WM_v rfl rfl hC (fun _ _ => ov_idxA rfl rfl arr_10int (by omega)) ?_
      refine WM_v rfl rfl hC (fun _ ⟨_, hH⟩ => ov_load rfl one_int (hcell hH)) ?_
      refine WM_v rfl rfl hC (fun _ _ => ov_add rfl rfl (by omega)) ?_
      refine WM_v rfl rfl hC (fun _ _ => ov_nilCheck rfl) ?_
      refine WM_v rfl rfl hC (fun _ _ => ov_field rfl fo_impl_countTable_0) ?_
      refine WM_v rfl rfl hC (fun _ _ => ov_idxA rfl rfl arr_10int (by omega)) ?_
      refine WM_e rfl ?_
      refine WL_store hH rfl rfl (i := 1) (off := 0 + u) rfl (by show ((⟨g, 0, none⟩ : Addr).add 0).add (u * 1) = _; exact addA g 0 u) (by simp [tabK_len]; omega) rfl sz_int ?_; rintro w6 hH6
      refine WL_mix (fun h => absurd rfl h) ?_
      refine WM_nil ?_
      refine WT_inBlock ?_
      refine WT_region ?_
      refine WL_v rfl (ov_add rfl rfl (by omega)) ?_
      refine WL_v rfl (ov_move rfl) ?_
      refine WL_nil ?_
      refine again2 (j + 1) _ _ (by omega) (by repeat (first | exact trivial | refine ⟨rfl, ?_⟩)) ⟨by omega, ?_⟩
      rw [cbox_set hul10, tabK_snoc (by omega) hut] at hH6
      rw [List.take_succ_eq_append_getElem hju, hu]
      exact hH6
    first | with_reducible replace hc2 := of_decide_eq_false hc2 | with_reducible replace hc2 := bn_F hc2 | with_reducible replace hc2 := bb_F hc2 | skip
    obtain rfl : j = (usersTo p p.length k).length := by omega
    rw [List.take_length, tabK_next hv hkp] at hH
    refine WT_exit rfl ?_
    refine WT_inBlock ?_
    refine WT_region ?_
    refine WL_v rfl (ov_add rfl rfl (by omega)) ?_
    refine WL_v rfl (ov_move rfl) ?_
    refine WL_nil ?_
    refine again (k + 1) _ _ (by omega) (by repeat (first | exact trivial | refine ⟨rfl, ?_⟩)) ⟨by omega, hH.drop⟩
  first | with_reducible replace hc := of_decide_eq_false hc | with_reducible replace hc := bn_F hc | with_reducible replace hc := bb_F hc | skip
  obtain rfl : k = p.length := by omega
  refine WT_exit rfl ?_
  refine WT_seq ?_
  refine WT_region ?_
  refine WL_v rfl (ov_move rfl) ?_
  refine WL_v rfl (ov_assign rfl) ?_
  refine WL_nil ?_
  exact WT_ret1 Tryz.func101 Tryz.results101 rfl ⟨g, rfl, hH⟩

/-- How many different nodes each node needs. -/
def countsL (p : List Nd) : List Int := (List.range p.length).map fun (u : Nat) => ((needTo (p.getD u default).frm).length : Int)
def countsOf (p : List Nd) : List Int := if planOk p = true then countsL p else []
theorem countsL_len (p : List Nd) : (countsL p).length = p.length := by simp [countsL]
theorem countsL_get {p : List Nd} {k : Nat} (h : k < (countsL p).length) : (countsL p)[k] = ((needTo (p.getD k default).frm).length : Int) := by simp [countsL]

theorem countsOf_ok (hH : H w h Ls) {pv : Value} {p : List Nd} (hP : Plan h pv p) : Rets Tryz.prog 80 #[pv] w fun v w' => ∃ X, IRow X 3 v (countsOf p) ∧ H w' h (X :: Ls) := by
  refine rets_enter Tryz.func80 rfl Tryz.ntmps80 (by simp) ?_
  refine WT_seq ?_
  refine WT_region ?_
  refine WL_v rfl (ov_assign rfl) ?_
  refine WL_nil ?_
  refine WT_seq ?_
  refine WT_seq ?_
  refine WT_region ?_
  refine WL_v rfl (ov_move rfl) ?_
  refine WL_call rfl rfl cf_impl_PlanValid (planValid_ok hH hP) ?_; rintro _ w1 ⟨rfl, hH1⟩
  refine WL_v rfl (ov_not rfl) ?_
  refine WL_nil ?_
  refine WT_cond rfl (fun hv => ?_) (fun hv => ?_)
  · skip
    first | with_reducible replace hv := of_decide_eq_true hv | with_reducible replace hv := bn_T hv | with_reducible replace hv := bb_T hv | skip
    refine WT_seq ?_
    refine WT_region ?_
    refine WL_v rfl (ov_assign rfl) ?_
    refine WL_nil ?_
    exact WT_ret1 Tryz.func80 Tryz.results80 rfl ⟨[], by unfold countsOf; rw [hv]; exact IRow.nil _, hH1.nilIn⟩
  first | with_reducible replace hv := of_decide_eq_false hv | with_reducible replace hv := bn_F hv | with_reducible replace hv := bb_F hv | skip
  have hlen := PlanOk.len hv
  refine WT_skip ?_
  refine WT_seq ?_
  refine WT_region ?_
  refine WL_v rfl (ov_move rfl) ?_
  refine WL_call rfl rfl cf_impl_countTableOf (countTableOf_ok hH1 hP hv) ?_; rintro _ w2 ⟨g, rfl, hH2⟩
  refine WL_call rfl rfl cf_p_impl_countTable_list (ctList_ok hH2 (i := 0) rfl (tabK_len _ _ _) hlen) ?_; rintro v w3 ⟨X, hX, hH3⟩
  refine WL_v rfl (ov_assign rfl) ?_
  refine WL_nil ?_
  rw [tabK_take hv] at hX
  exact WT_ret1 Tryz.func80 Tryz.results80 rfl ⟨X, by unfold countsOf; rw [if_pos hv]; exact hX, hH3.del 1 rfl⟩
end
end Go.Proofs.YteagnhdhafiofaaGreat

/- Walks: a plan copied by the laws, as memory of one's own. -/
namespace Go.Proofs.YteagnhdhafiofaaGreat
open Go.RowKit

/-- One node of a plan of one's own. -/
def OAt (Is : List Heaplet) (xs : List Value) (i : Nat) (x : Nd) : Prop :=
  ∃ fv rv F R, (∀ j u, [Value.int .i64 x.kind, fv, rv][j]? = some u → xs[i * 3 + j]? = some u) ∧ Is[2 * i]? = some F ∧ Is[2 * i + 1]? = some R ∧ IRow F 3 fv x.frm ∧ IRow R 3 rv x.row
/-- A plan of one's own: the nodes, and two lists for each. -/
structure OPlan (O : Heaplet) (Is : List Heaplet) (v : Value) (p : List Nd) : Prop where
  len : Is.length = 2 * p.length
  ex : ∃ xs, Row O 74 3 v p.length xs ∧ ∀ i (hi : i < p.length), OAt Is xs i p[i]

section
variable {h : GH} {Ls : List Heaplet} {w : World}

/-- It can be shared. -/
theorem OPlan.plan {O : Heaplet} {Is : List Heaplet} {v : Value} {p : List Nd} (hO : OPlan O Is v p) {h' : GH} (hX : ∀ q ∈ (O :: Is).flatten, h'.blk q.1 = some q.2) : Plan h' v p := by
  obtain ⟨xs, hR, hat⟩ := hO.ex
  have hin : ∀ {X : Heaplet} {i : Nat}, Is[i]? = some X → ∀ q ∈ X, h'.blk q.1 = some q.2 := fun hi q hq => hX q (by
    simp only [List.flatten_cons]
    exact List.mem_append_right _ (List.mem_flatten.2 ⟨_, List.mem_of_getElem? hi, hq⟩))
  have hrd := hR.rd (fun q hq => hX q (by simp [hq]))
  refine ⟨hR.sl, fun i hi => ?_⟩
  obtain ⟨fv, rv, F, R, h1, h2, h3, h4, h5⟩ := hat i hi
  exact ⟨fv, rv, h4.ints (hin h2), h5.ints (hin h3), fun j u hj => hrd _ u (h1 j u hj)⟩
theorem OPlan.freeze {O : Heaplet} {Is : List Heaplet} {v : Value} {p : List Nd} (hO : OPlan O Is v p) (hH : H w h (O :: (Is ++ Ls))) :
    ∃ h', h.Le h' ∧ H w h' Ls ∧ Plan h' v p ∧ ∀ {w2 Ls2}, H w2 h' Ls2 → H w2 h (O :: (Is ++ Ls2)) := by
  have hH' : H w h ((O :: Is).flatten :: Ls) := by simpa [H] using hH
  obtain ⟨h', hle, hH2, hX2, hnd, _⟩ := hH'.freeze
  exact ⟨h', hle, hH2, hO.plan fun q hq => (hX2 q hq).1, fun hH3 => by simpa [H] using hH3.unfreeze hle hX2 hnd⟩

theorem zeroNode (W : World) : (zeroValue 74).run Tryz.prog W = .ok (.agg #[.int .i64 0, .slice none 0 0, .slice none 0 0]) W := zero_impl_Node W

theorem toNode_ok (hH : H w h Ls) {xv : Value} {x : Nd} (hx : NdV h xv x) (h1 : x.frm.length ≤ 1048576) (h2 : x.row.length ≤ 1048576) : Rets Tryz.prog 52 #[xv] w fun v w' => ∃ fv rv F R, v = .agg [.int .i64 x.kind, fv, rv].toArray ∧ IRow F 3 fv x.frm ∧ IRow R 3 rv x.row ∧ H w' h (R :: F :: Ls) := by
  obtain ⟨fv, rv, rfl, hf, hr⟩ := hx
  refine rets_enter Tryz.func52 rfl Tryz.ntmps52 (by simp) ?_
  refine WT_seq ?_
  refine WT_region ?_
  refine WL_box #[.int .i64 x.kind, fv, rv] rfl hH rfl rfl ?_; rintro g1 w1 hH1
  refine WL_alloc #[.int .i64 0, .slice none 0 0, .slice none 0 0] rfl hH1 zero_impl_Node rfl ?_; rintro g2 w2 hH2
  refine WL_nil ?_
  refine WT_seq ?_
  refine WT_region ?_
  refine WL_alloc #[.int .i64 0, .slice none 0 0, .slice none 0 0] rfl hH2 zero_impl_Node rfl ?_; rintro g3 w3 hH3
  refine WL_nil ?_
  refine WT_seq ?_
  refine WT_region ?_
  refine WL_v rfl (ov_field rfl fo_laws_Node_0) ?_
  refine WL_v rfl (ov_load rfl one_int (hH3.cb 2 rfl 0)) ?_
  refine WL_v rfl (ov_field rfl fo_impl_Node_0) ?_
  refine WL_store hH3 rfl rfl (i := 0) (off := 0) rfl rfl (by simp) rfl sz_int ?_; rintro w4 hH4
  refine WL_nil ?_
  refine WT_seq ?_
  refine WT_region ?_
  refine WL_v rfl (ov_field rfl fo_laws_Node_1) ?_
  refine WL_v rfl (ov_load rfl one_sl_int (hH4.cb 2 rfl 1)) ?_
  refine WL_call rfl rfl cf_laws_toIntS (toIntS_ok hH4 hf h1) ?_; rintro fv2 w5 ⟨F, hF, hH5⟩
  refine WL_v rfl (ov_field rfl fo_impl_Node_1) ?_
  refine WL_store hH5 rfl rfl (i := 1) (off := 1) rfl rfl (by simp) hF.sl.one sz_sl_int ?_; rintro w6 hH6
  refine WL_nil ?_
  refine WT_seq ?_
  refine WT_region ?_
  refine WL_v rfl (ov_field rfl fo_laws_Node_2) ?_
  refine WL_v rfl (ov_load rfl one_sl_int (hH6.cb 3 rfl 2)) ?_
  refine WL_call rfl rfl cf_laws_toIntS (toIntS_ok hH6 hr h2) ?_; rintro rv2 w7 ⟨R, hR, hH7⟩
  refine WL_v rfl (ov_field rfl fo_impl_Node_2) ?_
  refine WL_store hH7 rfl rfl (i := 2) (off := 2) rfl rfl (by simp) hR.sl.one sz_sl_int ?_; rintro w8 hH8
  refine WL_nil ?_
  refine WT_seq ?_
  refine WT_region ?_
  refine WL_v rfl (ov_loadN [.int .i64 x.kind, fv2, rv2] rfl agg_impl_Node rfl ((fun j v hj => by rw [show Addr.add ⟨g3, 0, none⟩ j = ⟨g3, j, none⟩ by simp [add_of]]; exact (hH8.cb 2 rfl j).trans (by simpa using hj)))) ?_
  refine WL_storeN hH8 rfl rfl (i := 3) rfl rfl rfl (ones_cons rfl (ones_cons hF.sl.one (ones_cons hR.sl.one ones_nil))) sz_impl_Node ?_; rintro w9 hH9
  refine WL_nil ?_
  have hl : (loadVar 74 ⟨g2, 0, none⟩).run Tryz.prog w9 = .ok (.agg [.int .i64 x.kind, fv2, rv2].toArray) w9 :=
    run_loadVarN agg_impl_Node rfl fun j v hj => by rw [show Addr.add ⟨g2, 0, none⟩ j = ⟨g2, j, none⟩ by simp [add_of]]; exact (hH9.cb 3 rfl j).trans (by simpa using hj)
  exact WT_retC Tryz.func52 Tryz.results52 rfl hl ⟨fv2, rv2, F, R, rfl, hF, hR, by simpa [H] using ((hH9.dropI (i := 2) rfl).dropI (i := 3) rfl).dropI (i := 4) rfl⟩

theorem OAt.mono {Is : List Heaplet} {xs ys : List Value} {Js : List Heaplet} {i : Nat} {x : Nd} (hO : OAt Is xs i x) (hx : ∀ j, j < 3 → ys[i * 3 + j]? = xs[i * 3 + j]?) : OAt (Is ++ Js) ys i x := by
  obtain ⟨fv, rv, F, R, h1, h2, h3, h4, h5⟩ := hO
  refine ⟨fv, rv, F, R, fun j u hj => ?_, ?_, ?_, h4, h5⟩
  · have : j < 3 := (List.getElem?_eq_some_iff.1 hj).1
    rw [hx j this]; exact h1 j u hj
  · rw [List.getElem?_append_left (List.getElem?_eq_some_iff.1 h2).1]; exact h2
  · rw [List.getElem?_append_left (List.getElem?_eq_some_iff.1 h3).1]; exact h3

theorem H.addRF {R F O : Heaplet} {Is : List Heaplet} (hH : H w h (R :: F :: O :: (Is ++ Ls))) : H w h (O :: ((Is ++ [F, R]) ++ Ls)) := by
  refine hH.perm ?_
  have h1 : (R :: F :: O :: (Is ++ Ls)).Perm (F :: R :: O :: (Is ++ Ls)) := .swap _ _ _
  have h2 : (F :: R :: O :: (Is ++ Ls)).Perm (O :: ([F, R] ++ (Is ++ Ls))) := by
    have : ([F, R] ++ O :: (Is ++ Ls)).Perm (O :: ([F, R] ++ (Is ++ Ls))) := List.perm_middle
    simpa using this
  have h3 : ([F, R] ++ (Is ++ Ls)).Perm ((Is ++ [F, R]) ++ Ls) := by
    rw [← List.append_assoc]
    exact List.perm_append_comm.append_right Ls
  exact (h1.trans h2).trans (.cons _ h3)

theorem toNodeS_ok (hH : H w h Ls) {pv : Value} {p : List Nd} (hP : Plan h pv p) (h0 : p.length ≤ 1048576) (h1 : ∀ i (hi : i < p.length), p[i].frm.length ≤ 1048576 ∧ p[i].row.length ≤ 1048576) :
    Rets Tryz.prog 20 #[pv] w fun v w' => ∃ O Is, OPlan O Is v p ∧ H w' h (O :: (Is ++ Ls)) := by
  refine rets_enter Tryz.func20 rfl Tryz.ntmps20 (by simp) ?_
  refine WT_seq ?_
  refine WT_region ?_
  refine WL_v rfl (ov_assign rfl) ?_
  refine WL_nil ?_
  refine WT_seq ?_
  refine WT_region ?_
  refine WL_v rfl (ov_move rfl) ?_
  refine WL_v rfl (ov_len rfl hP.sl st_sl_laws_Node) ?_
  refine WL_make (n := p.length) (c := p.length) rfl hH rfl rfl st_sl_impl_Node (by omega) (by omega) (by omega) (by omega) ?_; rintro O0 ov w1 hO0 hH1
  refine WL_v rfl (ov_assign rfl) ?_
  refine WL_nil ?_
  refine WT_seq ?_
  refine WT_seq ?_
  refine WT_region ?_
  refine WL_v rfl (ov_assign rfl) ?_
  refine WL_nil ?_
  refine WT_block ?_
  refine WT_while (fun s : Nat => [(0, pv), (3, ov), (4, .int .i64 (s : Int))]) (fun k w => k ≤ p.length ∧ ∃ O Is xs, Is.length = 2 * k ∧ Row O 74 3 ov p.length xs ∧ (∀ i (_ : i < k) (hi : i < p.length), OAt Is xs i p[i]) ∧ H w h (O :: (Is ++ Ls))) (fun k => p.length - k) 0 (by repeat (first | exact trivial | refine ⟨rfl, ?_⟩)) ⟨by omega, O0, [], _, rfl, hO0, by omega, hH1⟩ ?_
  clear hH hH1 hO0
  rintro k w2 ⟨hk, O, Is, xs, hil, hO, hall, hH⟩ again
  refine WT_seq ?_
  refine WT_seq ?_
  refine WT_region ?_
  refine WL_v rfl (ov_move rfl) ?_
  refine WL_v rfl (ov_move rfl) ?_
  refine WL_v rfl (ov_len rfl hP.sl st_sl_laws_Node) ?_
  refine WL_v rfl (ov_lss rfl rfl) ?_
  refine WL_nil ?_
  refine WT_cond rfl (fun hc => ?_) (fun hc => ?_)
  · skip
    first | with_reducible replace hc := of_decide_eq_true hc | with_reducible replace hc := bn_T hc | with_reducible replace hc := bb_T hc | skip
    have hkp : k < p.length := by omega
    obtain ⟨fv, rv, hx, hcell⟩ := hP.ndV' hkp
    have hxl := hO.len
    refine WT_skip ?_
    refine WT_seq ?_
    refine WT_block ?_
    refine WT_region ?_
    refine WL_v rfl (ov_move rfl) ?_
    refine WL_v rfl (ov_move rfl) ?_
    refine WL_v rfl (ov_move rfl) ?_
    refine WL_v rfl (ov_move rfl) ?_
    refine WL_v rfl (ov_index rfl rfl st_sl_laws_Node hP.sl hkp) ?_
    refine WL_v rfl (ov_loadN [.int .i64 p[k].kind, fv, rv] rfl agg_laws_Node rfl ((hcell _ _ hH))) ?_
    refine WL_call rfl rfl cf_laws_toNode (toNode_ok hH hx (h1 k hkp).1 (h1 k hkp).2) ?_; rintro _ w3 ⟨fv2, rv2, F, R, rfl, hF, hR, hH3⟩
    have ho : k * 3 + [Value.int .i64 p[k].kind, fv2, rv2].length ≤ xs.length := by rw [hxl]; simp only [List.length_cons, List.length_nil]; omega
    refine WL_v rfl (ov_index rfl rfl st_sl_impl_Node hO.sl hkp) ?_
    refine WL_storeRowN hH3 rfl rfl (i := 2) rfl hO ho (by simp) (ones_cons rfl (ones_cons hF.sl.one (ones_cons hR.sl.one ones_nil))) sz_impl_Node ?_; rintro O2 w4 hO2 hH4
    refine WL_nil ?_
    refine WT_inBlock ?_
    refine WT_region ?_
    refine WL_v rfl (ov_move rfl) ?_
    refine WL_v rfl (ov_add rfl rfl (by omega)) ?_
    refine WL_v rfl (ov_assign rfl) ?_
    refine WL_nil ?_
    refine again (k + 1) _ _ (by omega) (by repeat (first | exact trivial | refine ⟨rfl, ?_⟩)) ⟨by omega, O2, Is ++ [F, R], _, by simp [hil]; omega, hO2, fun i hi hil2 => ?_, H.addRF hH4⟩
    rcases Nat.lt_or_ge i k with h3 | h3
    · exact (hall i h3 hil2).mono fun j hj => by rw [splice_get ho, if_pos (by omega)]
    · obtain rfl : i = k := by omega
      refine ⟨fv2, rv2, F, R, fun j u hj => ?_, ?_, ?_, hF, hR⟩
      · have : j < 3 := (List.getElem?_eq_some_iff.1 hj).1
        rw [splice_get ho, if_neg (by omega), if_pos (by simp only [List.length_cons, List.length_nil]; omega), show i * 3 + j - i * 3 = j by omega]
        exact hj
      · rw [List.getElem?_append_right (by omega), hil]; simp
      · rw [List.getElem?_append_right (by omega), hil, show 2 * i + 1 - 2 * i = 1 by omega]; rfl
  first | with_reducible replace hc := of_decide_eq_false hc | with_reducible replace hc := bn_F hc | with_reducible replace hc := bb_F hc | skip
  obtain rfl : k = p.length := by omega
  refine WT_exit rfl ?_
  refine WT_seq ?_
  refine WT_region ?_
  refine WL_v rfl (ov_move rfl) ?_
  refine WL_v rfl (ov_assign rfl) ?_
  refine WL_nil ?_
  exact WT_ret1 Tryz.func20 Tryz.results20 rfl ⟨O, Is, ⟨hil, xs, hO, fun i hi => hall i hi hi⟩, hH⟩
end
end Go.Proofs.YteagnhdhafiofaaGreat

/- Walks: the laws' marks: all of a list or a plan is written over, and read again. -/
namespace Go.Proofs.YteagnhdhafiofaaGreat
open Go.RowKit

/-- Numbers from one on. -/
def marks (k : Int) (n : Nat) : List Int := (List.range n).map fun (j : Nat) => k + (j : Int)
theorem marks_len (k : Int) (n : Nat) : (marks k n).length = n := by simp [marks]
theorem marks_succ (k : Int) (n : Nat) : marks k (n + 1) = marks k n ++ [k + (n : Int)] := by simp [marks, List.range_succ]
theorem marks_get {k : Int} {n j : Nat} (h : j < (marks k n).length) : (marks k n)[j] = k + (j : Int) := by simp [marks]

section
variable {h : GH} {Ls : List Heaplet} {w : World}

theorem markIntS_ok {i : Nat} {X : Heaplet} {av : Value} {xs : List Int} (hH : H w h Ls) (hi : Ls[i]? = some X) (hX : IRow X 3 av xs) {k : Int} (hk : 0 ≤ k ∧ k ≤ 4611686018427387904) (hl : xs.length ≤ 1000000000) :
    Rets Tryz.prog 58 #[av, .int .i64 k] w fun v w' => v = .int .i64 (k + xs.length) ∧ ∃ X', IRow X' 3 av (marks k xs.length) ∧ H w' h (Ls.set i X') := by
  have hil : i < Ls.length := (List.getElem?_eq_some_iff.1 hi).1
  refine rets_enter Tryz.func58 rfl Tryz.ntmps58 (by simp) ?_
  refine WT_seq ?_
  refine WT_region ?_
  refine WL_v rfl (ov_assign rfl) ?_
  refine WL_nil ?_
  refine WT_seq ?_
  refine WT_seq ?_
  refine WT_region ?_
  refine WL_v rfl (ov_assign rfl) ?_
  refine WL_nil ?_
  refine WT_block ?_
  refine WT_while (fun s : Nat => [(0, av), (1, .int .i64 (k + (s : Int))), (5, .int .i64 (s : Int))]) (fun s w => s ≤ xs.length ∧ ∃ X, IRow X 3 av (marks k s ++ xs.drop s) ∧ H w h (Ls.set i X)) (fun s => xs.length - s) 0 ⟨rfl, by rw [show k + ((0 : Nat) : Int) = k by omega]; rfl, rfl, trivial⟩ ⟨by omega, X, by simpa [marks] using hX, by
    have : Ls.set i X = Ls := by
      apply List.ext_getElem?
      intro j
      rw [List.getElem?_set]
      split
      · rename_i hij; subst hij; exact hi.symm
      · rfl
    rw [this]; exact hH⟩ ?_
  clear hH hX hi
  rintro s w1 ⟨hs, X, hX, hH⟩ again
  have hlen : (marks k s ++ xs.drop s).length = xs.length := by rw [List.length_append, marks_len, List.length_drop]; omega
  refine WT_seq ?_
  refine WT_seq ?_
  refine WT_region ?_
  refine WL_v rfl (ov_move rfl) ?_
  refine WL_v rfl (ov_move rfl) ?_
  refine WL_v rfl (ov_len rfl (hlen ▸ hX.sl) st_sl_int) ?_
  refine WL_v rfl (ov_lss rfl rfl) ?_
  refine WL_nil ?_
  refine WT_cond rfl (fun hc => ?_) (fun hc => ?_)
  · skip
    first | with_reducible replace hc := of_decide_eq_true hc | with_reducible replace hc := bn_T hc | with_reducible replace hc := bb_T hc | skip
    have hsx : s < xs.length := by omega
    have hsl : s < (marks k s ++ xs.drop s).length := by omega
    refine WT_skip ?_
    refine WT_seq ?_
    refine WT_block ?_
    refine WT_seq ?_
    refine WT_region ?_
    refine WL_v rfl (ov_move rfl) ?_
    refine WL_v rfl (ov_move rfl) ?_
    refine WL_v rfl (ov_move rfl) ?_
    refine WL_v rfl (ov_index rfl rfl st_sl_int hX.sl hsl) ?_
    refine WL_storeI hH rfl rfl (i := i) (X := X) (by rw [List.getElem?_set_self hil]) hX hsl sz_int ?_; rintro X2 w2 hX2 hH2
    refine WL_nil ?_
    refine WT_region ?_
    refine WL_v rfl (ov_move rfl) ?_
    refine WL_v rfl (ov_add rfl rfl (by omega)) ?_
    refine WL_v rfl (ov_assign rfl) ?_
    refine WL_nil ?_
    refine WT_inBlock ?_
    refine WT_region ?_
    refine WL_v rfl (ov_move rfl) ?_
    refine WL_v rfl (ov_add rfl rfl (by omega)) ?_
    refine WL_v rfl (ov_assign rfl) ?_
    refine WL_nil ?_
    refine again (s + 1) _ _ (by omega) ⟨rfl, by rw [show k + ((s + 1 : Nat) : Int) = k + (s : Int) + 1 by omega]; rfl, rfl, trivial⟩ ⟨by omega, X2, ?_, by rw [List.set_set] at hH2; exact hH2⟩
    rw [List.drop_eq_getElem_cons hsx, List.set_append_right _ _ (by rw [marks_len]; omega), marks_len, Nat.sub_self, List.set_cons_zero] at hX2
    rw [marks_succ]
    simpa using hX2
  first | with_reducible replace hc := of_decide_eq_false hc | with_reducible replace hc := bn_F hc | with_reducible replace hc := bb_F hc | skip
  obtain rfl : s = xs.length := by omega
  refine WT_exit rfl ?_
  refine WT_seq ?_
  refine WT_region ?_
  refine WL_v rfl (ov_move rfl) ?_
  refine WL_v rfl (ov_assign rfl) ?_
  refine WL_nil ?_
  exact WT_ret1 Tryz.func58 Tryz.results58 rfl ⟨rfl, X, by simpa using hX, hH⟩

theorem heldIntS_ok {av : Value} {k : Int} {n : Nat} (hH : H w h Ls) (hA : RdL h Ls av (marks k n)) (hk : 0 ≤ k ∧ k ≤ 4611686018427387904) (hl : n ≤ 1000000000) :
    Rets Tryz.prog 61 #[av, .int .i64 k] w fun v w' => v = .int .i64 (k + n) ∧ H w' h Ls := by
  have hlen := marks_len k n
  refine rets_enter Tryz.func61 rfl Tryz.ntmps61 (by simp) ?_
  refine WT_seq ?_
  refine WT_region ?_
  refine WL_v rfl (ov_assign rfl) ?_
  refine WL_nil ?_
  refine WT_seq ?_
  refine WT_seq ?_
  refine WT_region ?_
  refine WL_v rfl (ov_assign rfl) ?_
  refine WL_nil ?_
  refine WT_block ?_
  refine WT_while (fun s : Nat => [(0, av), (1, .int .i64 (k + (s : Int))), (5, .int .i64 (s : Int))]) (fun s w => s ≤ n ∧ H w h Ls) (fun s => n - s) 0 ⟨rfl, by rw [show k + ((0 : Nat) : Int) = k by omega]; rfl, rfl, trivial⟩ ⟨by omega, hH⟩ ?_
  clear hH
  rintro s w1 ⟨hs, hH⟩ again
  refine WT_seq ?_
  refine WT_seq ?_
  refine WT_region ?_
  refine WL_v rfl (ov_move rfl) ?_
  refine WL_v rfl (ov_move rfl) ?_
  refine WL_v rfl (ov_len rfl hA.sl st_sl_int) ?_
  refine WL_v rfl (ov_lss rfl rfl) ?_
  refine WL_nil ?_
  refine WT_cond rfl (fun hc => ?_) (fun hc => ?_)
  · skip
    first | with_reducible replace hc := of_decide_eq_true hc | with_reducible replace hc := bn_T hc | with_reducible replace hc := bb_T hc | skip
    have hsl : s < (marks k n).length := by omega
    refine WT_skip ?_
    refine WT_seq ?_
    refine WT_block ?_
    refine WT_seq ?_
    refine WT_seq ?_
    refine WT_region ?_
    refine WL_v rfl (ov_move rfl) ?_
    refine WL_v rfl (ov_move rfl) ?_
    refine WL_v rfl (ov_index rfl rfl st_sl_int hA.sl hsl) ?_
    refine WL_v rfl (ov_load rfl one_int (hA.cell hH hsl)) ?_
    refine WL_v rfl (ov_move rfl) ?_
    refine WL_v rfl (ov_F (ov_neq rfl rfl) (by rw [marks_get hsl]; simp)) ?_
    refine WL_nil ?_
    refine WT_condF rfl ?_
    refine WT_skip ?_
    refine WT_region ?_
    refine WL_v rfl (ov_move rfl) ?_
    refine WL_v rfl (ov_add rfl rfl (by omega)) ?_
    refine WL_v rfl (ov_assign rfl) ?_
    refine WL_nil ?_
    refine WT_inBlock ?_
    refine WT_region ?_
    refine WL_v rfl (ov_move rfl) ?_
    refine WL_v rfl (ov_add rfl rfl (by omega)) ?_
    refine WL_v rfl (ov_assign rfl) ?_
    refine WL_nil ?_
    exact again (s + 1) _ _ (by omega) ⟨rfl, by rw [show k + ((s + 1 : Nat) : Int) = k + (s : Int) + 1 by omega]; rfl, rfl, trivial⟩ ⟨by omega, hH⟩
  first | with_reducible replace hc := of_decide_eq_false hc | with_reducible replace hc := bn_F hc | with_reducible replace hc := bb_F hc | skip
  obtain rfl : s = n := by omega
  refine WT_exit rfl ?_
  refine WT_seq ?_
  refine WT_region ?_
  refine WL_v rfl (ov_move rfl) ?_
  refine WL_v rfl (ov_assign rfl) ?_
  refine WL_nil ?_
  exact WT_ret1 Tryz.func61 Tryz.results61 rfl ⟨rfl, hH⟩

/-- A node of a plan of one's own, whatever is in it. -/
def OAtW (Is : List Heaplet) (xs : List Value) (i : Nat) : Prop :=
  ∃ (kv fv rv : Value) (F R : Heaplet) (f r : List Int), xs[i * 3]? = some kv ∧ xs[i * 3 + 1]? = some fv ∧ xs[i * 3 + 2]? = some rv ∧ Is[2 * i]? = some F ∧ Is[2 * i + 1]? = some R ∧ IRow F 3 fv f ∧ IRow R 3 rv r ∧ f.length ≤ 1048576 ∧ r.length ≤ 1048576
theorem OAt.weak {Is : List Heaplet} {xs : List Value} {i : Nat} {x : Nd} (h : OAt Is xs i x) (h1 : x.frm.length ≤ 1048576) (h2 : x.row.length ≤ 1048576) : OAtW Is xs i := by
  obtain ⟨fv, rv, F, R, g1, g2, g3, g4, g5⟩ := h
  exact ⟨_, fv, rv, F, R, _, _, by simpa using g1 0 _ rfl, g1 1 _ rfl, g1 2 _ rfl, g2, g3, g4, g5, h1, h2⟩

theorem markNodeS_ok {O : Heaplet} {Is : List Heaplet} {v : Value} {p : List Nd} (hO : OPlan O Is v p) (hH : H w h (O :: (Is ++ Ls))) (h0 : p.length ≤ 1048576) (h1 : ∀ i (hi : i < p.length), p[i].frm.length ≤ 1048576 ∧ p[i].row.length ≤ 1048576) {k : Int} (hk : 0 ≤ k ∧ k ≤ 1000000000000) :
    Rets Tryz.prog 24 #[v, .int .i64 k] w fun u w' => ∃ k' : Int, u = .int .i64 k' ∧ k ≤ k' ∧ k' ≤ k + 3000000 * 1048576 ∧ H w' h Ls := by
  obtain ⟨hil, xs, hR, hat⟩ := hO
  have hlim := hR.lim
  refine rets_enter Tryz.func24 rfl Tryz.ntmps24 (by simp) ?_
  refine WT_seq ?_
  refine WT_region ?_
  refine WL_v rfl (ov_assign rfl) ?_
  refine WL_nil ?_
  refine WT_seq ?_
  refine WT_seq ?_
  refine WT_region ?_
  refine WL_v rfl (ov_assign rfl) ?_
  refine WL_nil ?_
  refine WT_block ?_
  refine WT_while (fun s : Nat × Int => [(0, v), (1, .int .i64 s.2), (5, .int .i64 (s.1 : Int))]) (fun s w => s.1 ≤ p.length ∧ k ≤ s.2 ∧ s.2 ≤ k + 3000000 * s.1 ∧ ∃ O Is xs, Is.length = 2 * p.length ∧ Row O 74 3 v p.length xs ∧ (∀ i, i < p.length → OAtW Is xs i) ∧ H w h (O :: (Is ++ Ls))) (fun s => p.length - s.1) (0, k) (by repeat (first | exact trivial | refine ⟨rfl, ?_⟩)) ⟨by omega, by simp only; omega, by simp only; omega, O, Is, xs, hil, hR, fun i hi => (hat i hi).weak (h1 i hi).1 (h1 i hi).2, hH⟩ ?_
  clear hH hR hat hil
  rintro ⟨s, m⟩ w1 ⟨hs, hm1, hm2, O, Is, xs, hil, hR, hat, hH⟩ again
  simp only at hs hm1 hm2
  refine WT_seq ?_
  refine WT_seq ?_
  refine WT_region ?_
  refine WL_v rfl (ov_move rfl) ?_
  refine WL_v rfl (ov_move rfl) ?_
  refine WL_v rfl (ov_len rfl hR.sl st_sl_impl_Node) ?_
  refine WL_v rfl (ov_lss rfl rfl) ?_
  refine WL_nil ?_
  refine WT_cond rfl (fun hc => ?_) (fun hc => ?_)
  · skip
    first | with_reducible replace hc := of_decide_eq_true hc | with_reducible replace hc := bn_T hc | with_reducible replace hc := bb_T hc | skip
    simp only at hc
    have hsp : s < p.length := by omega
    have hxl := hR.len
    obtain ⟨kv, fv, rv, F, R, f, r, g0, g1, g2, g3, g4, g5, g6, g7, g8⟩ := hat s hsp
    refine WT_skip ?_
    refine WT_seq ?_
    refine WT_block ?_
    refine WT_seq ?_
    refine WT_region ?_
    refine WL_v rfl (ov_move rfl) ?_
    refine WL_v rfl (ov_move rfl) ?_
    refine WL_v rfl (ov_move rfl) ?_
    refine WL_v rfl (ov_index rfl rfl st_sl_impl_Node hR.sl hsp) ?_
    refine WL_v rfl (ov_field rfl fo_impl_Node_0) ?_
    refine WL_storeRow hH rfl rfl (i := 0) rfl hR (show s * 3 < xs.length by omega) rfl sz_int ?_; rintro O2 w2 hR2 hH2
    refine WL_nil ?_
    refine WT_seq ?_
    refine WT_region ?_
    refine WL_v rfl (ov_move rfl) ?_
    refine WL_v rfl (ov_add rfl rfl (by omega)) ?_
    refine WL_v rfl (ov_assign rfl) ?_
    refine WL_nil ?_
    refine WT_seq ?_
    refine WT_region ?_
    refine WL_v rfl (ov_move rfl) ?_
    refine WL_v rfl (ov_move rfl) ?_
    have hc1 : (xs.set (s * 3) (.int .i64 m))[s * 3 + 1]? = some fv := by rw [List.getElem?_set, if_neg (by omega)]; exact g1
    have hc2 : (xs.set (s * 3) (.int .i64 m))[s * 3 + 2]? = some rv := by rw [List.getElem?_set, if_neg (by omega)]; exact g2
    have hF : (O2 :: (Is ++ Ls))[2 * s + 1]? = some F := by rw [List.getElem?_cons_succ, List.getElem?_append_left (by omega)]; exact g3
    refine WL_v rfl (ov_index rfl rfl st_sl_impl_Node hR2.sl hsp) ?_
    refine WL_v rfl (ov_field rfl fo_impl_Node_1) ?_
    refine WL_v rfl (ov_load rfl one_sl_int (by rw [add_add]; exact hR2.cell hH2 (i := 0) rfl hc1)) ?_
    refine WL_v rfl (ov_move rfl) ?_
    refine WL_call rfl rfl cf_laws_markIntS (markIntS_ok hH2 hF g5 (show 0 ≤ m + 1 ∧ m + 1 ≤ 4611686018427387904 by omega) (by omega)) ?_; rintro _ w3 ⟨rfl, F2, hF2, hH3⟩
    refine WL_v rfl (ov_assign rfl) ?_
    refine WL_nil ?_
    refine WT_region ?_
    refine WL_v rfl (ov_move rfl) ?_
    refine WL_v rfl (ov_move rfl) ?_
    have hH3' : H w3 h (O2 :: (Is.set (2 * s) F2 ++ Ls)) := by
      rw [List.set_cons_zero, List.set_cons_succ, List.set_append_left _ _ (by omega)] at hH3
      exact hH3
    have hRR : (O2 :: (Is.set (2 * s) F2 ++ Ls))[2 * s + 1 + 1]? = some R := by rw [List.getElem?_cons_succ, List.getElem?_append_left (by simp; omega), List.getElem?_set, if_neg (by omega)]; exact g4
    refine WL_v rfl (ov_index rfl rfl st_sl_impl_Node hR2.sl hsp) ?_
    refine WL_v rfl (ov_field rfl fo_impl_Node_2) ?_
    refine WL_v rfl (ov_load rfl one_sl_int (by rw [add_add]; exact hR2.cell hH3' (i := 0) rfl hc2)) ?_
    refine WL_v rfl (ov_move rfl) ?_
    refine WL_call rfl rfl cf_laws_markIntS (markIntS_ok hH3' hRR g6 (show 0 ≤ m + 1 + f.length ∧ m + 1 + f.length ≤ 4611686018427387904 by omega) (by omega)) ?_; rintro _ w4 ⟨rfl, R2, hR3, hH4⟩
    refine WL_v rfl (ov_assign rfl) ?_
    refine WL_nil ?_
    refine WT_inBlock ?_
    refine WT_region ?_
    refine WL_v rfl (ov_move rfl) ?_
    refine WL_v rfl (ov_add rfl rfl (by omega)) ?_
    refine WL_v rfl (ov_assign rfl) ?_
    refine WL_nil ?_
    have hH4' : H w4 h (O2 :: ((Is.set (2 * s) F2).set (2 * s + 1) R2 ++ Ls)) := by
      rw [List.set_cons_succ, List.set_append_left _ _ (by simp; omega)] at hH4
      exact hH4
    refine again (s + 1, m + 1 + f.length + r.length) _ _ (by simp only; omega) (by repeat (first | exact trivial | refine ⟨rfl, ?_⟩)) ⟨by simp only; omega, by simp only; omega, by simp only; omega, O2, _, _, by simp [hil], hR2, fun i hi => ?_, hH4'⟩
    by_cases his : i = s
    · subst his
      refine ⟨_, fv, rv, F2, R2, _, _, by rw [List.getElem?_set, if_pos rfl, if_pos (by omega)], hc1, hc2, ?_, ?_, hF2, hR3, by rw [marks_len]; omega, by rw [marks_len]; omega⟩
      · rw [List.getElem?_set, if_neg (by omega), List.getElem?_set, if_pos rfl, if_pos (by omega)]
      · rw [List.getElem?_set, if_pos rfl, if_pos (by simp; omega)]
    · obtain ⟨kv', fv', rv', F', R', f', r', k0, k1, k2, k3, k4, k5, k6, k7, k8⟩ := hat i hi
      refine ⟨kv', fv', rv', F', R', f', r', ?_, ?_, ?_, ?_, ?_, k5, k6, k7, k8⟩
      · rw [List.getElem?_set, if_neg (by omega)]; exact k0
      · rw [List.getElem?_set, if_neg (by omega)]; exact k1
      · rw [List.getElem?_set, if_neg (by omega)]; exact k2
      · rw [List.getElem?_set, if_neg (by omega), List.getElem?_set, if_neg (by omega)]; exact k3
      · rw [List.getElem?_set, if_neg (by omega), List.getElem?_set, if_neg (by omega)]; exact k4
  first | with_reducible replace hc := of_decide_eq_false hc | with_reducible replace hc := bn_F hc | with_reducible replace hc := bb_F hc | skip
  simp only at hc
  obtain rfl : s = p.length := by omega
  refine WT_exit rfl ?_
  refine WT_seq ?_
  refine WT_region ?_
  refine WL_v rfl (ov_move rfl) ?_
  refine WL_v rfl (ov_assign rfl) ?_
  refine WL_nil ?_
  exact WT_ret1 Tryz.func24 Tryz.results24 rfl ⟨m, rfl, by omega, by omega, H.drops _ hH.drop⟩
end
end Go.Proofs.YteagnhdhafiofaaGreat

/- Walks: lists of lists: one's own, shared; the laws' helpers on them. -/
namespace Go.Proofs.YteagnhdhafiofaaGreat
open Go.RowKit

/-- One of a list of lists of one's own. -/
def OLAt (Is : List Heaplet) (xs : List Value) (i : Nat) (l : List Int) : Prop := ∃ v F, xs[i]? = some v ∧ Is[i]? = some F ∧ IRow F 3 v l
/-- A list of lists of one's own: the outer one, and a part for each. -/
structure OLists (O : Heaplet) (Is : List Heaplet) (v : Value) (ls : List (List Int)) : Prop where
  len : Is.length = ls.length
  ex : ∃ xs, Row O 25 1 v ls.length xs ∧ ∀ i (hi : i < ls.length), OLAt Is xs i ls[i]
theorem OLists.sl {O : Heaplet} {Is : List Heaplet} {v : Value} {ls : List (List Int)} (hO : OLists O Is v ls) : Sl v ls.length := by
  obtain ⟨xs, hR, _⟩ := hO.ex
  exact hR.sl
theorem OLists.nil (O : Heaplet) (v : Value) (h : Row O 25 1 v 0 []) : OLists O [] v [] := ⟨rfl, [], h, fun i hi => by simp at hi⟩

section
variable {h : GH} {Ls : List Heaplet} {w : World}

/-- A list of lists that reads so. -/
structure RdLL (h : GH) (Ls : List Heaplet) (v : Value) (ls : List (List Int)) : Prop where
  sl : Sl v ls.length
  at_ : ∀ {i} (hi : i < ls.length), ∃ u, RdL h Ls u ls[i] ∧ ∀ {w}, H w h Ls → w.cell? ((slA v).add (i * 1)) = some u
/-- A shared list of lists. -/
structure Lists (h : GH) (v : Value) (ls : List (List Int)) : Prop where
  sl : Sl v ls.length
  at_ : ∀ {i} (hi : i < ls.length), ∃ u, Ints h u ls[i] ∧ (slA v).spot = none ∧ ∃ cs e fz, h.blk (slA v).block = some (.cells cs e fz) ∧ cs[(slA v).off + i]? = some u
theorem Lists.mono {h h' : GH} {v : Value} {ls : List (List Int)} (hL : Lists h v ls) (hle : h.Le h') : Lists h' v ls := ⟨hL.sl, fun hi => by
  obtain ⟨u, h1, h2, cs, e, fz, h3, h4⟩ := hL.at_ hi
  exact ⟨u, h1.mono hle, h2, cs, e, fz, hle.blk _ _ h3, h4⟩⟩
theorem Lists.elem {v : Value} {ls : List (List Int)} (hL : Lists h v ls) {i : Nat} (hi : i < ls.length) : ∃ u, Ints h u ls[i] ∧ ∀ {w Ls}, H w h Ls → w.cell? ((slA v).add (i * 1)) = some u := by
  obtain ⟨u, h1, h2, cs, e, fz, h3, h4⟩ := hL.at_ hi
  refine ⟨u, h1, fun hH => ?_⟩
  rw [Nat.mul_one, add_of h2, cell_of_heap (hH.rd _ _ h3)]
  exact h4
theorem Lists.rdll {v : Value} {ls : List (List Int)} (hL : Lists h v ls) (Ls : List Heaplet) : RdLL h Ls v ls := ⟨hL.sl, fun hi => by
  obtain ⟨u, h1, h2⟩ := hL.elem hi
  exact ⟨u, h1.rdl _, fun hH => h2 hH⟩⟩

/-- Where the parts of a list of lists lie. -/
structure LAt (Ls : List Heaplet) (a b : Nat) (O : Heaplet) (Is : List Heaplet) : Prop where
  o : Ls[a]? = some O
  i : ∀ j F, Is[j]? = some F → Ls[b + j]? = some F
theorem LAt.cons {O : Heaplet} {Is Ms : List Heaplet} : LAt (O :: (Is ++ Ms)) 0 1 O Is := ⟨rfl, fun j F hj => by
  rw [show 1 + j = j + 1 by omega, List.getElem?_cons_succ, List.getElem?_append_left (List.getElem?_eq_some_iff.1 hj).1]
  exact hj⟩
theorem LAt.skip {O : Heaplet} {Is Ms : List Heaplet} {a b : Nat} (hL : LAt Ms a b O Is) (A : List Heaplet) : LAt (A ++ Ms) (A.length + a) (A.length + b) O Is :=
  ⟨by rw [List.getElem?_append_right (by omega), Nat.add_sub_cancel_left]; exact hL.o, fun j F hj => by
    rw [Nat.add_assoc, List.getElem?_append_right (by omega), Nat.add_sub_cancel_left]; exact hL.i j F hj⟩
theorem LAt.skip1 {O X : Heaplet} {Is Ms : List Heaplet} {a b : Nat} (hL : LAt Ms a b O Is) : LAt (X :: Ms) (a + 1) (b + 1) O Is :=
  ⟨hL.o, fun j F hj => by rw [show b + 1 + j = b + j + 1 by omega, List.getElem?_cons_succ]; exact hL.i j F hj⟩
theorem OLists.elem {O : Heaplet} {Is : List Heaplet} {v : Value} {ls : List (List Int)} (hO : OLists O Is v ls) {a b : Nat} (hA : LAt Ls a b O Is) {i : Nat} (hi : i < ls.length) :
    ∃ u F, IRow F 3 u ls[i] ∧ Is[i]? = some F ∧ Ls[b + i]? = some F ∧ ∀ {w}, H w h Ls → w.cell? ((slA v).add (i * 1)) = some u := by
  obtain ⟨xs, hR, hat⟩ := hO.ex
  obtain ⟨u, F, h1, h2, h3⟩ := hat i hi
  exact ⟨u, F, h3, h2, hA.i i F h2, fun hH => by rw [Nat.mul_one]; exact hR.cell hH hA.o h1⟩
theorem OLists.rdll {O : Heaplet} {Is : List Heaplet} {v : Value} {ls : List (List Int)} (hO : OLists O Is v ls) {a b : Nat} (hA : LAt Ls a b O Is) : RdLL h Ls v ls := ⟨hO.sl, fun hi => by
  obtain ⟨u, F, h1, _, h2, h3⟩ := hO.elem (h := h) hA hi
  exact ⟨u, h1.rdl h2, fun hH => h3 hH⟩⟩
/-- A list more. -/
theorem OLists.snoc {O O' : Heaplet} {Is : List Heaplet} {v v' : Value} {ls : List (List Int)} {xs : List Value} {l : List Int} {u : Value} {F : Heaplet} (hil : Is.length = ls.length) (hR : Row O 25 1 v ls.length xs) (hat : ∀ i (hi : i < ls.length), OLAt Is xs i ls[i])
    (hO : Row O' 25 1 v' (ls.length + 1) (xs ++ [u])) (hF : IRow F 3 u l) : OLists O' (Is ++ [F]) v' (ls ++ [l]) := by
  have hxl := hR.len
  refine ⟨by simp [hil], _, by simpa using hO, fun i hi => ?_⟩
  rw [List.getElem_append]
  split
  · rename_i h1
    obtain ⟨u', F', g1, g2, g3⟩ := hat i h1
    exact ⟨u', F', by rw [List.getElem?_append_left (List.getElem?_eq_some_iff.1 g1).1]; exact g1, by rw [List.getElem?_append_left (List.getElem?_eq_some_iff.1 g2).1]; exact g2, g3⟩
  · rename_i h1
    have : i = ls.length := by simp at hi; omega
    subst this
    refine ⟨u, F, by rw [List.getElem?_append_right (by omega)]; simp [hxl], by rw [List.getElem?_append_right (by omega)]; simp [hil], by simpa using hF⟩
/-- One of the lists is replaced. -/
theorem OLists.set {O' : Heaplet} {Is : List Heaplet} {v : Value} {ls : List (List Int)} {xs : List Value} {l : List Int} {u : Value} {F : Heaplet} {k : Nat} (hk : k < ls.length) (hil : Is.length = ls.length) (hxl : xs.length = ls.length) (hat : ∀ i (hi : i < ls.length), OLAt Is xs i ls[i])
    (hO : Row O' 25 1 v ls.length (xs.set k u)) (hF : IRow F 3 u l) : OLists O' (Is.set k F) v (ls.set k l) := by
  refine ⟨by simp [hil], _, by simpa using hO, fun i hi => ?_⟩
  have hi' : i < ls.length := by simpa using hi
  rw [List.getElem_set]
  split
  · rename_i h1
    subst h1
    exact ⟨u, F, by rw [List.getElem?_set, if_pos rfl, if_pos (by omega)], by rw [List.getElem?_set, if_pos rfl, if_pos (by omega)], hF⟩
  · rename_i h1
    obtain ⟨u', F', g1, g2, g3⟩ := hat i hi'
    exact ⟨u', F', by rw [List.getElem?_set, if_neg h1]; exact g1, by rw [List.getElem?_set, if_neg h1]; exact g2, g3⟩
/-- It can be shared. -/
theorem OLists.lists {O : Heaplet} {Is : List Heaplet} {v : Value} {ls : List (List Int)} (hO : OLists O Is v ls) {h' : GH} (hX : ∀ q ∈ (O :: Is).flatten, h'.blk q.1 = some q.2) : Lists h' v ls := by
  obtain ⟨xs, hR, hat⟩ := hO.ex
  refine ⟨hR.sl, fun {i} hi => ?_⟩
  obtain ⟨u, F, h1, h2, h3⟩ := hat i hi
  obtain ⟨g1, cs, e, fz, g2, g3⟩ := hR.rd (fun q hq => hX q (by simp [hq])) _ _ h1
  exact ⟨u, h3.ints fun q hq => hX q (by
    simp only [List.flatten_cons]
    exact List.mem_append_right _ (List.mem_flatten.2 ⟨_, List.mem_of_getElem? h2, hq⟩)), g1, cs, e, fz, g2, g3⟩
theorem OLists.freeze {O : Heaplet} {Is : List Heaplet} {v : Value} {ls : List (List Int)} (hO : OLists O Is v ls) (hH : H w h (O :: (Is ++ Ls))) :
    ∃ h', h.Le h' ∧ H w h' Ls ∧ Lists h' v ls ∧ ∀ {w2 Ls2}, H w2 h' Ls2 → H w2 h (O :: (Is ++ Ls2)) := by
  have hH' : H w h ((O :: Is).flatten :: Ls) := by simpa [H] using hH
  obtain ⟨h', hle, hH2, hX2, hnd, _⟩ := hH'.freeze
  exact ⟨h', hle, hH2, hO.lists fun q hq => (hX2 q hq).1, fun hH3 => by simpa [H] using hH3.unfreeze hle hX2 hnd⟩

theorem sameRows_ok (hH : H w h Ls) {av bv : Value} {xs ys : List (List Int)} (hA : RdLL h Ls av xs) (hB : RdLL h Ls bv ys) : Rets Tryz.prog 17 #[av, bv] w fun v w' => v = .bool (decide (xs = ys)) ∧ H w' h Ls := by
  have hal := hA.sl.lim
  refine rets_enter Tryz.func17 rfl Tryz.ntmps17 (by simp) ?_
  refine WT_seq ?_
  refine WT_region ?_
  refine WL_v rfl (ov_assign rfl) ?_
  refine WL_nil ?_
  refine WT_seq ?_
  refine WT_seq ?_
  refine WT_region ?_
  refine WL_v rfl (ov_move rfl) ?_
  refine WL_v rfl (ov_len rfl hA.sl st_sl_sl_int) ?_
  refine WL_v rfl (ov_move rfl) ?_
  refine WL_v rfl (ov_len rfl hB.sl st_sl_sl_int) ?_
  refine WL_v rfl (ov_neq rfl rfl) ?_
  refine WL_nil ?_
  refine WT_cond rfl (fun hne => ?_) (fun hne => ?_)
  · skip
    first | with_reducible replace hne := of_decide_eq_true hne | with_reducible replace hne := bn_T hne | with_reducible replace hne := bb_T hne | skip
    refine WT_seq ?_
    refine WT_region ?_
    refine WL_v rfl (ov_assign rfl) ?_
    refine WL_nil ?_
    exact WT_ret1 Tryz.func17 Tryz.results17 rfl ⟨congrArg Value.bool (decide_eq_false fun h => by subst h; exact hne rfl).symm, hH⟩
  first | with_reducible replace hne := of_decide_eq_false hne | with_reducible replace hne := bn_F hne | with_reducible replace hne := bb_F hne | skip
  have hlen : xs.length = ys.length := by omega
  refine WT_skip ?_
  refine WT_seq ?_
  refine WT_seq ?_
  refine WT_region ?_
  refine WL_v rfl (ov_assign rfl) ?_
  refine WL_nil ?_
  refine WT_block ?_
  refine WT_while (fun s : Nat => [(0, av), (1, bv), (5, .int .i64 (s : Int))]) (fun k w => k ≤ xs.length ∧ (∀ j (_ : j < k) (h1 : j < xs.length) (h2 : j < ys.length), xs[j] = ys[j]) ∧ H w h Ls) (fun k => xs.length - k) 0 (by repeat (first | exact trivial | refine ⟨rfl, ?_⟩)) ⟨by omega, by omega, hH⟩ ?_
  clear hH
  rintro k w2 ⟨hk, hall, hH1⟩ again
  refine WT_seq ?_
  refine WT_seq ?_
  refine WT_region ?_
  refine WL_v rfl (ov_move rfl) ?_
  refine WL_v rfl (ov_move rfl) ?_
  refine WL_v rfl (ov_len rfl hA.sl st_sl_sl_int) ?_
  refine WL_v rfl (ov_lss rfl rfl) ?_
  refine WL_nil ?_
  refine WT_cond rfl (fun hc => ?_) (fun hc => ?_)
  · skip
    first | with_reducible replace hc := of_decide_eq_true hc | with_reducible replace hc := bn_T hc | with_reducible replace hc := bb_T hc | skip
    have hkx : k < xs.length := by omega
    have hky : k < ys.length := by omega
    obtain ⟨u1, g1, c1⟩ := hA.at_ hkx
    obtain ⟨u2, g2, c2⟩ := hB.at_ hky
    refine WT_skip ?_
    refine WT_seq ?_
    refine WT_block ?_
    refine WT_seq ?_
    refine WT_quiet mixed (by kernel_rfl) hH1 ?_
    clear hH1
    refine WQ_v rfl (fun _ _ => ov_move rfl) ?_
    refine WQ_v rfl (fun _ _ => ov_move rfl) ?_
    refine WQ_v rfl (fun _ _ => ov_index rfl rfl st_sl_sl_int hA.sl hkx) ?_
    refine WQ_v rfl (fun _ hH => ov_load rfl one_sl_int (c1 hH)) ?_
    refine WQ_v rfl (fun _ _ => ov_move rfl) ?_
    refine WQ_v rfl (fun _ _ => ov_move rfl) ?_
    refine WQ_v rfl (fun _ _ => ov_index rfl rfl st_sl_sl_int hB.sl hky) ?_
    refine WQ_v rfl (fun _ hH => ov_load rfl one_sl_int (c2 hH)) ?_
    refine WQ_call rfl rfl cf_laws_sameRow (fun _ hH => sameRow_ok hH g1 g2) ?_
    refine WQ_v rfl (fun _ _ => ov_not rfl) ?_
    refine WQ_nil ?_
    intro w3 hH1
    refine WT_cond rfl (fun hne => ?_) (fun hne => ?_)
    · skip
      first | with_reducible replace hne := of_decide_eq_true hne | with_reducible replace hne := bn_T hne | with_reducible replace hne := bb_T hne | skip
      refine WT_seq ?_
      refine WT_region ?_
      refine WL_v rfl (ov_assign rfl) ?_
      refine WL_nil ?_
      exact WT_ret1 Tryz.func17 Tryz.results17 rfl ⟨congrArg Value.bool (decide_eq_false fun h => by subst h; simp at hne).symm, hH1⟩
    first | with_reducible replace hne := of_decide_eq_false hne | with_reducible replace hne := bn_F hne | with_reducible replace hne := bb_F hne | skip
    refine WT_skip ?_
    refine WT_inBlock ?_
    refine WT_region ?_
    refine WL_v rfl (ov_move rfl) ?_
    refine WL_v rfl (ov_add rfl rfl (by omega)) ?_
    refine WL_v rfl (ov_assign rfl) ?_
    refine WL_nil ?_
    refine again (k + 1) _ _ (by omega) (by repeat (first | exact trivial | refine ⟨rfl, ?_⟩)) ⟨by omega, fun j hj h1 h2 => ?_, hH1⟩
    rcases Nat.lt_or_ge j k with h3 | h3
    · exact hall j h3 h1 h2
    · obtain rfl : j = k := by omega
      simpa using hne
  first | with_reducible replace hc := of_decide_eq_false hc | with_reducible replace hc := bn_F hc | with_reducible replace hc := bb_F hc | skip
  obtain rfl : k = xs.length := by omega
  refine WT_exit rfl ?_
  refine WT_seq ?_
  refine WT_region ?_
  refine WL_v rfl (ov_assign rfl) ?_
  refine WL_nil ?_
  exact WT_ret1 Tryz.func17 Tryz.results17 rfl ⟨congrArg Value.bool (decide_eq_true (List.ext_getElem hlen fun j h1 h2 => hall j h1 h1 h2)).symm, hH1⟩
end
end Go.Proofs.YteagnhdhafiofaaGreat

/- Plain: what kinds do with rows, and the rows of a plan. No program in sight. -/
namespace Go.Proofs.YteagnhdhafiofaaGreat

def bothOk (a b : List Int) : Bool := rowOk a && rowOk b && decide (a.length = b.length)
def pairL (f : Int → Int → Int) (a b : List Int) : List Int := if bothOk a b then List.zipWith (fun x y => f x y % 1009) a b else []
def sumsFrom : Int → List Int → List Int
  | _, [] => []
  | s, x :: r => ((s + x) % 1009) :: sumsFrom ((s + x) % 1009) r
def sumsL (r : List Int) : List Int := if rowOk r then sumsFrom 0 r else []
/-- A number is put into a list: ahead of the first greater one. -/
def putL (n : Int) : List Int → List Int
  | [] => [n]
  | x :: r => if n < x then n :: x :: r else x :: putL n r
def isortL (r : List Int) : List Int := r.foldl (fun acc n => putL n acc) []
def sortL (r : List Int) : List Int := if rowOk r then isortL r else []
def turnL (r : List Int) : List Int := if rowOk r then r.reverse else []
def one1 (f : List Int → List Int) : List (List Int) → List Int
  | [a] => f a
  | _ => []
def two2 (f : List Int → List Int → List Int) : List (List Int) → List Int
  | [a, b] => f a b
  | _ => []
def kindRow (k : Int) (rows : List (List Int)) : List Int :=
  if k = 1 then two2 (pairL (· + ·)) rows else if k = 2 then two2 (pairL (· * ·)) rows else if k = 3 then one1 sumsL rows else if k = 4 then one1 sortL rows else if k = 5 then one1 turnL rows else []
/-- The row of a node from the rows of the ones ahead. -/
def stepL (x : Nd) (rows : List (List Int)) : List Int := if x.kind = 0 then x.row else kindRow x.kind (x.frm.map fun f => rows.getD f.toNat [])
def valsTo (p : List Nd) : Nat → List (List Int)
  | 0 => []
  | n + 1 => valsTo p n ++ [stepL (p.getD n default) (valsTo p n)]
/-- The rows of a plan. -/
abbrev valsL (p : List Nd) : List (List Int) := valsTo p p.length

theorem rowOk_iff (r : List Int) : rowOk r = true ↔ (∀ x ∈ r, 0 ≤ x ∧ x ≤ 1008) ∧ r.length ≤ 6 := by
  simp only [rowOk, Bool.and_eq_true, List.all_eq_true, decide_eq_true_eq]
theorem rowOk_nil : rowOk [] = true := rfl
theorem bothOk_iff (a b : List Int) : bothOk a b = true ↔ rowOk a = true ∧ rowOk b = true ∧ a.length = b.length := by
  simp only [bothOk, Bool.and_eq_true, decide_eq_true_eq, and_assoc]

theorem pairL_len {f : Int → Int → Int} {a b : List Int} (h : bothOk a b = true) : (pairL f a b).length = a.length := by
  have := ((bothOk_iff a b).1 h).2.2
  simp [pairL, h, this]
theorem pairL_ok (f : Int → Int → Int) (a b : List Int) : rowOk (pairL f a b) = true := by
  by_cases h : bothOk a b = true
  · have hl := pairL_len (f := f) h
    have h6 := ((rowOk_iff a).1 ((bothOk_iff a b).1 h).1).2
    refine (rowOk_iff _).2 ⟨fun x hx => ?_, by omega⟩
    rw [pairL, if_pos h] at hx
    obtain ⟨i, hi, rfl⟩ := List.getElem_of_mem hx
    rw [List.getElem_zipWith]
    omega
  · rw [pairL, if_neg h]; rfl
theorem sumsFrom_len : ∀ (s : Int) (r : List Int), (sumsFrom s r).length = r.length
  | _, [] => rfl
  | s, x :: r => by simp [sumsFrom, sumsFrom_len]
theorem sumsFrom_mem : ∀ (s : Int) (r : List Int), ∀ x ∈ sumsFrom s r, 0 ≤ x ∧ x ≤ 1008
  | _, [], x, h => by simp [sumsFrom] at h
  | s, y :: r, x, h => by
    simp only [sumsFrom, List.mem_cons] at h
    rcases h with rfl | h
    · omega
    · exact sumsFrom_mem _ r x h
theorem sumsL_ok (r : List Int) : rowOk (sumsL r) = true := by
  by_cases h : rowOk r = true
  · rw [sumsL, if_pos h]
    exact (rowOk_iff _).2 ⟨sumsFrom_mem 0 r, by rw [sumsFrom_len]; exact ((rowOk_iff r).1 h).2⟩
  · rw [sumsL, if_neg h]; rfl
theorem putL_len (n : Int) : ∀ l : List Int, (putL n l).length = l.length + 1
  | [] => rfl
  | x :: r => by
    unfold putL
    split
    · rfl
    · simp [putL_len n r]
theorem putL_mem (n : Int) : ∀ (l : List Int) (x : Int), x ∈ putL n l ↔ x = n ∨ x ∈ l
  | [], x => by simp [putL]
  | y :: r, x => by
    unfold putL
    split
    · simp
    · rw [List.mem_cons, putL_mem n r, List.mem_cons]
      constructor
      · rintro (h | h | h) <;> simp [h]
      · rintro (h | h | h) <;> simp [h]
theorem putL_sorted (n : Int) : ∀ (l : List Int), l.Pairwise (· ≤ ·) → (putL n l).Pairwise (· ≤ ·)
  | [], _ => by simp [putL]
  | y :: r, h => by
    rw [List.pairwise_cons] at h
    unfold putL
    split
    · rename_i hlt
      refine List.pairwise_cons.2 ⟨fun z hz => ?_, List.pairwise_cons.2 h⟩
      rcases List.mem_cons.1 hz with rfl | hz
      · omega
      · have := h.1 z hz; omega
    · rename_i hlt
      refine List.pairwise_cons.2 ⟨fun z hz => ?_, putL_sorted n r h.2⟩
      rcases (putL_mem n r z).1 hz with rfl | hz
      · omega
      · exact h.1 z hz
theorem putL_perm (n : Int) : ∀ (l : List Int), (putL n l).Perm (n :: l)
  | [] => .refl _
  | y :: r => by
    unfold putL
    split
    · exact .refl _
    · exact ((putL_perm n r).cons y).trans (List.Perm.swap n y r)
/-- Where a number is put that comes behind some and ahead of all others. -/
theorem putL_mid (n : Int) : ∀ (a b : List Int), (∀ x ∈ a, x ≤ n) → (∀ x, b.head? = some x → n < x) → putL n (a ++ b) = a ++ n :: b
  | [], [], _, _ => rfl
  | [], y :: r, _, h => by
    have := h y rfl
    simp [putL, this]
  | x :: a, b, h1, h2 => by
    have := h1 x (by simp)
    rw [List.cons_append, putL, if_neg (by omega), putL_mid n a b (fun y hy => h1 y (by simp [hy])) h2, List.cons_append]
theorem isort_fold : ∀ (r acc : List Int), acc.Pairwise (· ≤ ·) → (r.foldl (fun acc n => putL n acc) acc).Pairwise (· ≤ ·) ∧ (r.foldl (fun acc n => putL n acc) acc).Perm (acc ++ r)
  | [], acc, h => ⟨h, by simp⟩
  | x :: r, acc, h => by
    obtain ⟨h1, h2⟩ := isort_fold r (putL x acc) (putL_sorted x acc h)
    refine ⟨h1, h2.trans ?_⟩
    exact ((putL_perm x acc).append_right r).trans (List.perm_middle.symm)
theorem isort_sorted (r : List Int) : (isortL r).Pairwise (· ≤ ·) := (isort_fold r [] List.Pairwise.nil).1
theorem isort_perm (r : List Int) : (isortL r).Perm r := (isort_fold r [] List.Pairwise.nil).2
theorem isort_len (r : List Int) : (isortL r).length = r.length := (isort_perm r).length_eq
theorem isort_snoc (r : List Int) (x : Int) : isortL (r ++ [x]) = putL x (isortL r) := by simp [isortL, List.foldl_append]
theorem sortL_ok (r : List Int) : rowOk (sortL r) = true := by
  by_cases h : rowOk r = true
  · rw [sortL, if_pos h]
    obtain ⟨h1, h2⟩ := (rowOk_iff r).1 h
    exact (rowOk_iff _).2 ⟨fun x hx => h1 x ((isort_perm r).mem_iff.1 hx), by rw [isort_len]; exact h2⟩
  · rw [sortL, if_neg h]; rfl
theorem turnL_ok (r : List Int) : rowOk (turnL r) = true := by
  by_cases h : rowOk r = true
  · rw [turnL, if_pos h]
    obtain ⟨h1, h2⟩ := (rowOk_iff r).1 h
    exact (rowOk_iff _).2 ⟨fun x hx => h1 x (List.mem_reverse.1 hx), by simpa using h2⟩
  · rw [turnL, if_neg h]; rfl
theorem one1_ok {f : List Int → List Int} (hf : ∀ r, rowOk (f r) = true) (rows : List (List Int)) : rowOk (one1 f rows) = true := by
  unfold one1
  split
  · exact hf _
  · rfl
theorem two2_ok {f : List Int → List Int → List Int} (hf : ∀ a b, rowOk (f a b) = true) (rows : List (List Int)) : rowOk (two2 f rows) = true := by
  unfold two2
  split
  · exact hf _ _
  · rfl
theorem kindRow_ok (k : Int) (rows : List (List Int)) : rowOk (kindRow k rows) = true := by
  unfold kindRow
  split; · exact two2_ok (pairL_ok _) _
  split; · exact two2_ok (pairL_ok _) _
  split; · exact one1_ok sumsL_ok _
  split; · exact one1_ok sortL_ok _
  split; · exact one1_ok turnL_ok _
  rfl
theorem stepL_ok {x : Nd} (h : rowOk x.row = true) (rows : List (List Int)) : rowOk (stepL x rows) = true := by
  unfold stepL
  split
  · exact h
  · exact kindRow_ok _ _

theorem valsTo_len (p : List Nd) : ∀ n, (valsTo p n).length = n
  | 0 => rfl
  | n + 1 => by simp [valsTo, valsTo_len p n]
theorem valsTo_last (p : List Nd) (n : Nat) : (valsTo p (n + 1)).getD n [] = stepL (p.getD n default) (valsTo p n) := by
  have := valsTo_len p n
  rw [valsTo, List.getD_eq_getElem?_getD, List.getElem?_append_right (by omega)]
  simp [this]
theorem valsTo_keep (p : List Nd) {i n : Nat} (hi : i < n) : ∀ {m : Nat}, n ≤ m → (valsTo p m).getD i [] = (valsTo p n).getD i [] := by
  intro m hm
  induction m with
  | zero => omega
  | succ m ih =>
    rcases Nat.lt_or_ge m n with h | h
    · obtain rfl : n = m + 1 := by omega
      rfl
    · rw [← ih h, valsTo, List.getD_eq_getElem?_getD, List.getElem?_append_left (by rw [valsTo_len]; omega), ← List.getD_eq_getElem?_getD]
/-- The row of a node. -/
theorem vals_step (p : List Nd) {i : Nat} (hi : i < p.length) : (valsL p).getD i [] = stepL (p.getD i default) (valsTo p i) := by
  rw [valsTo_keep p (Nat.lt_succ_self i) hi, valsTo_last]
theorem vals_ok {p : List Nd} (hp : planOk p = true) {i : Nat} : rowOk ((valsL p).getD i []) = true := by
  rcases Nat.lt_or_ge i p.length with h | h
  · rw [vals_step p h, getD_of h]
    exact stepL_ok (PlanOk.node hp h).row _
  · rw [List.getD_eq_getElem?_getD, List.getElem?_eq_none (by rw [valsTo_len]; exact h)]
    rfl

end Go.Proofs.YteagnhdhafiofaaGreat

/- Walks: what kinds do with rows. -/
namespace Go.Proofs.YteagnhdhafiofaaGreat
open Go.RowKit

section
variable {h : GH} {Ls : List Heaplet} {w : World}

theorem RdL.up {X : Heaplet} {v : Value} {xs : List Int} (hA : RdL h Ls v xs) : RdL h (X :: Ls) v xs := ⟨hA.sl, fun hH _ hj => hA.cell hH.drop hj⟩
/-- A row, and whether it was made. -/
def RowT (h : GH) (Ls : List Heaplet) (v : Value) (w' : World) (r : List Int) : Prop := ∃ rv b X, v = .tuple #[rv, .bool b] ∧ IRow X 3 rv r ∧ H w' h (X :: Ls)
theorem RowT.none (hH : H w h Ls) : RowT h Ls (.tuple #[.slice none 0 0, .bool false]) w [] := ⟨_, _, [], rfl, IRow.nil _, hH.nilIn⟩
theorem rowOk_F {r : List Int} (h : ¬ rowOk r = true) : rowOk r = false := by simpa using h
theorem rowOk_len6 {r : List Int} (h : rowOk r = true) : r.length ≤ 6 := ((rowOk_iff r).1 h).2
theorem rowOk_at {r : List Int} (h : rowOk r = true) {i : Nat} (hi : i < r.length) : 0 ≤ r[i] ∧ r[i] ≤ 1008 := ((rowOk_iff r).1 h).1 _ (List.getElem_mem hi)

theorem rvValidR_ok (hH : H w h Ls) {rv : Value} {r : List Int} (hR : RdL h Ls rv r) : Rets Tryz.prog 151 #[rv] w fun v w' => v = .bool (rowOk r) ∧ H w' h Ls := by
  refine rets_enter Tryz.func151 rfl Tryz.ntmps151 (by simp) ?_
  refine WT_seq ?_
  refine WT_region ?_
  refine WL_v rfl (ov_assign rfl) ?_
  refine WL_nil ?_
  refine WT_seq ?_
  refine WT_seq ?_
  refine WT_region ?_
  refine WL_v rfl (ov_move rfl) ?_
  refine WL_v rfl (ov_len rfl hR.sl st_impl_rowValues) ?_
  refine WL_v rfl (ov_gtr rfl rfl) ?_
  refine WL_nil ?_
  refine WT_cond rfl (fun hl => ?_) (fun hl => ?_)
  · skip
    first | with_reducible replace hl := of_decide_eq_true hl | with_reducible replace hl := bn_T hl | with_reducible replace hl := bb_T hl | skip
    refine WT_seq ?_
    refine WT_region ?_
    refine WL_v rfl (ov_assign rfl) ?_
    refine WL_nil ?_
    exact WT_ret1 Tryz.func151 Tryz.results151 rfl ⟨by rw [rowOk_len (by omega)], hH⟩
  first | with_reducible replace hl := of_decide_eq_false hl | with_reducible replace hl := bn_F hl | with_reducible replace hl := bb_F hl | skip
  refine WT_skip ?_
  refine WT_seq ?_
  refine WT_seq ?_
  refine WT_region ?_
  refine WL_v rfl (ov_move rfl) ?_
  refine WL_v rfl (ov_len rfl hR.sl st_impl_rowValues) ?_
  refine WL_v rfl (ov_move rfl) ?_
  refine WL_nil ?_
  refine WT_block ?_
  refine WT_while (fun s : Nat => [(0, rv), (8, rv), (9, .int .i64 (r.length : Int)), (10, .int .i64 (s : Int))]) (fun k w => k ≤ r.length ∧ (∀ j (_ : j < k) (hjr : j < r.length), 0 ≤ r[j] ∧ r[j] ≤ 1008) ∧ H w h Ls) (fun k => r.length - k) 0 (by repeat (first | exact trivial | refine ⟨rfl, ?_⟩)) ⟨by omega, by omega, hH⟩ ?_
  clear hH
  rintro k w1 ⟨hk, hall, hH⟩ again
  refine WT_seq ?_
  refine WT_region ?_
  refine WL_v rfl (ov_lss rfl rfl) ?_
  refine WL_nil ?_
  refine WT_seq ?_
  refine WT_cond rfl (fun hc => ?_) (fun hc => ?_)
  · skip
    first | with_reducible replace hc := of_decide_eq_true hc | with_reducible replace hc := bn_T hc | with_reducible replace hc := bb_T hc | skip
    have hkr : k < r.length := by omega
    by_cases h1 : r[k] < 0
    · skip
      refine WT_skip ?_
      refine WT_seq ?_
      refine WT_block ?_
      refine WT_seq ?_
      refine WT_region ?_
      refine WL_v rfl (ov_index rfl rfl st_impl_rowValues hR.sl hkr) ?_
      refine WL_v rfl (ov_load rfl one_int (hR.cell hH hkr)) ?_
      refine WL_v rfl (ov_assign rfl) ?_
      refine WL_nil ?_
      refine WT_seq ?_
      refine WT_region ?_
      refine WL_v rfl (ov_move rfl) ?_
      refine WL_v rfl (ov_T (ov_lss rfl rfl) (by first | exact decide_eq_true h1 | exact nb_T h1 | exact mb_T h1 | exact h1 | (simp only [decide_eq_true_eq]; omega) | simpa using h1)) ?_
      refine WL_v rfl (ov_move rfl) ?_
      refine WL_guardOff rfl rfl rfl rfl ?_
      refine WL_guardOff rfl rfl rfl rfl ?_
      refine WL_v rfl (ov_pickT rfl rfl) ?_
      refine WL_nil ?_
      refine WT_condT rfl ?_
      refine WT_seq ?_
      refine WT_region ?_
      refine WL_v rfl (ov_assign rfl) ?_
      refine WL_nil ?_
      exact WT_ret1 Tryz.func151 Tryz.results151 rfl ⟨by rw [rowOk_bad hkr (by omega)], hH⟩
    refine WT_skip ?_
    refine WT_seq ?_
    refine WT_block ?_
    refine WT_seq ?_
    refine WT_region ?_
    refine WL_v rfl (ov_index rfl rfl st_impl_rowValues hR.sl hkr) ?_
    refine WL_v rfl (ov_load rfl one_int (hR.cell hH hkr)) ?_
    refine WL_v rfl (ov_assign rfl) ?_
    refine WL_nil ?_
    refine WT_seq ?_
    refine WT_region ?_
    refine WL_v rfl (ov_move rfl) ?_
    refine WL_v rfl (ov_F (ov_lss rfl rfl) (by first | exact decide_eq_false h1 | exact nb_F h1 | exact mb_F h1 | exact h1 | (simp only [decide_eq_false_iff_not]; omega) | simpa using h1)) ?_
    refine WL_v rfl (ov_move rfl) ?_
    refine WL_guardOn rfl rfl ?_
    refine WL_v rfl (ov_move rfl) ?_
    refine WL_guardOn rfl rfl ?_
    refine WL_v rfl (ov_geq rfl rfl) ?_
    refine WL_v rfl (ov_pickF rfl rfl) ?_
    refine WL_nil ?_
    refine WT_cond rfl (fun h2 => ?_) (fun h2 => ?_)
    · skip
      first | with_reducible replace h2 := of_decide_eq_true h2 | with_reducible replace h2 := bn_T h2 | with_reducible replace h2 := bb_T h2 | skip
      refine WT_seq ?_
      refine WT_region ?_
      refine WL_v rfl (ov_assign rfl) ?_
      refine WL_nil ?_
      exact WT_ret1 Tryz.func151 Tryz.results151 rfl ⟨by rw [rowOk_bad hkr (by omega)], hH⟩
    first | with_reducible replace h2 := of_decide_eq_false h2 | with_reducible replace h2 := bn_F h2 | with_reducible replace h2 := bb_F h2 | skip
    refine WT_skip ?_
    refine WT_inBlock ?_
    refine WT_region ?_
    refine WL_v rfl (ov_add rfl rfl (by omega)) ?_
    refine WL_v rfl (ov_move rfl) ?_
    refine WL_nil ?_
    refine again (k + 1) _ _ (by omega) (by repeat (first | exact trivial | refine ⟨rfl, ?_⟩)) ⟨by omega, fun j hj hjr => ?_, hH⟩
    rcases Nat.lt_or_ge j k with h1 | h1
    · exact hall j h1 hjr
    · obtain rfl : j = k := by omega
      omega
  first | with_reducible replace hc := of_decide_eq_false hc | with_reducible replace hc := bn_F hc | with_reducible replace hc := bb_F hc | skip
  obtain rfl : k = r.length := by omega
  refine WT_exit rfl ?_
  refine WT_seq ?_
  refine WT_region ?_
  refine WL_v rfl (ov_assign rfl) ?_
  refine WL_nil ?_
  exact WT_ret1 Tryz.func151 Tryz.results151 rfl ⟨by rw [rowOk_good (by omega) (fun j hj => hall j hj hj)], hH⟩

theorem sRowValidR_ok (hH : H w h Ls) {rv : Value} {r : List Int} (hR : RdL h Ls rv r) : Rets Tryz.prog 110 #[rv] w fun v w' => v = .bool (rowOk r) ∧ H w' h Ls := by
  have hlim := hR.sl.lim
  refine rets_enter Tryz.func110 rfl Tryz.ntmps110 (by simp) ?_
  refine WT_seq ?_
  refine WT_region ?_
  refine WL_v rfl (ov_assign rfl) ?_
  refine WL_nil ?_
  refine WT_seq ?_
  refine WT_seq ?_
  refine WT_region ?_
  refine WL_v rfl (ov_assign rfl) ?_
  refine WL_nil ?_
  refine WT_block ?_
  refine WT_while (fun s : Nat => [(0, rv), (3, .int .i64 (s : Int))]) (fun k w => k ≤ r.length ∧ (∀ j (hj : j < k) (hjr : j < r.length), 0 ≤ r[j] ∧ r[j] ≤ 1008) ∧ H w h Ls) (fun k => r.length - k) 0 (by repeat (first | exact trivial | refine ⟨rfl, ?_⟩)) ⟨by omega, by omega, hH⟩ ?_
  clear hH
  rintro k w1 ⟨hk, hall, hH⟩ again
  refine WT_seq ?_
  refine WT_seq ?_
  refine WT_region ?_
  refine WL_v rfl (ov_move rfl) ?_
  refine WL_v rfl (ov_move rfl) ?_
  refine WL_v rfl (ov_len rfl hR.sl st_sl_int) ?_
  refine WL_v rfl (ov_lss rfl rfl) ?_
  refine WL_nil ?_
  refine WT_cond rfl (fun hc => ?_) (fun hc => ?_)
  · skip
    first | with_reducible replace hc := of_decide_eq_true hc | with_reducible replace hc := bn_T hc | with_reducible replace hc := bb_T hc | skip
    have hkr : k < r.length := by omega
    refine WT_skip ?_
    refine WT_seq ?_
    refine WT_block ?_
    refine WT_seq ?_
    refine WT_region ?_
    refine WL_v rfl (ov_move rfl) ?_
    refine WL_v rfl (ov_move rfl) ?_
    refine WL_v rfl (ov_index rfl rfl st_sl_int hR.sl hkr) ?_
    refine WL_v rfl (ov_load rfl one_int (hR.cell hH hkr)) ?_
    refine WL_call rfl rfl cf_spec_l6In (l6In_ok hH _ _ _) ?_; rintro _ w2 ⟨rfl, hH2⟩
    refine WL_v rfl (ov_not rfl) ?_
    refine WL_nil ?_
    refine WT_cond rfl (fun hin => ?_) (fun hin => ?_)
    · skip
      first | with_reducible replace hin := of_decide_eq_true hin | with_reducible replace hin := bn_T hin | with_reducible replace hin := bb_T hin | skip
      refine WT_seq ?_
      refine WT_region ?_
      refine WL_v rfl (ov_assign rfl) ?_
      refine WL_nil ?_
      exact WT_ret1 Tryz.func110 Tryz.results110 rfl ⟨congrArg Value.bool (by rw [rowOk, List.all_eq_false.2 ⟨_, List.getElem_mem hkr, by simpa using hin⟩, Bool.false_and]), hH2⟩
    first | with_reducible replace hin := of_decide_eq_false hin | with_reducible replace hin := bn_F hin | with_reducible replace hin := bb_F hin | skip
    refine WT_skip ?_
    refine WT_inBlock ?_
    refine WT_region ?_
    refine WL_v rfl (ov_move rfl) ?_
    refine WL_v rfl (ov_add rfl rfl (by omega)) ?_
    refine WL_v rfl (ov_assign rfl) ?_
    refine WL_nil ?_
    refine again (k + 1) _ _ (by omega) (by repeat (first | exact trivial | refine ⟨rfl, ?_⟩)) ⟨by omega, fun j hj hjr => ?_, hH2⟩
    rcases Nat.lt_or_ge j k with h1 | h1
    · exact hall j h1 hjr
    · obtain rfl : j = k := by omega
      exact hin
  first | with_reducible replace hc := of_decide_eq_false hc | with_reducible replace hc := bn_F hc | with_reducible replace hc := bb_F hc | skip
  obtain rfl : k = r.length := by omega
  refine WT_exit rfl ?_
  refine WT_seq ?_
  refine WT_region ?_
  refine WL_v rfl (ov_move rfl) ?_
  refine WL_v rfl (ov_len rfl hR.sl st_sl_int) ?_
  refine WL_v rfl (ov_leq rfl rfl) ?_
  refine WL_v rfl (ov_assign rfl) ?_
  refine WL_nil ?_
  exact WT_ret1 Tryz.func110 Tryz.results110 rfl ⟨congrArg Value.bool (by rw [rowOk, List.all_eq_true.2 (fun x hx => by obtain ⟨j, hj, rfl⟩ := List.mem_iff_getElem.1 hx; simpa using hall j hj hj), Bool.true_and]; exact decide_eq_decide.2 (by omega)), hH⟩

theorem pairL_snoc {f : Int → Int → Int} {a b : List Int} {k : Nat} (ha : k < a.length) (hb : k < b.length) : (List.zipWith (fun x y => f x y % 1009) a b).take (k + 1) = (List.zipWith (fun x y => f x y % 1009) a b).take k ++ [f a[k] b[k] % 1009] := by
  rw [List.take_succ_eq_append_getElem (by simp; omega), List.getElem_zipWith]

theorem join_ok (hH : H w h Ls) {av bv : Value} {a b : List Int} {fid : FuncId} {f : Int → Int → Int} (hA : RdL h Ls av a) (hB : RdL h Ls bv b)
    (hcf : ∀ (vs : Array Value) (W : World), (callFunc fid vs).run Tryz.prog W = .ok (.enter fid vs) W)
    (hf : ∀ {w : World} {Ls : List Heaplet} (x y : Int), 0 ≤ x → x ≤ 1008 → 0 ≤ y → y ≤ 1008 → H w h Ls → Rets Tryz.prog fid #[.int .i64 x, .int .i64 y] w fun v w' => v = .int .i64 (f x y) ∧ H w' h Ls)
    (hfp : ∀ x y : Int, 0 ≤ x → x ≤ 1008 → 0 ≤ y → y ≤ 1008 → 0 ≤ f x y) :
    Rets Tryz.prog 148 #[av, bv, .func (.func fid) #[] #[]] w fun v w' => RowT h Ls v w' (pairL f a b) := by
  have hva := fun {w : World} (hH : H w h Ls) => rvValidR_ok hH hA
  have hvb := fun {w : World} (hH : H w h Ls) => rvValidR_ok hH hB
  refine rets_enter Tryz.func148 rfl Tryz.ntmps148 (by simp) ?_
  by_cases ha : rowOk a = true
  · skip
    rw [ha] at hva
    by_cases hb : rowOk b = true
    · skip
      rw [hb] at hvb
      by_cases hl : a.length = b.length
      · skip
        have h6 := rowOk_len6 ha
        have hboth : bothOk a b = true := (bothOk_iff a b).2 ⟨ha, hb, hl⟩
        rw [pairL, if_pos hboth]
        refine WT_seq ?_
        refine WT_region ?_
        refine WL_v rfl (ov_assign rfl) ?_
        refine WL_v rfl (ov_assign rfl) ?_
        refine WL_nil ?_
        refine WT_seq ?_
        refine WT_seq ?_
        refine WT_region ?_
        refine WL_v rfl (ov_move rfl) ?_
        refine WL_call rfl rfl cf_impl_rowValues_valid (hva hH) ?_; rintro _ w1 ⟨rfl, hH1⟩
        refine WL_v rfl (ov_not rfl) ?_
        refine WL_v rfl (ov_move rfl) ?_
        refine WL_guardOn rfl rfl ?_
        refine WL_v rfl (ov_move rfl) ?_
        refine WL_guardOn rfl rfl ?_
        refine WL_call rfl rfl cf_impl_rowValues_valid (hvb hH1) ?_; rintro _ w2 ⟨rfl, hH2⟩
        refine WL_guardOn rfl rfl ?_
        refine WL_v rfl (ov_not rfl) ?_
        refine WL_v rfl (ov_pickF rfl rfl) ?_
        refine WL_v rfl (ov_move rfl) ?_
        refine WL_guardOn rfl rfl ?_
        refine WL_v rfl (ov_move rfl) ?_
        refine WL_guardOn rfl rfl ?_
        refine WL_v rfl (ov_len rfl hA.sl st_impl_rowValues) ?_
        refine WL_guardOn rfl rfl ?_
        refine WL_v rfl (ov_move rfl) ?_
        refine WL_guardOn rfl rfl ?_
        refine WL_v rfl (ov_len rfl hB.sl st_impl_rowValues) ?_
        refine WL_guardOn rfl rfl ?_
        refine WL_v rfl (ov_F (ov_neq rfl rfl) (by first | exact decide_eq_false (by simp [hl]) | exact nb_F (by simp [hl]) | exact mb_F (by simp [hl]) | exact (by simp [hl]) | (simp only [decide_eq_false_iff_not]; omega) | simpa using (by simp [hl]))) ?_
        refine WL_v rfl (ov_pickF rfl rfl) ?_
        refine WL_nil ?_
        refine WT_condF rfl ?_
        refine WT_skip ?_
        refine WT_seq ?_
        refine WT_region ?_
        refine WL_v rfl (ov_move rfl) ?_
        refine WL_v rfl (ov_len rfl hA.sl st_impl_rowValues) ?_
        refine WL_makeI rfl hH2 rfl rfl st_impl_rowValues (by omega) (by omega) ?_; rintro X0 xv w3 hX0 hH3
        refine WL_v rfl (ov_assign rfl) ?_
        refine WL_nil ?_
        refine WT_seq ?_
        refine WT_seq ?_
        refine WT_region ?_
        refine WL_v rfl (ov_move rfl) ?_
        refine WL_v rfl (ov_len rfl hA.sl st_impl_rowValues) ?_
        refine WL_v rfl (ov_move rfl) ?_
        refine WL_nil ?_
        refine WT_block ?_
        refine WT_while (fun s : Nat => [(0, av), (1, bv), (2, .func (.func fid) #[] #[]), (8, xv), (29, av), (30, .int .i64 (a.length : Int)), (31, .int .i64 (s : Int))]) (fun k w => k ≤ a.length ∧ ∃ X, IRow X 3 xv ((List.zipWith (fun x y => f x y % 1009) a b).take k ++ List.replicate (a.length - k) 0) ∧ H w h (X :: Ls)) (fun k => a.length - k) 0 (by repeat (first | exact trivial | refine ⟨rfl, ?_⟩)) ⟨by omega, X0, by simpa using hX0, hH3⟩ ?_
        clear hH hH1 hH2 hH3 hX0 hva hvb
        rintro k w4 ⟨hk, X, hX, hH⟩ again
        refine WT_seq ?_
        refine WT_region ?_
        refine WL_v rfl (ov_lss rfl rfl) ?_
        refine WL_nil ?_
        refine WT_seq ?_
        refine WT_cond rfl (fun hc => ?_) (fun hc => ?_)
        · skip
          first | with_reducible replace hc := of_decide_eq_true hc | with_reducible replace hc := bn_T hc | with_reducible replace hc := bb_T hc | skip
          have hka : k < a.length := by omega
          have hkb : k < b.length := by omega
          have hrep : List.replicate (a.length - k) (0 : Int) = 0 :: List.replicate (a.length - (k + 1)) 0 := by
            rw [show a.length - k = (a.length - (k + 1)) + 1 by omega, List.replicate_succ]
          rw [hrep] at hX
          have htl : ((List.zipWith (fun x y => f x y % 1009) a b).take k).length = k := by simp; omega
          have hkx : k < ((List.zipWith (fun x y => f x y % 1009) a b).take k ++ (0 : Int) :: List.replicate (a.length - (k + 1)) 0).length := by simp; omega
          have hax := rowOk_at ha hka
          have hbx := rowOk_at hb hkb
          refine WT_skip ?_
          refine WT_seq ?_
          refine WT_block ?_
          refine WT_seq ?_
          refine WT_region ?_
          refine WL_v rfl (ov_move rfl) ?_
          refine WL_v rfl (ov_index rfl rfl st_impl_rowValues hA.sl hka) ?_
          refine WL_v rfl (ov_load rfl one_int (hA.cell hH.drop hka)) ?_
          refine WL_v rfl (ov_assign rfl) ?_
          refine WL_v rfl (ov_assign rfl) ?_
          refine WL_nil ?_
          refine WT_region ?_
          refine WL_v rfl (ov_move rfl) ?_
          refine WL_v rfl (ov_move rfl) ?_
          refine WL_v rfl (ov_move rfl) ?_
          refine WL_v rfl (ov_move rfl) ?_
          refine WL_v rfl (ov_move rfl) ?_
          refine WL_v rfl (ov_move rfl) ?_
          refine WL_v rfl (ov_index rfl rfl st_impl_rowValues hB.sl hkb) ?_
          refine WL_v rfl (ov_load rfl one_int (hB.cell hH.drop hkb)) ?_
          refine WL_callV (ws := [.int .i64 a[k], .int .i64 b[k]]) rfl rfl rfl rfl hcf (hf _ _ hax.1 hax.2 hbx.1 hbx.2 hH) ?_; rintro _ w5 ⟨rfl, hH5⟩
          refine WL_v rfl (ov_rem rfl rfl (hfp _ _ hax.1 hax.2 hbx.1 hbx.2) (by decide)) ?_
          refine WL_v rfl (ov_index rfl rfl st_impl_rowValues hX.sl hkx) ?_
          refine WL_storeI hH5 rfl rfl (i := 0) rfl hX hkx sz_int ?_; rintro X2 w6 hX2 hH6
          refine WL_nil ?_
          refine WT_inBlock ?_
          refine WT_region ?_
          refine WL_v rfl (ov_add rfl rfl (by omega)) ?_
          refine WL_v rfl (ov_move rfl) ?_
          refine WL_nil ?_
          rw [set_mid _ _ _ _ _ htl] at hX2
          refine again (k + 1) _ _ (by omega) (by repeat (first | exact trivial | refine ⟨rfl, ?_⟩)) ⟨by omega, X2, by rw [pairL_snoc hka hkb, List.append_assoc]; exact hX2, hH6⟩
        first | with_reducible replace hc := of_decide_eq_false hc | with_reducible replace hc := bn_F hc | with_reducible replace hc := bb_F hc | skip
        obtain rfl : k = a.length := by omega
        refine WT_exit rfl ?_
        refine WT_seq ?_
        refine WT_region ?_
        refine WL_v rfl (ov_move rfl) ?_
        refine WL_v rfl (ov_assign rfl) ?_
        refine WL_v rfl (ov_assign rfl) ?_
        refine WL_nil ?_
        exact WT_ret2 Tryz.func148 Tryz.results148 rfl rfl ⟨_, _, X, rfl, by rw [List.take_of_length_le (by simp; omega), Nat.sub_self] at hX; simpa using hX, hH⟩
      · skip
        have hboth : ¬ bothOk a b = true := fun hh => hl ((bothOk_iff a b).1 hh).2.2
        rw [pairL, if_neg hboth]
        refine WT_seq ?_
        refine WT_region ?_
        refine WL_v rfl (ov_assign rfl) ?_
        refine WL_v rfl (ov_assign rfl) ?_
        refine WL_nil ?_
        refine WT_seq ?_
        refine WT_seq ?_
        refine WT_region ?_
        refine WL_v rfl (ov_move rfl) ?_
        refine WL_call rfl rfl cf_impl_rowValues_valid (hva hH) ?_; rintro _ w1 ⟨rfl, hH1⟩
        refine WL_v rfl (ov_not rfl) ?_
        refine WL_v rfl (ov_move rfl) ?_
        refine WL_guardOn rfl rfl ?_
        refine WL_v rfl (ov_move rfl) ?_
        refine WL_guardOn rfl rfl ?_
        refine WL_call rfl rfl cf_impl_rowValues_valid (hvb hH1) ?_; rintro _ w2 ⟨rfl, hH2⟩
        refine WL_guardOn rfl rfl ?_
        refine WL_v rfl (ov_not rfl) ?_
        refine WL_v rfl (ov_pickF rfl rfl) ?_
        refine WL_v rfl (ov_move rfl) ?_
        refine WL_guardOn rfl rfl ?_
        refine WL_v rfl (ov_move rfl) ?_
        refine WL_guardOn rfl rfl ?_
        refine WL_v rfl (ov_len rfl hA.sl st_impl_rowValues) ?_
        refine WL_guardOn rfl rfl ?_
        refine WL_v rfl (ov_move rfl) ?_
        refine WL_guardOn rfl rfl ?_
        refine WL_v rfl (ov_len rfl hB.sl st_impl_rowValues) ?_
        refine WL_guardOn rfl rfl ?_
        refine WL_v rfl (ov_T (ov_neq rfl rfl) (by first | exact decide_eq_true (by omega) | exact nb_T (by omega) | exact mb_T (by omega) | exact (by omega) | (simp only [decide_eq_true_eq]; omega) | simpa using (by omega))) ?_
        refine WL_v rfl (ov_pickF rfl rfl) ?_
        refine WL_nil ?_
        refine WT_condT rfl ?_
        refine WT_seq ?_
        refine WT_region ?_
        refine WL_v rfl (ov_assign rfl) ?_
        refine WL_v rfl (ov_assign rfl) ?_
        refine WL_nil ?_
        exact WT_ret2 Tryz.func148 Tryz.results148 rfl rfl (RowT.none hH2)
    · skip
      rw [rowOk_F hb] at hvb
      have hboth : ¬ bothOk a b = true := fun hh => hb ((bothOk_iff a b).1 hh).2.1
      rw [pairL, if_neg hboth]
      refine WT_seq ?_
      refine WT_region ?_
      refine WL_v rfl (ov_assign rfl) ?_
      refine WL_v rfl (ov_assign rfl) ?_
      refine WL_nil ?_
      refine WT_seq ?_
      refine WT_seq ?_
      refine WT_region ?_
      refine WL_v rfl (ov_move rfl) ?_
      refine WL_call rfl rfl cf_impl_rowValues_valid (hva hH) ?_; rintro _ w1 ⟨rfl, hH1⟩
      refine WL_v rfl (ov_not rfl) ?_
      refine WL_v rfl (ov_move rfl) ?_
      refine WL_guardOn rfl rfl ?_
      refine WL_v rfl (ov_move rfl) ?_
      refine WL_guardOn rfl rfl ?_
      refine WL_call rfl rfl cf_impl_rowValues_valid (hvb hH1) ?_; rintro _ w2 ⟨rfl, hH2⟩
      refine WL_guardOn rfl rfl ?_
      refine WL_v rfl (ov_not rfl) ?_
      refine WL_v rfl (ov_pickF rfl rfl) ?_
      refine WL_v rfl (ov_move rfl) ?_
      refine WL_guardOff rfl rfl rfl rfl ?_
      refine WL_guardOff rfl rfl rfl rfl ?_
      refine WL_guardOff rfl rfl rfl rfl ?_
      refine WL_guardOff rfl rfl rfl rfl ?_
      refine WL_guardOff rfl rfl rfl rfl ?_
      refine WL_v rfl (ov_pickT rfl rfl) ?_
      refine WL_nil ?_
      refine WT_condT rfl ?_
      refine WT_seq ?_
      refine WT_region ?_
      refine WL_v rfl (ov_assign rfl) ?_
      refine WL_v rfl (ov_assign rfl) ?_
      refine WL_nil ?_
      exact WT_ret2 Tryz.func148 Tryz.results148 rfl rfl (RowT.none hH2)
  · skip
    rw [rowOk_F ha] at hva
    have hboth : ¬ bothOk a b = true := fun hh => ha ((bothOk_iff a b).1 hh).1
    rw [pairL, if_neg hboth]
    refine WT_seq ?_
    refine WT_region ?_
    refine WL_v rfl (ov_assign rfl) ?_
    refine WL_v rfl (ov_assign rfl) ?_
    refine WL_nil ?_
    refine WT_seq ?_
    refine WT_seq ?_
    refine WT_region ?_
    refine WL_v rfl (ov_move rfl) ?_
    refine WL_call rfl rfl cf_impl_rowValues_valid (hva hH) ?_; rintro _ w1 ⟨rfl, hH1⟩
    refine WL_v rfl (ov_not rfl) ?_
    refine WL_v rfl (ov_move rfl) ?_
    refine WL_guardOff rfl rfl rfl rfl ?_
    refine WL_guardOff rfl rfl rfl rfl ?_
    refine WL_guardOff rfl rfl rfl rfl ?_
    refine WL_v rfl (ov_pickT rfl rfl) ?_
    refine WL_v rfl (ov_move rfl) ?_
    refine WL_guardOff rfl rfl rfl rfl ?_
    refine WL_guardOff rfl rfl rfl rfl ?_
    refine WL_guardOff rfl rfl rfl rfl ?_
    refine WL_guardOff rfl rfl rfl rfl ?_
    refine WL_guardOff rfl rfl rfl rfl ?_
    refine WL_v rfl (ov_pickT rfl rfl) ?_
    refine WL_nil ?_
    refine WT_condT rfl ?_
    refine WT_seq ?_
    refine WT_region ?_
    refine WL_v rfl (ov_assign rfl) ?_
    refine WL_v rfl (ov_assign rfl) ?_
    refine WL_nil ?_
    exact WT_ret2 Tryz.func148 Tryz.results148 rfl rfl (RowT.none hH1)

theorem addF_ok (x y : Int) (h1 : 0 ≤ x) (h2 : x ≤ 1008) (h3 : 0 ≤ y) (h4 : y ≤ 1008) (hH : H w h Ls) : Rets Tryz.prog 149 #[.int .i64 x, .int .i64 y] w fun v w' => v = .int .i64 (x + y) ∧ H w' h Ls := by
  refine rets_enter Tryz.func149 rfl Tryz.ntmps149 (by simp) ?_
  refine WT_seq ?_
  refine WT_region ?_
  refine WL_v rfl (ov_assign rfl) ?_
  refine WL_nil ?_
  refine WT_seq ?_
  refine WT_region ?_
  refine WL_v rfl (ov_move rfl) ?_
  refine WL_v rfl (ov_move rfl) ?_
  refine WL_v rfl (ov_add rfl rfl (by omega)) ?_
  refine WL_v rfl (ov_assign rfl) ?_
  refine WL_nil ?_
  exact WT_ret1 Tryz.func149 Tryz.results149 rfl ⟨rfl, hH⟩
theorem mul_small {x y : Int} (h1 : 0 ≤ x) (h2 : x ≤ 1008) (h3 : 0 ≤ y) (h4 : y ≤ 1008) : 0 ≤ x * y ∧ x * y ≤ 1016064 :=
  ⟨Int.mul_nonneg h1 h3, by have := Int.mul_le_mul h2 h4 h3 (by decide); omega⟩
theorem mulF_ok (x y : Int) (h1 : 0 ≤ x) (h2 : x ≤ 1008) (h3 : 0 ≤ y) (h4 : y ≤ 1008) (hH : H w h Ls) : Rets Tryz.prog 150 #[.int .i64 x, .int .i64 y] w fun v w' => v = .int .i64 (x * y) ∧ H w' h Ls := by
  have hm := mul_small h1 h2 h3 h4
  refine rets_enter Tryz.func150 rfl Tryz.ntmps150 (by simp) ?_
  refine WT_seq ?_
  refine WT_region ?_
  refine WL_v rfl (ov_assign rfl) ?_
  refine WL_nil ?_
  refine WT_seq ?_
  refine WT_region ?_
  refine WL_v rfl (ov_move rfl) ?_
  refine WL_v rfl (ov_move rfl) ?_
  refine WL_v rfl (ov_mul rfl rfl (by omega)) ?_
  refine WL_v rfl (ov_assign rfl) ?_
  refine WL_nil ?_
  exact WT_ret1 Tryz.func150 Tryz.results150 rfl ⟨rfl, hH⟩
theorem cf_addF (vs : Array Value) (W : World) : (callFunc 149 vs).run Tryz.prog W = .ok (.enter 149 vs) W := by kernel_rfl
theorem cf_mulF (vs : Array Value) (W : World) : (callFunc 150 vs).run Tryz.prog W = .ok (.enter 150 vs) W := by kernel_rfl
theorem rowAdd_ok (hH : H w h Ls) {av bv : Value} {a b : List Int} (hA : RdL h Ls av a) (hB : RdL h Ls bv b) : Rets Tryz.prog 119 #[av, bv] w fun v w' => RowT h Ls v w' (pairL (· + ·) a b) := by
  refine rets_enter Tryz.func119 rfl Tryz.ntmps119 (by simp) ?_
  refine WT_seq ?_
  refine WT_region ?_
  refine WL_v rfl (ov_assign rfl) ?_
  refine WL_v rfl (ov_assign rfl) ?_
  refine WL_nil ?_
  refine WT_seq ?_
  refine WT_region ?_
  refine WL_v rfl (ov_move rfl) ?_
  refine WL_v rfl (ov_move rfl) ?_
  refine WL_call rfl rfl cf_impl_rowValues_join (join_ok hH hA hB cf_addF (fun x y h1 h2 h3 h4 hH => addF_ok x y h1 h2 h3 h4 hH) (fun x y _ _ _ _ => by omega)) ?_; rintro _ w1 ⟨rv, ok, X, rfl, hX, hH1⟩
  refine WL_v rfl (ov_extract rfl rfl) ?_
  refine WL_v rfl (ov_extract rfl rfl) ?_
  refine WL_v rfl (ov_assign rfl) ?_
  refine WL_v rfl (ov_assign rfl) ?_
  refine WL_nil ?_
  exact WT_ret2 Tryz.func119 Tryz.results119 rfl rfl ⟨rv, ok, X, rfl, hX, hH1⟩
theorem rowTimes_ok (hH : H w h Ls) {av bv : Value} {a b : List Int} (hA : RdL h Ls av a) (hB : RdL h Ls bv b) : Rets Tryz.prog 120 #[av, bv] w fun v w' => RowT h Ls v w' (pairL (· * ·) a b) := by
  refine rets_enter Tryz.func120 rfl Tryz.ntmps120 (by simp) ?_
  refine WT_seq ?_
  refine WT_region ?_
  refine WL_v rfl (ov_assign rfl) ?_
  refine WL_v rfl (ov_assign rfl) ?_
  refine WL_nil ?_
  refine WT_seq ?_
  refine WT_region ?_
  refine WL_v rfl (ov_move rfl) ?_
  refine WL_v rfl (ov_move rfl) ?_
  refine WL_call rfl rfl cf_impl_rowValues_join (join_ok hH hA hB cf_mulF (fun x y h1 h2 h3 h4 hH => mulF_ok x y h1 h2 h3 h4 hH) (fun x y h1 h2 h3 h4 => (mul_small h1 h2 h3 h4).1)) ?_; rintro _ w1 ⟨rv, ok, X, rfl, hX, hH1⟩
  refine WL_v rfl (ov_extract rfl rfl) ?_
  refine WL_v rfl (ov_extract rfl rfl) ?_
  refine WL_v rfl (ov_assign rfl) ?_
  refine WL_v rfl (ov_assign rfl) ?_
  refine WL_nil ?_
  exact WT_ret2 Tryz.func120 Tryz.results120 rfl rfl ⟨rv, ok, X, rfl, hX, hH1⟩

theorem sumsFrom_take (s : Int) : ∀ (r : List Int) (k : Nat), (sumsFrom s r).take k = sumsFrom s (r.take k)
  | _, 0 => by simp [sumsFrom]
  | [], k + 1 => by simp [sumsFrom]
  | x :: r, k + 1 => by simp [sumsFrom, sumsFrom_take _ r k]
/-- The sum behind some of a row. -/
def sumAt (r : List Int) (k : Nat) : Int := (r.take k).foldl (fun s x => (s + x) % 1009) 0
theorem sumAt_succ {r : List Int} {k : Nat} (hk : k < r.length) : sumAt r (k + 1) = (sumAt r k + r[k]) % 1009 := by
  rw [sumAt, List.take_succ_eq_append_getElem hk, List.foldl_append]; rfl
theorem sumAt_range (r : List Int) : ∀ k, k ≤ r.length → 0 ≤ sumAt r k ∧ sumAt r k ≤ 1008
  | 0, _ => by simp [sumAt]
  | k + 1, h => by rw [sumAt_succ (by omega)]; omega
theorem sumsFrom_snoc (s : Int) : ∀ (r : List Int) (x : Int), sumsFrom s (r ++ [x]) = sumsFrom s r ++ [(r.foldl (fun s x => (s + x) % 1009) s + x) % 1009]
  | [], x => rfl
  | y :: r, x => by simp [sumsFrom, sumsFrom_snoc _ r x]
theorem sums_take {r : List Int} {k : Nat} (hk : k < r.length) : sumsFrom 0 (r.take (k + 1)) = sumsFrom 0 (r.take k) ++ [sumAt r (k + 1)] := by
  rw [List.take_succ_eq_append_getElem hk, sumsFrom_snoc, sumAt_succ hk]; rfl

theorem sums_ok (hH : H w h Ls) {av : Value} {r : List Int} (hA : RdL h Ls av r) (hr : rowOk r = true) : Rets Tryz.prog 152 #[av] w fun v w' => ∃ X, IRow X 3 v (sumsFrom 0 r) ∧ H w' h (X :: Ls) := by
  have h6 := rowOk_len6 hr
  refine rets_enter Tryz.func152 rfl Tryz.ntmps152 (by simp) ?_
  refine WT_seq ?_
  refine WT_region ?_
  refine WL_v rfl (ov_assign rfl) ?_
  refine WL_nil ?_
  refine WT_seq ?_
  refine WT_region ?_
  refine WL_v rfl (ov_move rfl) ?_
  refine WL_v rfl (ov_len rfl hA.sl st_impl_rowValues) ?_
  refine WL_makeI rfl hH rfl rfl st_impl_rowValues (by omega) (by omega) ?_; rintro X0 xv w1 hX0 hH1
  refine WL_v rfl (ov_assign rfl) ?_
  refine WL_nil ?_
  refine WT_seq ?_
  refine WT_region ?_
  refine WL_v rfl (ov_assign rfl) ?_
  refine WL_nil ?_
  refine WT_seq ?_
  refine WT_seq ?_
  refine WT_region ?_
  refine WL_v rfl (ov_move rfl) ?_
  refine WL_v rfl (ov_len rfl hA.sl st_impl_rowValues) ?_
  refine WL_v rfl (ov_move rfl) ?_
  refine WL_nil ?_
  refine WT_block ?_
  refine WT_while (fun s : Nat => [(0, av), (3, xv), (4, .int .i64 (sumAt r s)), (10, av), (11, .int .i64 (r.length : Int)), (12, .int .i64 (s : Int))]) (fun k w => k ≤ r.length ∧ ∃ X, IRow X 3 xv (sumsFrom 0 (r.take k) ++ List.replicate (r.length - k) 0) ∧ H w h (X :: Ls)) (fun k => r.length - k) 0 (by repeat (first | exact trivial | refine ⟨rfl, ?_⟩)) ⟨by omega, X0, by simpa [sumsFrom] using hX0, hH1⟩ ?_
  clear hH hH1 hX0
  rintro k w2 ⟨hk, X, hX, hH⟩ again
  refine WT_seq ?_
  refine WT_region ?_
  refine WL_v rfl (ov_lss rfl rfl) ?_
  refine WL_nil ?_
  refine WT_seq ?_
  refine WT_cond rfl (fun hc => ?_) (fun hc => ?_)
  · skip
    first | with_reducible replace hc := of_decide_eq_true hc | with_reducible replace hc := bn_T hc | with_reducible replace hc := bb_T hc | skip
    have hkr : k < r.length := by omega
    have hrep : List.replicate (r.length - k) (0 : Int) = 0 :: List.replicate (r.length - (k + 1)) 0 := by
      rw [show r.length - k = (r.length - (k + 1)) + 1 by omega, List.replicate_succ]
    rw [hrep] at hX
    have htl : (sumsFrom 0 (r.take k)).length = k := by rw [sumsFrom_len, List.length_take]; omega
    have hkx : k < (sumsFrom 0 (r.take k) ++ (0 : Int) :: List.replicate (r.length - (k + 1)) 0).length := by rw [List.length_append, htl]; simp
    have hx := rowOk_at hr hkr
    have hs := sumAt_range r k hk
    have hss := sumAt_succ hkr
    refine WT_skip ?_
    refine WT_seq ?_
    refine WT_block ?_
    refine WT_seq ?_
    refine WT_region ?_
    refine WL_v rfl (ov_move rfl) ?_
    refine WL_v rfl (ov_index rfl rfl st_impl_rowValues hA.sl hkr) ?_
    refine WL_v rfl (ov_load rfl one_int (hA.cell hH.drop hkr)) ?_
    refine WL_v rfl (ov_assign rfl) ?_
    refine WL_v rfl (ov_assign rfl) ?_
    refine WL_nil ?_
    refine WT_seq ?_
    refine WT_region ?_
    refine WL_v rfl (ov_move rfl) ?_
    refine WL_v rfl (ov_move rfl) ?_
    refine WL_v rfl (ov_add rfl rfl (by omega)) ?_
    refine WL_v rfl (ov_as (ov_rem rfl rfl (by omega) (by decide)) (congrArg (Value.int .i64) hss.symm)) ?_
    refine WL_v rfl (ov_assign rfl) ?_
    refine WL_nil ?_
    refine WT_region ?_
    refine WL_v rfl (ov_move rfl) ?_
    refine WL_v rfl (ov_move rfl) ?_
    refine WL_v rfl (ov_move rfl) ?_
    refine WL_v rfl (ov_index rfl rfl st_impl_rowValues hX.sl hkx) ?_
    refine WL_storeI hH rfl rfl (i := 0) rfl hX hkx sz_int ?_; rintro X2 w3 hX2 hH3
    refine WL_nil ?_
    refine WT_inBlock ?_
    refine WT_region ?_
    refine WL_v rfl (ov_add rfl rfl (by omega)) ?_
    refine WL_v rfl (ov_move rfl) ?_
    refine WL_nil ?_
    rw [set_mid _ _ _ _ _ htl] at hX2
    refine again (k + 1) _ _ (by omega) (by repeat (first | exact trivial | refine ⟨rfl, ?_⟩)) ⟨by omega, X2, by rw [sums_take hkr, List.append_assoc]; exact hX2, hH3⟩
  first | with_reducible replace hc := of_decide_eq_false hc | with_reducible replace hc := bn_F hc | with_reducible replace hc := bb_F hc | skip
  obtain rfl : k = r.length := by omega
  refine WT_exit rfl ?_
  refine WT_seq ?_
  refine WT_region ?_
  refine WL_v rfl (ov_move rfl) ?_
  refine WL_v rfl (ov_assign rfl) ?_
  refine WL_nil ?_
  exact WT_ret1 Tryz.func152 Tryz.results152 rfl ⟨X, by rw [List.take_length, Nat.sub_self] at hX; simpa using hX, hH⟩

theorem rowSums_ok (hH : H w h Ls) {av : Value} {r : List Int} (hA : RdL h Ls av r) : Rets Tryz.prog 121 #[av] w fun v w' => RowT h Ls v w' (sumsL r) := by
  have hva := fun {w : World} (hH : H w h Ls) => rvValidR_ok hH hA
  refine rets_enter Tryz.func121 rfl Tryz.ntmps121 (by simp) ?_
  by_cases hr : rowOk r = true
  · skip
    rw [hr] at hva
    rw [sumsL, if_pos hr]
    refine WT_seq ?_
    refine WT_region ?_
    refine WL_v rfl (ov_assign rfl) ?_
    refine WL_v rfl (ov_assign rfl) ?_
    refine WL_nil ?_
    refine WT_seq ?_
    refine WT_region ?_
    refine WL_v rfl (ov_move rfl) ?_
    refine WL_v rfl (ov_assign rfl) ?_
    refine WL_nil ?_
    refine WT_seq ?_
    refine WT_seq ?_
    refine WT_region ?_
    refine WL_v rfl (ov_move rfl) ?_
    refine WL_call rfl rfl cf_impl_rowValues_valid (hva hH) ?_; rintro _ w1 ⟨rfl, hH1⟩
    refine WL_v rfl (ov_not rfl) ?_
    refine WL_nil ?_
    refine WT_condF rfl ?_
    refine WT_skip ?_
    refine WT_seq ?_
    refine WT_region ?_
    refine WL_v rfl (ov_move rfl) ?_
    refine WL_call rfl rfl cf_impl_rowValues_sums (sums_ok hH1 hA hr) ?_; rintro v w2 ⟨X, hX, hH2⟩
    refine WL_v rfl (ov_assign rfl) ?_
    refine WL_v rfl (ov_assign rfl) ?_
    refine WL_nil ?_
    exact WT_ret2 Tryz.func121 Tryz.results121 rfl rfl ⟨_, _, X, rfl, hX, hH2⟩
  · skip
    rw [rowOk_F hr] at hva
    rw [sumsL, if_neg hr]
    refine WT_seq ?_
    refine WT_region ?_
    refine WL_v rfl (ov_assign rfl) ?_
    refine WL_v rfl (ov_assign rfl) ?_
    refine WL_nil ?_
    refine WT_seq ?_
    refine WT_region ?_
    refine WL_v rfl (ov_move rfl) ?_
    refine WL_v rfl (ov_assign rfl) ?_
    refine WL_nil ?_
    refine WT_seq ?_
    refine WT_seq ?_
    refine WT_region ?_
    refine WL_v rfl (ov_move rfl) ?_
    refine WL_call rfl rfl cf_impl_rowValues_valid (hva hH) ?_; rintro _ w1 ⟨rfl, hH1⟩
    refine WL_v rfl (ov_not rfl) ?_
    refine WL_nil ?_
    refine WT_condT rfl ?_
    refine WT_seq ?_
    refine WT_region ?_
    refine WL_v rfl (ov_assign rfl) ?_
    refine WL_v rfl (ov_assign rfl) ?_
    refine WL_nil ?_
    exact WT_ret2 Tryz.func121 Tryz.results121 rfl rfl (RowT.none hH1)

/-! Sorting. -/
theorem isNaN_ok (hH : H w h Ls) (x : Int) : Rets Tryz.prog 160 #[.int .i64 x] w fun v w' => v = .bool false ∧ H w' h Ls := by
  refine rets_enter Tryz.func160 rfl Tryz.ntmps160 (by simp) ?_
  refine WT_seq ?_
  refine WT_region ?_
  refine WL_v rfl (ov_assign rfl) ?_
  refine WL_nil ?_
  refine WT_seq ?_
  refine WT_region ?_
  refine WL_v rfl (ov_move rfl) ?_
  refine WL_v rfl (ov_move rfl) ?_
  refine WL_v rfl (ov_F (ov_neq rfl rfl) (by first | exact decide_eq_false rfl | exact nb_F rfl | exact mb_F rfl | exact rfl | (simp only [decide_eq_false_iff_not]; omega) | simpa using rfl)) ?_
  refine WL_v rfl (ov_assign rfl) ?_
  refine WL_nil ?_
  exact WT_ret1 Tryz.func160 Tryz.results160 rfl ⟨rfl, hH⟩
theorem less_ok (hH : H w h Ls) (x y : Int) : Rets Tryz.prog 130 #[.int .i64 x, .int .i64 y] w fun v w' => v = .bool (decide (x < y)) ∧ H w' h Ls := by
  refine rets_enter Tryz.func130 rfl Tryz.ntmps130 (by simp) ?_
  refine WT_seq ?_
  refine WT_region ?_
  refine WL_v rfl (ov_assign rfl) ?_
  refine WL_nil ?_
  refine WT_seq ?_
  refine WT_region ?_
  refine WL_v rfl (ov_move rfl) ?_
  refine WL_call rfl rfl cf_cmp_isNaN_int (isNaN_ok hH x) ?_; rintro _ w1 ⟨rfl, hH1⟩
  refine WL_v rfl (ov_move rfl) ?_
  refine WL_guardOff rfl rfl rfl rfl ?_
  refine WL_guardOff rfl rfl rfl rfl ?_
  refine WL_guardOff rfl rfl rfl rfl ?_
  refine WL_v rfl (ov_pickF rfl rfl) ?_
  refine WL_v rfl (ov_move rfl) ?_
  refine WL_guardOn rfl rfl ?_
  refine WL_v rfl (ov_move rfl) ?_
  refine WL_guardOn rfl rfl ?_
  refine WL_v rfl (ov_move rfl) ?_
  refine WL_guardOn rfl rfl ?_
  refine WL_v rfl (ov_lss rfl rfl) ?_
  refine WL_v rfl (ov_pickF rfl rfl) ?_
  refine WL_v rfl (ov_assign rfl) ?_
  refine WL_nil ?_
  exact WT_ret1 Tryz.func130 Tryz.results130 rfl ⟨rfl, hH1⟩
end
end Go.Proofs.YteagnhdhafiofaaGreat

/- Walks: rows are sorted and turned; what a kind does with rows. -/
namespace Go.Proofs.YteagnhdhafiofaaGreat
open Go.RowKit

section
variable {h : GH} {Ls : List Heaplet} {w : World}

theorem get_mid2 (A R : List Int) (y x : Int) (n : Nat) (h : A.length = n) (hn : n + 1 < (A ++ y :: x :: R).length) : (A ++ y :: x :: R)[n + 1] = x := by
  subst h
  rw [List.getElem_append_right (by omega)]
  simp
theorem set_mid2 (A R : List Int) (y x u : Int) (n : Nat) (h : A.length = n) : (A ++ y :: x :: R).set (n + 1) u = A ++ y :: u :: R := by
  subst h
  rw [List.set_append_right _ _ (by omega)]
  simp

set_option maxHeartbeats 1000000 in
theorem insSort_ok {X : Heaplet} (hH : H w h (X :: Ls)) {v : Value} {xs : List Int} (hX : IRow X 3 v xs) (hl : xs.length ≤ 12) : Rets Tryz.prog 124 #[v, .int .i64 0, .int .i64 (xs.length : Int)] w fun _ w' => ∃ X', IRow X' 3 v (isortL xs) ∧ H w' h (X' :: Ls) := by
  refine rets_enter Tryz.func124 rfl Tryz.ntmps124 (by simp) ?_
  refine WT_seq ?_
  refine WT_region ?_
  refine WL_v rfl (ov_move rfl) ?_
  refine WL_v rfl (ov_add rfl rfl (by omega)) ?_
  refine WL_v rfl (ov_assign rfl) ?_
  refine WL_nil ?_
  refine WT_block ?_
  have h0 : isortL (xs.take 1) ++ xs.drop 1 = xs := by
    cases xs with
    | nil => rfl
    | cons x r => rfl
  refine WT_while (fun s : Nat => [(0, v), (1, .int .i64 0), (2, .int .i64 (xs.length : Int)), (6, .int .i64 (s : Int))]) (fun s w => 1 ≤ s ∧ (s ≤ xs.length ∨ s = 1) ∧ ∃ X, IRow X 3 v (isortL (xs.take s) ++ xs.drop s) ∧ H w h (X :: Ls)) (fun s => xs.length - s) 1 (by repeat (first | exact trivial | refine ⟨rfl, ?_⟩)) ⟨by omega, by omega, X, by rw [h0]; exact hX, hH⟩ ?_
  clear hH hX h0 X
  rintro s w1 ⟨hs1, hs, X, hX, hH⟩ again
  refine WT_seq ?_
  refine WT_seq ?_
  refine WT_region ?_
  refine WL_v rfl (ov_move rfl) ?_
  refine WL_v rfl (ov_move rfl) ?_
  refine WL_v rfl (ov_lss rfl rfl) ?_
  refine WL_nil ?_
  refine WT_cond rfl (fun hc => ?_) (fun hc => ?_)
  · skip
    first | with_reducible replace hc := of_decide_eq_true hc | with_reducible replace hc := bn_T hc | with_reducible replace hc := bb_T hc | skip
    have hsx : s < xs.length := by omega
    have hPl : (isortL (xs.take s)).length = s := by rw [isort_len, List.length_take]; omega
    have hsort := isort_sorted (xs.take s)
    have htk : isortL (xs.take (s + 1)) = putL xs[s] (isortL (xs.take s)) := by rw [List.take_succ_eq_append_getElem hsx, isort_snoc]
    have hdr : xs.drop s = xs[s] :: xs.drop (s + 1) := List.drop_eq_getElem_cons hsx
    rw [hdr] at hX
    clear hdr
    generalize isortL (xs.take s) = P at hPl hsort htk hX
    generalize xs[s] = x at htk hX
    generalize hD : xs.drop (s + 1) = D at hX
    refine WT_skip ?_
    refine WT_seq ?_
    refine WT_block ?_
    refine WT_seq ?_
    refine WT_region ?_
    refine WL_v rfl (ov_move rfl) ?_
    refine WL_v rfl (ov_assign rfl) ?_
    refine WL_nil ?_
    refine WT_block ?_
    refine WT_while (fun j : Nat => [(0, v), (1, .int .i64 0), (2, .int .i64 (xs.length : Int)), (6, .int .i64 (s : Int)), (7, .int .i64 (j : Int))]) (fun j w => j ≤ s ∧ (∀ y ∈ P.drop j, x < y) ∧ ∃ X, IRow X 3 v (P.take j ++ x :: (P.drop j ++ D)) ∧ H w h (X :: Ls)) (fun j => j) s (by repeat (first | exact trivial | refine ⟨rfl, ?_⟩)) ⟨Nat.le_refl _, by rw [← hPl, List.drop_length]; simp, X, by rw [← hPl, List.drop_length, List.take_length]; simpa using hX, hH⟩ ?_
    clear hH hX X
    rintro j w2 ⟨hj, hgt, X, hX, hH⟩ again2
    have stop : (∀ y ∈ P.take j, y ≤ x) → P.take j ++ x :: (P.drop j ++ D) = isortL (xs.take (s + 1)) ++ D := fun hle => by
      rw [htk]
      have := putL_mid x (P.take j) (P.drop j) hle (fun y hy => hgt y (List.mem_of_head? hy))
      rw [List.take_append_drop] at this
      rw [this, List.append_assoc]; rfl
    cases j with
    | zero =>
      refine WT_seq ?_
      refine WT_seq ?_
      refine WT_quiet mixed (by kernel_rfl) hH ?_
      clear hH
      refine WQ_v rfl (fun _ _ => ov_move rfl) ?_
      refine WQ_v rfl (fun _ _ => ov_move rfl) ?_
      refine WQ_v rfl (fun _ _ => ov_F (ov_gtr rfl rfl) (by first | exact decide_eq_false (by omega) | exact nb_F (by omega) | exact mb_F (by omega) | exact (by omega) | (simp only [decide_eq_false_iff_not]; omega) | simpa using (by omega))) ?_
      refine WQ_v rfl (fun _ _ => ov_move rfl) ?_
      refine WQ_guardOff rfl rfl rfl rfl ?_
      refine WQ_guardOff rfl rfl rfl rfl ?_
      refine WQ_guardOff rfl rfl rfl rfl ?_
      refine WQ_guardOff rfl rfl rfl rfl ?_
      refine WQ_guardOff rfl rfl rfl rfl ?_
      refine WQ_guardOff rfl rfl rfl rfl ?_
      refine WQ_guardOff rfl rfl rfl rfl ?_
      refine WQ_guardOff rfl rfl rfl rfl ?_
      refine WQ_guardOff rfl rfl rfl rfl ?_
      refine WQ_guardOff rfl rfl rfl rfl ?_
      refine WQ_v rfl (fun _ _ => ov_pickF rfl rfl) ?_
      refine WQ_nil ?_
      intro w3 hH
      refine WT_condF rfl ?_
      refine WT_exit rfl ?_
      refine WT_inBlock ?_
      refine WT_region ?_
      refine WL_v rfl (ov_move rfl) ?_
      refine WL_v rfl (ov_add rfl rfl (by omega)) ?_
      refine WL_v rfl (ov_assign rfl) ?_
      refine WL_nil ?_
      rw [stop (by simp)] at hX
      refine again (s + 1) _ _ (by omega) (by repeat (first | exact trivial | refine ⟨rfl, ?_⟩)) ⟨by omega, by omega, X, ?_, hH⟩
      rw [hD]
      exact hX
    | succ m =>
      have hmP : m < P.length := by omega
      have hAl : (P.take m).length = m := by rw [List.length_take]; omega
      have ht1 : P.take (m + 1) = P.take m ++ [P[m]] := List.take_succ_eq_append_getElem hmP
      have hfm : P.take (m + 1) ++ x :: (P.drop (m + 1) ++ D) = P.take m ++ P[m] :: x :: (P.drop (m + 1) ++ D) := by rw [ht1, List.append_assoc]; rfl
      rw [hfm] at hX
      have hml : m < (P.take m ++ P[m] :: x :: (P.drop (m + 1) ++ D)).length := by rw [List.length_append, hAl]; simp
      have hjl : m + 1 < (P.take m ++ P[m] :: x :: (P.drop (m + 1) ++ D)).length := by rw [List.length_append, hAl]; simp
      have hgm : (P.take m ++ P[m] :: x :: (P.drop (m + 1) ++ D))[m] = P[m] := getElem_mid _ _ _ _ hAl hml
      have hgj : (P.take m ++ P[m] :: x :: (P.drop (m + 1) ++ D))[m + 1] = x := get_mid2 _ _ _ _ _ hAl hjl
      refine WT_seq ?_
      refine WT_seq ?_
      refine WT_quiet mixed (by kernel_rfl) hH ?_
      clear hH
      refine WQ_v rfl (fun _ _ => ov_move rfl) ?_
      refine WQ_v rfl (fun _ _ => ov_move rfl) ?_
      refine WQ_v rfl (fun _ _ => ov_T (ov_gtr rfl rfl) (by first | exact decide_eq_true (by omega) | exact nb_T (by omega) | exact mb_T (by omega) | exact (by omega) | (simp only [decide_eq_true_eq]; omega) | simpa using (by omega))) ?_
      refine WQ_v rfl (fun _ _ => ov_move rfl) ?_
      refine WQ_guardOn rfl rfl ?_
      refine WQ_v rfl (fun _ _ => ov_move rfl) ?_
      refine WQ_guardOn rfl rfl ?_
      refine WQ_v rfl (fun _ _ => ov_move rfl) ?_
      refine WQ_guardOn rfl rfl ?_
      refine WQ_v rfl (fun _ _ => ov_index rfl rfl st_sl_int hX.sl hjl) ?_
      refine WQ_guardOn rfl rfl ?_
      refine WQ_v rfl (fun _ hH => ov_load rfl one_int (hX.cell hH (i := 0) rfl hjl)) ?_; rw [hgj]
      refine WQ_guardOn rfl rfl ?_
      refine WQ_v rfl (fun _ _ => ov_move rfl) ?_
      refine WQ_guardOn rfl rfl ?_
      refine WQ_v rfl (fun _ _ => ov_move rfl) ?_
      refine WQ_guardOn rfl rfl ?_
      refine WQ_v rfl (fun _ _ => ov_as (ov_sub rfl rfl (by omega)) (congrArg (Value.int .i64) ((show ((m + 1 : Nat) : Int) - 1 = (m : Int) by omega)))) ?_
      refine WQ_guardOn rfl rfl ?_
      refine WQ_v rfl (fun _ _ => ov_index rfl rfl st_sl_int hX.sl hml) ?_
      refine WQ_guardOn rfl rfl ?_
      refine WQ_v rfl (fun _ hH => ov_load rfl one_int (hX.cell hH (i := 0) rfl hml)) ?_; rw [hgm]
      refine WQ_guardOn rfl rfl ?_
      refine WQ_call rfl rfl cf_cmp_Less_int (fun _ hH => less_ok hH _ _) ?_
      refine WQ_v rfl (fun _ _ => ov_pickT rfl rfl) ?_
      refine WQ_nil ?_
      intro w3 hH
      refine WT_cond rfl (fun hlt => ?_) (fun hlt => ?_)
      · skip
        first | with_reducible replace hlt := of_decide_eq_true hlt | with_reducible replace hlt := bn_T hlt | with_reducible replace hlt := bb_T hlt | skip
        refine WT_skip ?_
        refine WT_seq ?_
        refine WT_block ?_
        refine WT_mixO (i := 0) [(0, 1), (1, 1), (2, 1), (3, 1), (4, 1), (5, 1), (6, 1), (7, 1), (8, 1), (9, 0), (10, 1), (11, 1), (12, 1), (13, 0), (14, 1), (15, 3), (16, 1), (17, 3)] mixed (by kernel_rfl) hH rfl ?_
        clear hH
        intro w4 hH hC
        refine WM_p rfl rfl (fun _ => ov_move rfl) ?_
        refine WM_p rfl rfl (fun _ => ov_move rfl) ?_
        refine WM_p rfl rfl (fun _ => ov_move rfl) ?_
        refine WM_p rfl rfl (fun _ => ov_move rfl) ?_
        refine WM_p rfl rfl (fun _ => ov_as (ov_sub rfl rfl (by omega)) (congrArg (Value.int .i64) ((show ((m + 1 : Nat) : Int) - 1 = (m : Int) by omega)))) ?_
        refine WM_p rfl rfl (fun _ => ov_move rfl) ?_
        refine WM_p rfl rfl (fun _ => ov_move rfl) ?_
        refine WM_p rfl rfl (fun _ => ov_as (ov_sub rfl rfl (by omega)) (congrArg (Value.int .i64) ((show ((m + 1 : Nat) : Int) - 1 = (m : Int) by omega)))) ?_
        refine WM_p rfl rfl (fun _ => ov_index rfl rfl st_sl_int hX.sl hml) ?_
        refine WM_v rfl rfl hC (fun _ ⟨_, hH⟩ => ov_load rfl one_int (hX.cell hH (i := 1) rfl hml)) ?_; rw [hgm]
        refine WM_p rfl rfl (fun _ => ov_move rfl) ?_
        refine WM_p rfl rfl (fun _ => ov_move rfl) ?_
        refine WM_p rfl rfl (fun _ => ov_index rfl rfl st_sl_int hX.sl hjl) ?_
        refine WM_v rfl rfl hC (fun _ ⟨_, hH⟩ => ov_load rfl one_int (hX.cell hH (i := 1) rfl hjl)) ?_; rw [hgj]
        refine WM_p rfl rfl (fun _ => ov_index rfl rfl st_sl_int hX.sl hjl) ?_
        refine WM_e rfl ?_
        refine WL_storeI hH rfl rfl (i := 0) rfl hX hjl sz_int ?_; rintro X2 w5 hX2 hH5
        refine WL_mix (fun h => absurd rfl h) ?_
        refine WM_p rfl rfl (fun _ => ov_index rfl rfl st_sl_int hX.sl hml) ?_
        refine WM_e rfl ?_
        rw [set_mid2 _ _ _ _ _ _ hAl] at hX2; have hml2 : m < (P.take m ++ P[m] :: P[m] :: (P.drop (m + 1) ++ D)).length := by {rw [List.length_append, hAl]; simp}; refine WL_storeI hH5 rfl rfl (i := 0) rfl hX2 hml2 sz_int ?_; rintro X3 w6 hX3 hH6
        refine WL_mix (fun h => absurd rfl h) ?_
        refine WM_nil ?_
        refine WT_inBlock ?_
        refine WT_region ?_
        refine WL_v rfl (ov_move rfl) ?_
        refine WL_v rfl (ov_as (ov_sub rfl rfl (by omega)) (congrArg (Value.int .i64) ((show ((m + 1 : Nat) : Int) - 1 = (m : Int) by omega)))) ?_
        refine WL_v rfl (ov_assign rfl) ?_
        refine WL_nil ?_
        rw [set_mid _ _ _ _ _ hAl] at hX3
        refine again2 m _ _ (by omega) (by repeat (first | exact trivial | refine ⟨rfl, ?_⟩)) ⟨by omega, fun y hy => ?_, X3, ?_, hH6⟩
        · rw [List.drop_eq_getElem_cons hmP] at hy
          rcases List.mem_cons.1 hy with rfl | hy
          · exact hlt
          · exact hgt y hy
        · rw [List.drop_eq_getElem_cons hmP]
          exact hX3
      first | with_reducible replace hlt := of_decide_eq_false hlt | with_reducible replace hlt := bn_F hlt | with_reducible replace hlt := bb_F hlt | skip
      refine WT_exit rfl ?_
      refine WT_inBlock ?_
      refine WT_region ?_
      refine WL_v rfl (ov_move rfl) ?_
      refine WL_v rfl (ov_add rfl rfl (by omega)) ?_
      refine WL_v rfl (ov_assign rfl) ?_
      refine WL_nil ?_
      rw [← hfm, stop (fun y hy => ?_)] at hX
      · refine again (s + 1) _ _ (by omega) (by repeat (first | exact trivial | refine ⟨rfl, ?_⟩)) ⟨by omega, by omega, X, ?_, hH⟩
        rw [hD]
        exact hX
      · obtain ⟨i, hi, rfl⟩ := List.getElem_of_mem hy
        rw [List.length_take] at hi
        rw [List.getElem_take]
        rcases Nat.lt_or_ge i m with h1 | h1
        · have := List.pairwise_iff_getElem.1 hsort i m (by omega) hmP h1
          omega
        · obtain rfl : i = m := by omega
          omega
  first | with_reducible replace hc := of_decide_eq_false hc | with_reducible replace hc := bn_F hc | with_reducible replace hc := bb_F hc | skip
  refine WT_exit rfl ?_
  exact WT_end0 Tryz.func124 Tryz.results124 ⟨X, by
    rw [List.take_of_length_le (by omega), List.drop_of_length_le (by omega), List.append_nil] at hX
    exact hX, hH⟩
end
end Go.Proofs.YteagnhdhafiofaaGreat

/- Walks: rows are sorted and turned; what a kind does with rows. -/
namespace Go.Proofs.YteagnhdhafiofaaGreat
open Go.RowKit

theorem ov_index0 {P : Program} {env : Env} {w : World} {ty t : TypeId} {x y : Operand} {v u r : Value} (hx : ev env x = some v) (hy : ev env y = some u) (hr : ∀ W, (Instr.index t v u).run P W = .ok r W) : OpV P env w (.index t x y) ty r :=
  fun _ _ _ ρ hρ => by simp [execOp, hρ.1 x _ hx, hρ.1 y _ hy, hr]
theorem ov_taK {P : Program} {env : Env} {w : World} {ty : TypeId} {x : Operand} {v r : Value} {t at' : TypeId} {b : Bool} (hx : ev env x = some v) (hr : ∀ W, (Instr.typeAssert v t at' b).run P W = .ok r W) : OpV P env w (.typeAssert x t at' b) ty r :=
  fun _ _ _ ρ hρ => by simp [execOp, hρ.1 x _ hx, hr]
/-- A function as a value. -/
abbrev fnV (f : Nat) : Value := .func (.func f) #[] #[]
theorem taP_nil (W : World) : (Instr.typeAssert .nilIface 112 116 true).run Tryz.prog W = .ok (.tuple #[.agg #[.nilFunc], .bool false]) W := by kernel_rfl
theorem taP_given (W : World) : (Instr.typeAssert (.iface 139 (.agg #[])) 112 116 true).run Tryz.prog W = .ok (.tuple #[.agg #[.nilFunc], .bool false]) W := by kernel_rfl
theorem taP_lone (f : Nat) (W : World) : (Instr.typeAssert (.iface 120 (.agg #[.func (.func f) #[] #[]])) 112 116 true).run Tryz.prog W = .ok (.tuple #[.agg #[.nilFunc], .bool false]) W := by kernel_rfl
theorem taP_pair (f : Nat) (W : World) : (Instr.typeAssert (.iface 116 (.agg #[.func (.func f) #[] #[]])) 112 116 true).run Tryz.prog W = .ok (.tuple #[.agg #[.func (.func f) #[] #[]], .bool true]) W := by kernel_rfl
theorem taL_nil (W : World) : (Instr.typeAssert .nilIface 112 120 true).run Tryz.prog W = .ok (.tuple #[.agg #[.nilFunc], .bool false]) W := by kernel_rfl
theorem taL_given (W : World) : (Instr.typeAssert (.iface 139 (.agg #[])) 112 120 true).run Tryz.prog W = .ok (.tuple #[.agg #[.nilFunc], .bool false]) W := by kernel_rfl
theorem taL_lone (f : Nat) (W : World) : (Instr.typeAssert (.iface 120 (.agg #[.func (.func f) #[] #[]])) 112 120 true).run Tryz.prog W = .ok (.tuple #[.agg #[.func (.func f) #[] #[]], .bool true]) W := by kernel_rfl
theorem zero_pairK (W : World) : (zeroValue 116).run Tryz.prog W = .ok (.agg #[.nilFunc]) W := by kernel_rfl
theorem zero_loneK (W : World) : (zeroValue 120).run Tryz.prog W = .ok (.agg #[.nilFunc]) W := by kernel_rfl

theorem cf_impl_RowAdd (vs : Array Value) (W : World) : (callFunc 119 vs).run Tryz.prog W = .ok (.enter 119 vs) W := by kernel_rfl
theorem cf_impl_RowTimes (vs : Array Value) (W : World) : (callFunc 120 vs).run Tryz.prog W = .ok (.enter 120 vs) W := by kernel_rfl
theorem cf_impl_RowSums (vs : Array Value) (W : World) : (callFunc 121 vs).run Tryz.prog W = .ok (.enter 121 vs) W := by kernel_rfl
theorem cf_impl_RowSort (vs : Array Value) (W : World) : (callFunc 122 vs).run Tryz.prog W = .ok (.enter 122 vs) W := by kernel_rfl
theorem cf_impl_RowTurn (vs : Array Value) (W : World) : (callFunc 123 vs).run Tryz.prog W = .ok (.enter 123 vs) W := by kernel_rfl

/-- How many bits a small number has. -/
def bits6 : Nat → Nat
  | 0 => 0
  | 1 => 1
  | 2 => 2
  | 3 => 2
  | _ => 3
theorem bits6_le (n : Nat) : bits6 n ≤ 3 := by unfold bits6; split <;> omega
theorem wrapN {n : Nat} (h : n ≤ 6) : IntKind.u64.wrap (n : Int) = (n : Int) ∧ IntKind.u8.wrap (n : Int) = (n : Int) ∧ IntKind.i64.wrap (n : Int) = (n : Int) := by
  have : ∀ k : Fin 7, IntKind.u64.wrap ((k.val : Nat) : Int) = (k.val : Int) ∧ IntKind.u8.wrap ((k.val : Nat) : Int) = (k.val : Int) ∧ IntKind.i64.wrap ((k.val : Nat) : Int) = (k.val : Int) := by decide
  exact this ⟨n, by omega⟩

section
variable {h : GH} {Ls : List Heaplet} {w : World}
theorem len64_ok (hH : H w h Ls) {n : Nat} (hn : n ≤ 6) : Rets Tryz.prog 134 #[.int .u64 (n : Int)] w fun v w' => v = .int .i64 (bits6 n : Int) ∧ H w' h Ls := by
  have hb := bits6_le n
  refine rets_enter Tryz.func134 rfl Tryz.ntmps134 (by simp) ?_
  refine WT_seq ?_
  refine WT_region ?_
  refine WL_v rfl (ov_assign rfl) ?_
  refine WL_nil ?_
  refine WT_seq ?_
  refine WT_seq ?_
  refine WT_region ?_
  refine WL_v rfl (ov_move rfl) ?_
  refine WL_v rfl (ov_F (ov_geq rfl rfl) (by first | exact decide_eq_false (by omega) | exact nb_F (by omega) | exact mb_F (by omega) | exact (by omega) | (simp only [decide_eq_false_iff_not]; omega) | simpa using (by omega))) ?_
  refine WL_nil ?_
  refine WT_condF rfl ?_
  refine WT_skip ?_
  refine WT_seq ?_
  refine WT_seq ?_
  refine WT_region ?_
  refine WL_v rfl (ov_move rfl) ?_
  refine WL_v rfl (ov_F (ov_geq rfl rfl) (by first | exact decide_eq_false (by omega) | exact nb_F (by omega) | exact mb_F (by omega) | exact (by omega) | (simp only [decide_eq_false_iff_not]; omega) | simpa using (by omega))) ?_
  refine WL_nil ?_
  refine WT_condF rfl ?_
  refine WT_skip ?_
  refine WT_seq ?_
  refine WT_seq ?_
  refine WT_region ?_
  refine WL_v rfl (ov_move rfl) ?_
  refine WL_v rfl (ov_F (ov_geq rfl rfl) (by first | exact decide_eq_false (by omega) | exact nb_F (by omega) | exact mb_F (by omega) | exact (by omega) | (simp only [decide_eq_false_iff_not]; omega) | simpa using (by omega))) ?_
  refine WL_nil ?_
  refine WT_condF rfl ?_
  refine WT_skip ?_
  refine WT_seq ?_
  refine WT_region ?_
  refine WL_v rfl (ov_move rfl) ?_
  refine WL_v rfl (ov_move rfl) ?_
  refine WL_v rfl (ov_as (ov_convert rfl (by kernel_rfl) Tryz.underlying5) (congrArg (Value.int .u8) (wrapN hn).2.1)) ?_
  refine WL_v rfl (ov_index0 (r := .int .u8 (bits6 n : Int)) rfl rfl (match n, hn with | 0, _ => fun W => by kernel_rfl | 1, _ => fun W => by kernel_rfl | 2, _ => fun W => by kernel_rfl | 3, _ => fun W => by kernel_rfl | 4, _ => fun W => by kernel_rfl | 5, _ => fun W => by kernel_rfl | 6, _ => fun W => by kernel_rfl)) ?_
  refine WL_v rfl (ov_as (ov_convert rfl (by kernel_rfl) Tryz.underlying3) (congrArg (Value.int .i64) (wrapN (n := bits6 n) (by omega)).2.2)) ?_
  refine WL_v rfl (ov_add rfl rfl (by omega)) ?_
  refine WL_v rfl (ov_assign rfl) ?_
  refine WL_nil ?_
  exact WT_ret1 Tryz.func134 Tryz.results134 rfl ⟨congrArg (Value.int .i64) (by omega), hH⟩
theorem bitsLen_ok (hH : H w h Ls) {n : Nat} (hn : n ≤ 6) : Rets Tryz.prog 108 #[.int .u64 (n : Int)] w fun v w' => v = .int .i64 (bits6 n : Int) ∧ H w' h Ls := by
  refine rets_enter Tryz.func108 rfl Tryz.ntmps108 (by simp) ?_
  refine WT_seq ?_
  refine WT_region ?_
  refine WL_v rfl (ov_assign rfl) ?_
  refine WL_nil ?_
  refine WT_seq ?_
  refine WT_condF rfl ?_
  refine WT_skip ?_
  refine WT_seq ?_
  refine WT_region ?_
  refine WL_v rfl (ov_move rfl) ?_
  refine WL_call rfl rfl cf_math_bits_Len64 (len64_ok hH hn) ?_; rintro _ w1 ⟨rfl, hH1⟩
  refine WL_v rfl (ov_assign rfl) ?_
  refine WL_nil ?_
  exact WT_ret1 Tryz.func108 Tryz.results108 rfl ⟨rfl, hH1⟩
theorem pdq_ok {X : Heaplet} (hH : H w h (X :: Ls)) {v lv : Value} {xs : List Int} (hX : IRow X 3 v xs) (hl : xs.length ≤ 12) : Rets Tryz.prog 107 #[v, .int .i64 0, .int .i64 (xs.length : Int), lv] w fun _ w' => ∃ X', IRow X' 3 v (isortL xs) ∧ H w' h (X' :: Ls) := by
  refine rets_enter Tryz.func107 rfl Tryz.ntmps107 (by simp) ?_
  refine WT_seq ?_
  refine WT_region ?_
  refine WL_v rfl (ov_assign rfl) ?_
  refine WL_nil ?_
  refine WT_seq ?_
  refine WT_region ?_
  refine WL_v rfl (ov_assign rfl) ?_
  refine WL_nil ?_
  refine WT_block ?_
  refine WT_while (fun _ : Nat => [(0, v), (1, .int .i64 0), (2, .int .i64 (xs.length : Int))]) (fun k w => k = 0 ∧ H w h (X :: Ls)) (fun _ => 0) 0 (by repeat (first | exact trivial | refine ⟨rfl, ?_⟩)) ⟨rfl, hH⟩ ?_
  clear hH
  rintro k w1 ⟨_, hH⟩ again
  refine WT_block ?_
  refine WT_seq ?_
  refine WT_region ?_
  refine WL_v rfl (ov_move rfl) ?_
  refine WL_v rfl (ov_move rfl) ?_
  refine WL_v rfl (ov_as (ov_sub rfl rfl (by omega)) (congrArg (Value.int .i64) ((show (xs.length : Int) - 0 = (xs.length : Int) by omega)))) ?_
  refine WL_v rfl (ov_assign rfl) ?_
  refine WL_nil ?_
  refine WT_seq ?_
  refine WT_seq ?_
  refine WT_region ?_
  refine WL_v rfl (ov_move rfl) ?_
  refine WL_v rfl (ov_T (ov_leq rfl rfl) (by first | exact decide_eq_true (by omega) | exact nb_T (by omega) | exact mb_T (by omega) | exact (by omega) | (simp only [decide_eq_true_eq]; omega) | simpa using (by omega))) ?_
  refine WL_nil ?_
  refine WT_condT rfl ?_
  refine WT_seq ?_
  refine WT_region ?_
  refine WL_v rfl (ov_move rfl) ?_
  refine WL_v rfl (ov_move rfl) ?_
  refine WL_v rfl (ov_move rfl) ?_
  refine WL_call rfl rfl cf_slices_insertionSortOrdered_int (insSort_ok hH hX hl) ?_; rintro _ w2 ⟨X', hX', hH2⟩
  refine WL_nil ?_
  exact WT_ret0 Tryz.func107 Tryz.results107 ⟨X', hX', hH2⟩
theorem sort_ok {X : Heaplet} (hH : H w h (X :: Ls)) {v : Value} {xs : List Int} (hX : IRow X 3 v xs) (hl : xs.length ≤ 6) : Rets Tryz.prog 164 #[v] w fun _ w' => ∃ X', IRow X' 3 v (isortL xs) ∧ H w' h (X' :: Ls) := by
  refine rets_enter Tryz.func164 rfl Tryz.ntmps164 (by simp) ?_
  refine WT_seq ?_
  refine WT_region ?_
  refine WL_v rfl (ov_move rfl) ?_
  refine WL_v rfl (ov_len rfl hX.sl st_impl_rowValues) ?_
  refine WL_v rfl (ov_assign rfl) ?_
  refine WL_nil ?_
  refine WT_region ?_
  refine WL_v rfl (ov_move rfl) ?_
  refine WL_v rfl (ov_move rfl) ?_
  refine WL_v rfl (ov_move rfl) ?_
  refine WL_v rfl (ov_as (ov_convert rfl (by kernel_rfl) Tryz.underlying129) (congrArg (Value.int .u64) (wrapN hl).1)) ?_
  refine WL_call rfl rfl cf_math_bits_Len (bitsLen_ok hH hl) ?_; rintro _ w1 ⟨rfl, hH1⟩
  refine WL_call rfl rfl cf_slices_pdqsortOrdered_int (pdq_ok hH1 hX (by omega)) ?_; rintro _ w2 ⟨X', hX', hH2⟩
  refine WL_nil ?_
  exact WT_end0 Tryz.func164 Tryz.results164 ⟨X', hX', hH2⟩
theorem sorted_ok (hH : H w h Ls) {av : Value} {r : List Int} (hA : RdL h Ls av r) (hr : rowOk r = true) : Rets Tryz.prog 153 #[av] w fun v w' => ∃ X, IRow X 3 v (isortL r) ∧ H w' h (X :: Ls) := by
  have h6 := rowOk_len6 hr
  refine rets_enter Tryz.func153 rfl Tryz.ntmps153 (by simp) ?_
  refine WT_seq ?_
  refine WT_region ?_
  refine WL_v rfl (ov_assign rfl) ?_
  refine WL_nil ?_
  refine WT_seq ?_
  refine WT_region ?_
  refine WL_v rfl (ov_move rfl) ?_
  refine WL_appR (i := 0) (xs := []) rfl hH.nilIn rfl rfl st_impl_rowValues rfl (IRow.nil _) hA.sl (hA.cell hH) (by simp only [List.length_nil]; omega) (by simp only [List.length_nil]; omega) ?_; rintro X v w2 hX hH2; rw [List.nil_append] at hX
  refine WL_v rfl (ov_assign rfl) ?_
  refine WL_nil ?_
  refine WT_seq ?_
  refine WT_region ?_
  refine WL_v rfl (ov_move rfl) ?_
  refine WL_call rfl rfl cf_slices_Sort_impl_rowValues_int (sort_ok hH2 hX h6) ?_; rintro _ w3 ⟨X', hX', hH3⟩
  refine WL_nil ?_
  refine WT_seq ?_
  refine WT_region ?_
  refine WL_v rfl (ov_move rfl) ?_
  refine WL_v rfl (ov_assign rfl) ?_
  refine WL_nil ?_
  exact WT_ret1 Tryz.func153 Tryz.results153 rfl ⟨X', hX', hH3⟩
theorem rowSort_ok (hH : H w h Ls) {av : Value} {r : List Int} (hA : RdL h Ls av r) : Rets Tryz.prog 122 #[av] w fun v w' => RowT h Ls v w' (sortL r) := by
  have hva := fun {w : World} (hH : H w h Ls) => rvValidR_ok hH hA
  refine rets_enter Tryz.func122 rfl Tryz.ntmps122 (by simp) ?_
  by_cases hr : rowOk r = true
  · skip
    rw [hr] at hva
    rw [sortL, if_pos hr]
    refine WT_seq ?_
    refine WT_region ?_
    refine WL_v rfl (ov_assign rfl) ?_
    refine WL_v rfl (ov_assign rfl) ?_
    refine WL_nil ?_
    refine WT_seq ?_
    refine WT_region ?_
    refine WL_v rfl (ov_move rfl) ?_
    refine WL_v rfl (ov_assign rfl) ?_
    refine WL_nil ?_
    refine WT_seq ?_
    refine WT_seq ?_
    refine WT_region ?_
    refine WL_v rfl (ov_move rfl) ?_
    refine WL_call rfl rfl cf_impl_rowValues_valid (hva hH) ?_; rintro _ w1 ⟨rfl, hH1⟩
    refine WL_v rfl (ov_not rfl) ?_
    refine WL_nil ?_
    refine WT_condF rfl ?_
    refine WT_skip ?_
    refine WT_seq ?_
    refine WT_region ?_
    refine WL_v rfl (ov_move rfl) ?_
    refine WL_call rfl rfl cf_impl_rowValues_sorted (sorted_ok hH1 hA hr) ?_; rintro v w2 ⟨X, hX, hH2⟩
    refine WL_v rfl (ov_assign rfl) ?_
    refine WL_v rfl (ov_assign rfl) ?_
    refine WL_nil ?_
    exact WT_ret2 Tryz.func122 Tryz.results122 rfl rfl ⟨_, _, X, rfl, hX, hH2⟩
  · skip
    rw [rowOk_F hr] at hva
    rw [sortL, if_neg hr]
    refine WT_seq ?_
    refine WT_region ?_
    refine WL_v rfl (ov_assign rfl) ?_
    refine WL_v rfl (ov_assign rfl) ?_
    refine WL_nil ?_
    refine WT_seq ?_
    refine WT_region ?_
    refine WL_v rfl (ov_move rfl) ?_
    refine WL_v rfl (ov_assign rfl) ?_
    refine WL_nil ?_
    refine WT_seq ?_
    refine WT_seq ?_
    refine WT_region ?_
    refine WL_v rfl (ov_move rfl) ?_
    refine WL_call rfl rfl cf_impl_rowValues_valid (hva hH) ?_; rintro _ w1 ⟨rfl, hH1⟩
    refine WL_v rfl (ov_not rfl) ?_
    refine WL_nil ?_
    refine WT_condT rfl ?_
    refine WT_seq ?_
    refine WT_region ?_
    refine WL_v rfl (ov_assign rfl) ?_
    refine WL_v rfl (ov_assign rfl) ?_
    refine WL_nil ?_
    exact WT_ret2 Tryz.func122 Tryz.results122 rfl rfl (RowT.none hH1)

/-- A row that is turned from both ends up to a place. -/
def revTo (xs : List Int) (i : Nat) : List Int := (List.range xs.length).map fun t => if t < i ∨ xs.length ≤ t + i then xs.getD (xs.length - 1 - t) 0 else xs.getD t 0
theorem revTo_len (xs : List Int) (i : Nat) : (revTo xs i).length = xs.length := by simp [revTo]
theorem revTo_get {xs : List Int} {i t : Nat} (h : t < (revTo xs i).length) : (revTo xs i)[t] = if t < i ∨ xs.length ≤ t + i then xs.getD (xs.length - 1 - t) 0 else xs.getD t 0 := by simp [revTo]
theorem getDI {xs : List Int} {t : Nat} (h : t < xs.length) : xs.getD t 0 = xs[t] := by simp [List.getD_eq_getElem?_getD, List.getElem?_eq_getElem h]
theorem revTo_zero (xs : List Int) : revTo xs 0 = xs := by
  refine List.ext_getElem (revTo_len xs 0) fun t h1 h2 => ?_
  rw [revTo_get, if_neg (by omega), getDI h2]
theorem revTo_end {xs : List Int} {i : Nat} (h : xs.length ≤ 2 * i + 1) (hi : 2 * i ≤ xs.length) : revTo xs i = xs.reverse := by
  refine List.ext_getElem (by rw [revTo_len, List.length_reverse]) fun t h1 h2 => ?_
  have h3 : t < xs.length := by rw [revTo_len] at h1; exact h1
  rw [revTo_get, List.getElem_reverse]
  split
  · rw [getDI (by omega)]
  · rw [getDI h3]
    congr 1
    omega
theorem revTo_step {xs : List Int} {i m : Nat} (hm : m = xs.length - 1 - i) (h : i < m) (h1 : i < (revTo xs i).length) (h2 : m < (revTo xs i).length) : ((revTo xs i).set i (revTo xs i)[m]).set m (revTo xs i)[i] = revTo xs (i + 1) := by
  have hl := revTo_len xs i
  refine List.ext_getElem (by simp [revTo_len]) fun t g1 g2 => ?_
  have g3 : t < xs.length := by simpa [revTo_len] using g1
  simp only [List.getElem_set, revTo_get]
  by_cases ht : m = t
  · subst ht
    rw [if_pos rfl, if_neg (by omega), if_pos (by omega)]
    congr 1
    omega
  · rw [if_neg ht]
    by_cases ht2 : i = t
    · subst ht2
      rw [if_pos rfl, if_neg (by omega), if_pos (by omega)]
      congr 1
    · rw [if_neg ht2]
      by_cases hc : t < i ∨ xs.length ≤ t + i
      · rw [if_pos hc, if_pos (by omega)]
      · rw [if_neg hc, if_neg (by omega)]

theorem reverse_ok {X : Heaplet} (hH : H w h (X :: Ls)) {v : Value} {xs : List Int} (hX : IRow X 3 v xs) (hl : xs.length ≤ 100) : Rets Tryz.prog 165 #[v] w fun _ w' => ∃ X', IRow X' 3 v xs.reverse ∧ H w' h (X' :: Ls) := by
  refine rets_enter Tryz.func165 rfl Tryz.ntmps165 (by simp) ?_
  refine WT_seq ?_
  refine WT_region ?_
  refine WL_v rfl (ov_move rfl) ?_
  refine WL_v rfl (ov_len rfl hX.sl st_impl_rowValues) ?_
  refine WL_v rfl (ov_as (ov_sub rfl rfl (by omega)) (congrArg (Value.int .i64) ((show (xs.length : Int) - 1 = (xs.length : Int) - 1 - ((0 : Nat) : Int) by omega)))) ?_
  refine WL_v rfl (ov_assign rfl) ?_
  refine WL_v rfl (ov_assign rfl) ?_
  refine WL_nil ?_
  refine WT_block ?_
  refine WT_while (fun i : Nat => [(0, v), (2, .int .i64 (i : Int)), (3, .int .i64 ((xs.length : Int) - 1 - (i : Int)))]) (fun i w => 2 * i ≤ xs.length ∧ ∃ X, IRow X 3 v (revTo xs i) ∧ H w h (X :: Ls)) (fun i => xs.length - i) 0 (by repeat (first | exact trivial | refine ⟨rfl, ?_⟩)) ⟨by omega, X, by rw [revTo_zero]; exact hX, hH⟩ ?_
  clear hH hX X
  rintro i w1 ⟨hi, X, hX, hH⟩ again
  have hrl := revTo_len xs i
  refine WT_seq ?_
  refine WT_seq ?_
  refine WT_region ?_
  refine WL_v rfl (ov_move rfl) ?_
  refine WL_v rfl (ov_move rfl) ?_
  refine WL_v rfl (ov_lss rfl rfl) ?_
  refine WL_nil ?_
  refine WT_cond rfl (fun hc => ?_) (fun hc => ?_)
  · skip
    first | with_reducible replace hc := of_decide_eq_true hc | with_reducible replace hc := bn_T hc | with_reducible replace hc := bb_T hc | skip
    obtain ⟨m, hm⟩ : ∃ m, m = xs.length - 1 - i := ⟨_, rfl⟩
    have hmi : ((xs.length : Int) - 1 - (i : Int)) = (m : Int) := by omega
    have him : i < m := by omega
    have hix : i < (revTo xs i).length := by omega
    have hmx : m < (revTo xs i).length := by omega
    rw [hmi]
    refine WT_skip ?_
    refine WT_seq ?_
    refine WT_block ?_
    refine WT_mixO (i := 0) [(0, 1), (1, 1), (2, 1), (3, 1), (4, 1), (5, 1), (6, 1), (7, 0), (8, 1), (9, 1), (10, 1), (11, 0), (12, 1), (13, 3), (14, 1), (15, 3)] mixed (by kernel_rfl) hH rfl ?_
    clear hH
    intro w4 hH hC
    refine WM_p rfl rfl (fun _ => ov_move rfl) ?_
    refine WM_p rfl rfl (fun _ => ov_move rfl) ?_
    refine WM_p rfl rfl (fun _ => ov_move rfl) ?_
    refine WM_p rfl rfl (fun _ => ov_move rfl) ?_
    refine WM_p rfl rfl (fun _ => ov_move rfl) ?_
    refine WM_p rfl rfl (fun _ => ov_move rfl) ?_
    refine WM_p rfl rfl (fun _ => ov_index rfl rfl st_impl_rowValues hX.sl hmx) ?_
    refine WM_v rfl rfl hC (fun _ ⟨_, hH⟩ => ov_load rfl one_int (hX.cell hH (i := 1) rfl hmx)) ?_
    refine WM_p rfl rfl (fun _ => ov_move rfl) ?_
    refine WM_p rfl rfl (fun _ => ov_move rfl) ?_
    refine WM_p rfl rfl (fun _ => ov_index rfl rfl st_impl_rowValues hX.sl hix) ?_
    refine WM_v rfl rfl hC (fun _ ⟨_, hH⟩ => ov_load rfl one_int (hX.cell hH (i := 1) rfl hix)) ?_
    refine WM_p rfl rfl (fun _ => ov_index rfl rfl st_impl_rowValues hX.sl hix) ?_
    refine WM_e rfl ?_
    refine WL_storeI hH rfl rfl (i := 0) rfl hX hix sz_int ?_; rintro X2 w5 hX2 hH5
    refine WL_mix (fun h => absurd rfl h) ?_
    refine WM_p rfl rfl (fun _ => ov_index rfl rfl st_impl_rowValues hX.sl hmx) ?_
    refine WM_e rfl ?_
    refine WL_storeI hH5 rfl rfl (i := 0) rfl hX2 (by rw [List.length_set]; exact hmx) sz_int ?_; rintro X3 w6 hX3 hH6
    refine WL_mix (fun h => absurd rfl h) ?_
    refine WM_nil ?_
    refine WT_inBlock ?_
    refine WT_region ?_
    refine WL_v rfl (ov_move rfl) ?_
    refine WL_v rfl (ov_add rfl rfl (by omega)) ?_
    refine WL_v rfl (ov_move rfl) ?_
    refine WL_v rfl (ov_sub rfl rfl (by omega)) ?_
    refine WL_v rfl (ov_assign rfl) ?_
    refine WL_v rfl (ov_assign rfl) ?_
    refine WL_nil ?_
    rw [revTo_step hm him] at hX3
    refine again (i + 1) _ _ (by omega) ?_ ⟨by omega, X3, hX3, hH6⟩
    rw [show ((xs.length : Int) - 1 - ((i + 1 : Nat) : Int)) = (m : Int) - 1 by omega]
    exact (by repeat (first | exact trivial | refine ⟨rfl, ?_⟩))
  first | with_reducible replace hc := of_decide_eq_false hc | with_reducible replace hc := bn_F hc | with_reducible replace hc := bb_F hc | skip
  refine WT_exit rfl ?_
  exact WT_end0 Tryz.func165 Tryz.results165 ⟨X, by rw [revTo_end (by omega) hi] at hX; exact hX, hH⟩

theorem turned_ok (hH : H w h Ls) {av : Value} {r : List Int} (hA : RdL h Ls av r) (hr : rowOk r = true) : Rets Tryz.prog 154 #[av] w fun v w' => ∃ X, IRow X 3 v r.reverse ∧ H w' h (X :: Ls) := by
  have h6 := rowOk_len6 hr
  refine rets_enter Tryz.func154 rfl Tryz.ntmps154 (by simp) ?_
  refine WT_seq ?_
  refine WT_region ?_
  refine WL_v rfl (ov_assign rfl) ?_
  refine WL_nil ?_
  refine WT_seq ?_
  refine WT_region ?_
  refine WL_v rfl (ov_move rfl) ?_
  refine WL_appR (i := 0) (xs := []) rfl hH.nilIn rfl rfl st_impl_rowValues rfl (IRow.nil _) hA.sl (hA.cell hH) (by simp only [List.length_nil]; omega) (by simp only [List.length_nil]; omega) ?_; rintro X v w2 hX hH2; rw [List.nil_append] at hX
  refine WL_v rfl (ov_assign rfl) ?_
  refine WL_nil ?_
  refine WT_seq ?_
  refine WT_region ?_
  refine WL_v rfl (ov_move rfl) ?_
  refine WL_call rfl rfl cf_slices_Reverse_impl_rowValues_int (reverse_ok hH2 hX (by omega)) ?_; rintro _ w3 ⟨X', hX', hH3⟩
  refine WL_nil ?_
  refine WT_seq ?_
  refine WT_region ?_
  refine WL_v rfl (ov_move rfl) ?_
  refine WL_v rfl (ov_assign rfl) ?_
  refine WL_nil ?_
  exact WT_ret1 Tryz.func154 Tryz.results154 rfl ⟨X', hX', hH3⟩
theorem rowTurn_ok (hH : H w h Ls) {av : Value} {r : List Int} (hA : RdL h Ls av r) : Rets Tryz.prog 123 #[av] w fun v w' => RowT h Ls v w' (turnL r) := by
  have hva := fun {w : World} (hH : H w h Ls) => rvValidR_ok hH hA
  refine rets_enter Tryz.func123 rfl Tryz.ntmps123 (by simp) ?_
  by_cases hr : rowOk r = true
  · skip
    rw [hr] at hva
    rw [turnL, if_pos hr]
    refine WT_seq ?_
    refine WT_region ?_
    refine WL_v rfl (ov_assign rfl) ?_
    refine WL_v rfl (ov_assign rfl) ?_
    refine WL_nil ?_
    refine WT_seq ?_
    refine WT_region ?_
    refine WL_v rfl (ov_move rfl) ?_
    refine WL_v rfl (ov_assign rfl) ?_
    refine WL_nil ?_
    refine WT_seq ?_
    refine WT_seq ?_
    refine WT_region ?_
    refine WL_v rfl (ov_move rfl) ?_
    refine WL_call rfl rfl cf_impl_rowValues_valid (hva hH) ?_; rintro _ w1 ⟨rfl, hH1⟩
    refine WL_v rfl (ov_not rfl) ?_
    refine WL_nil ?_
    refine WT_condF rfl ?_
    refine WT_skip ?_
    refine WT_seq ?_
    refine WT_region ?_
    refine WL_v rfl (ov_move rfl) ?_
    refine WL_call rfl rfl cf_impl_rowValues_turned (turned_ok hH1 hA hr) ?_; rintro v w2 ⟨X, hX, hH2⟩
    refine WL_v rfl (ov_assign rfl) ?_
    refine WL_v rfl (ov_assign rfl) ?_
    refine WL_nil ?_
    exact WT_ret2 Tryz.func123 Tryz.results123 rfl rfl ⟨_, _, X, rfl, hX, hH2⟩
  · skip
    rw [rowOk_F hr] at hva
    rw [turnL, if_neg hr]
    refine WT_seq ?_
    refine WT_region ?_
    refine WL_v rfl (ov_assign rfl) ?_
    refine WL_v rfl (ov_assign rfl) ?_
    refine WL_nil ?_
    refine WT_seq ?_
    refine WT_region ?_
    refine WL_v rfl (ov_move rfl) ?_
    refine WL_v rfl (ov_assign rfl) ?_
    refine WL_nil ?_
    refine WT_seq ?_
    refine WT_seq ?_
    refine WT_region ?_
    refine WL_v rfl (ov_move rfl) ?_
    refine WL_call rfl rfl cf_impl_rowValues_valid (hva hH) ?_; rintro _ w1 ⟨rfl, hH1⟩
    refine WL_v rfl (ov_not rfl) ?_
    refine WL_nil ?_
    refine WT_condT rfl ?_
    refine WT_seq ?_
    refine WT_region ?_
    refine WL_v rfl (ov_assign rfl) ?_
    refine WL_v rfl (ov_assign rfl) ?_
    refine WL_nil ?_
    exact WT_ret2 Tryz.func123 Tryz.results123 rfl rfl (RowT.none hH1)

theorem kindRun_1 (hH : H w h Ls) {rv : Value} {rows : List (List Int)} (hR : RdLL h Ls rv rows) : Rets Tryz.prog 76 #[.int .i64 1, rv] w fun v w' => RowT h Ls v w' (kindRow 1 rows) := by
  have hwk := fun {w : World} (hH : H w h Ls) => workOf_ok hH 1
  refine rets_enter Tryz.func76 rfl Tryz.ntmps76 (by simp) ?_
  refine WT_seq ?_
  refine WT_region ?_
  refine WL_v rfl (ov_assign rfl) ?_
  refine WL_v rfl (ov_assign rfl) ?_
  refine WL_nil ?_
  refine WT_seq ?_
  refine WT_seq ?_
  refine WT_region ?_
  refine WL_v rfl (ov_move rfl) ?_
  refine WL_call rfl rfl cf_impl_workOf (hwk hH) ?_; rintro _ w1 ⟨rfl, hH1⟩
  refine WL_nil ?_
  refine WT_block ?_
  refine WT_seq ?_
  refine WT_region ?_
  refine WL_v rfl (ov_taK rfl (taP_pair _)) ?_
  refine WL_v rfl (ov_extract rfl rfl) ?_
  refine WL_v rfl (ov_extract rfl rfl) ?_
  refine WL_nil ?_
  refine WT_condT rfl ?_
  refine WT_seq ?_
  refine WT_region ?_
  refine WL_alloc #[.nilFunc] rfl hH1 zero_pairK rfl ?_; rintro g w2 hH2
  refine WL_storeN hH2 rfl rfl (i := 0) rfl rfl rfl (ones_cons rfl ones_nil) sz_impl_pairWork ?_; rintro w3 hH3
  refine WL_nil ?_
  refine WT_seq ?_
  refine WT_region ?_
  refine WL_v rfl (ov_move rfl) ?_
  refine WL_v rfl (ov_len rfl hR.sl st_sl_sl_int) ?_
  refine WL_v rfl (ov_loadN [fnV 119] rfl agg_impl_pairWork rfl ((fun j v hj => by rw [show Addr.add ⟨g, 0, none⟩ j = ⟨g, j, none⟩ by simp [add_of]]; exact (hH3.cb 0 rfl j).trans (by simpa using hj)))) ?_
  refine WL_call rfl rfl cf_impl_pairWork_needs (needs_pair hH3 _) ?_; rintro _ w4 ⟨rfl, hH4⟩
  refine WL_v rfl (ov_eql rfl rfl) ?_
  refine WL_nil ?_
  refine WT_cond rfl (fun hl => ?_) (fun hl => ?_)
  · skip
    first | with_reducible replace hl := of_decide_eq_true hl | with_reducible replace hl := bn_T hl | with_reducible replace hl := bb_T hl | skip
    obtain ⟨x, y, rfl⟩ : ∃ x y, rows = [x, y] := by
      match rows, hl with
      | [x, y], _ => exact ⟨x, y, rfl⟩
      | [], hl => simp at hl
      | [_], hl => simp at hl
      | _ :: _ :: _ :: _, hl => simp at hl; omega
    obtain ⟨u1, g1, c1⟩ := hR.at_ (i := 0) (by simp)
    obtain ⟨u2, g2, c2⟩ := hR.at_ (i := 1) (by simp)
    refine WT_seq ?_
    refine WT_mixL [(0, 1), (1, 0), (2, 1), (3, 1), (4, 0), (5, 1), (6, 1), (7, 0), (8, 3), (9, 1), (10, 1), (11, 1), (12, 1)] mixed (by kernel_rfl) hH4 ?_
    clear hH4
    intro w5 hH4 hC
    refine WM_p rfl rfl (fun _ => ov_field rfl fo_impl_pairWork_0) ?_
    refine WM_v rfl rfl hC (fun _ ⟨_, hH⟩ => ov_load rfl one_func_sl_int_sl_int_sl_int_bool (hH.cb 1 rfl 0)) ?_
    refine WM_p rfl rfl (fun _ => ov_move rfl) ?_
    refine WM_p rfl rfl (fun _ => ov_index (i := 0) rfl rfl st_sl_sl_int hR.sl (by omega)) ?_
    refine WM_v rfl rfl hC (fun _ ⟨_, hH⟩ => ov_load rfl one_sl_int (c1 hH.drop.drop)) ?_
    refine WM_p rfl rfl (fun _ => ov_move rfl) ?_
    refine WM_p rfl rfl (fun _ => ov_index (i := 1) rfl rfl st_sl_sl_int hR.sl (by omega)) ?_
    refine WM_v rfl rfl hC (fun _ ⟨_, hH⟩ => ov_load rfl one_sl_int (c2 hH.drop.drop)) ?_
    refine WM_e rfl ?_
    refine WL_callV (ws := [u1, u2]) rfl rfl rfl rfl cf_impl_RowAdd (rowAdd_ok hH4 g1.up g2.up) ?_; rintro _ w6 ⟨ru, ok, X, rfl, hX, hH6⟩
    refine WL_mix (fun h => absurd rfl h) ?_
    refine WM_p rfl rfl (fun _ => ov_extract rfl rfl) ?_
    refine WM_p rfl rfl (fun _ => ov_extract rfl rfl) ?_
    refine WM_p rfl rfl (fun _ => ov_assign rfl) ?_
    refine WM_p rfl rfl (fun _ => ov_assign rfl) ?_
    refine WM_nil ?_
    exact WT_ret2 Tryz.func76 Tryz.results76 rfl rfl ⟨ru, ok, X, rfl, hX, hH6.del 1 rfl⟩
  first | with_reducible replace hl := of_decide_eq_false hl | with_reducible replace hl := bn_F hl | with_reducible replace hl := bb_F hl | skip
  refine WT_skip ?_
  refine WT_inBlock ?_
  refine WT_seq ?_
  refine WT_region ?_
  refine WL_v rfl (ov_assign rfl) ?_
  refine WL_v rfl (ov_assign rfl) ?_
  refine WL_nil ?_
  exact WT_ret2 Tryz.func76 Tryz.results76 rfl rfl (by
    have : kindRow 1 rows = [] := by
      match rows, hl with
      | [], _ => rfl
      | [_], _ => rfl
      | [_, _], hl => simp at hl
      | _ :: _ :: _ :: _, _ => rfl
    rw [this]
    exact RowT.none hH4.drop)

theorem kindRun_2 (hH : H w h Ls) {rv : Value} {rows : List (List Int)} (hR : RdLL h Ls rv rows) : Rets Tryz.prog 76 #[.int .i64 2, rv] w fun v w' => RowT h Ls v w' (kindRow 2 rows) := by
  have hwk := fun {w : World} (hH : H w h Ls) => workOf_ok hH 2
  refine rets_enter Tryz.func76 rfl Tryz.ntmps76 (by simp) ?_
  refine WT_seq ?_
  refine WT_region ?_
  refine WL_v rfl (ov_assign rfl) ?_
  refine WL_v rfl (ov_assign rfl) ?_
  refine WL_nil ?_
  refine WT_seq ?_
  refine WT_seq ?_
  refine WT_region ?_
  refine WL_v rfl (ov_move rfl) ?_
  refine WL_call rfl rfl cf_impl_workOf (hwk hH) ?_; rintro _ w1 ⟨rfl, hH1⟩
  refine WL_nil ?_
  refine WT_block ?_
  refine WT_seq ?_
  refine WT_region ?_
  refine WL_v rfl (ov_taK rfl (taP_pair _)) ?_
  refine WL_v rfl (ov_extract rfl rfl) ?_
  refine WL_v rfl (ov_extract rfl rfl) ?_
  refine WL_nil ?_
  refine WT_condT rfl ?_
  refine WT_seq ?_
  refine WT_region ?_
  refine WL_alloc #[.nilFunc] rfl hH1 zero_pairK rfl ?_; rintro g w2 hH2
  refine WL_storeN hH2 rfl rfl (i := 0) rfl rfl rfl (ones_cons rfl ones_nil) sz_impl_pairWork ?_; rintro w3 hH3
  refine WL_nil ?_
  refine WT_seq ?_
  refine WT_region ?_
  refine WL_v rfl (ov_move rfl) ?_
  refine WL_v rfl (ov_len rfl hR.sl st_sl_sl_int) ?_
  refine WL_v rfl (ov_loadN [fnV 120] rfl agg_impl_pairWork rfl ((fun j v hj => by rw [show Addr.add ⟨g, 0, none⟩ j = ⟨g, j, none⟩ by simp [add_of]]; exact (hH3.cb 0 rfl j).trans (by simpa using hj)))) ?_
  refine WL_call rfl rfl cf_impl_pairWork_needs (needs_pair hH3 _) ?_; rintro _ w4 ⟨rfl, hH4⟩
  refine WL_v rfl (ov_eql rfl rfl) ?_
  refine WL_nil ?_
  refine WT_cond rfl (fun hl => ?_) (fun hl => ?_)
  · skip
    first | with_reducible replace hl := of_decide_eq_true hl | with_reducible replace hl := bn_T hl | with_reducible replace hl := bb_T hl | skip
    obtain ⟨x, y, rfl⟩ : ∃ x y, rows = [x, y] := by
      match rows, hl with
      | [x, y], _ => exact ⟨x, y, rfl⟩
      | [], hl => simp at hl
      | [_], hl => simp at hl
      | _ :: _ :: _ :: _, hl => simp at hl; omega
    obtain ⟨u1, g1, c1⟩ := hR.at_ (i := 0) (by simp)
    obtain ⟨u2, g2, c2⟩ := hR.at_ (i := 1) (by simp)
    refine WT_seq ?_
    refine WT_mixL [(0, 1), (1, 0), (2, 1), (3, 1), (4, 0), (5, 1), (6, 1), (7, 0), (8, 3), (9, 1), (10, 1), (11, 1), (12, 1)] mixed (by kernel_rfl) hH4 ?_
    clear hH4
    intro w5 hH4 hC
    refine WM_p rfl rfl (fun _ => ov_field rfl fo_impl_pairWork_0) ?_
    refine WM_v rfl rfl hC (fun _ ⟨_, hH⟩ => ov_load rfl one_func_sl_int_sl_int_sl_int_bool (hH.cb 1 rfl 0)) ?_
    refine WM_p rfl rfl (fun _ => ov_move rfl) ?_
    refine WM_p rfl rfl (fun _ => ov_index (i := 0) rfl rfl st_sl_sl_int hR.sl (by omega)) ?_
    refine WM_v rfl rfl hC (fun _ ⟨_, hH⟩ => ov_load rfl one_sl_int (c1 hH.drop.drop)) ?_
    refine WM_p rfl rfl (fun _ => ov_move rfl) ?_
    refine WM_p rfl rfl (fun _ => ov_index (i := 1) rfl rfl st_sl_sl_int hR.sl (by omega)) ?_
    refine WM_v rfl rfl hC (fun _ ⟨_, hH⟩ => ov_load rfl one_sl_int (c2 hH.drop.drop)) ?_
    refine WM_e rfl ?_
    refine WL_callV (ws := [u1, u2]) rfl rfl rfl rfl cf_impl_RowTimes (rowTimes_ok hH4 g1.up g2.up) ?_; rintro _ w6 ⟨ru, ok, X, rfl, hX, hH6⟩
    refine WL_mix (fun h => absurd rfl h) ?_
    refine WM_p rfl rfl (fun _ => ov_extract rfl rfl) ?_
    refine WM_p rfl rfl (fun _ => ov_extract rfl rfl) ?_
    refine WM_p rfl rfl (fun _ => ov_assign rfl) ?_
    refine WM_p rfl rfl (fun _ => ov_assign rfl) ?_
    refine WM_nil ?_
    exact WT_ret2 Tryz.func76 Tryz.results76 rfl rfl ⟨ru, ok, X, rfl, hX, hH6.del 1 rfl⟩
  first | with_reducible replace hl := of_decide_eq_false hl | with_reducible replace hl := bn_F hl | with_reducible replace hl := bb_F hl | skip
  refine WT_skip ?_
  refine WT_inBlock ?_
  refine WT_seq ?_
  refine WT_region ?_
  refine WL_v rfl (ov_assign rfl) ?_
  refine WL_v rfl (ov_assign rfl) ?_
  refine WL_nil ?_
  exact WT_ret2 Tryz.func76 Tryz.results76 rfl rfl (by
    have : kindRow 2 rows = [] := by
      match rows, hl with
      | [], _ => rfl
      | [_], _ => rfl
      | [_, _], hl => simp at hl
      | _ :: _ :: _ :: _, _ => rfl
    rw [this]
    exact RowT.none hH4.drop)

theorem kindRun_3 (hH : H w h Ls) {rv : Value} {rows : List (List Int)} (hR : RdLL h Ls rv rows) : Rets Tryz.prog 76 #[.int .i64 3, rv] w fun v w' => RowT h Ls v w' (kindRow 3 rows) := by
  have hwk := fun {w : World} (hH : H w h Ls) => workOf_ok hH 3
  refine rets_enter Tryz.func76 rfl Tryz.ntmps76 (by simp) ?_
  refine WT_seq ?_
  refine WT_region ?_
  refine WL_v rfl (ov_assign rfl) ?_
  refine WL_v rfl (ov_assign rfl) ?_
  refine WL_nil ?_
  refine WT_seq ?_
  refine WT_seq ?_
  refine WT_region ?_
  refine WL_v rfl (ov_move rfl) ?_
  refine WL_call rfl rfl cf_impl_workOf (hwk hH) ?_; rintro _ w1 ⟨rfl, hH1⟩
  refine WL_nil ?_
  refine WT_block ?_
  refine WT_seq ?_
  refine WT_region ?_
  refine WL_v rfl (ov_taK rfl (taP_lone _)) ?_
  refine WL_v rfl (ov_extract rfl rfl) ?_
  refine WL_v rfl (ov_extract rfl rfl) ?_
  refine WL_nil ?_
  refine WT_condF rfl ?_
  refine WT_seq ?_
  refine WT_region ?_
  refine WL_v rfl (ov_taK rfl (taL_lone _)) ?_
  refine WL_v rfl (ov_extract rfl rfl) ?_
  refine WL_v rfl (ov_extract rfl rfl) ?_
  refine WL_nil ?_
  refine WT_condT rfl ?_
  refine WT_seq ?_
  refine WT_region ?_
  refine WL_alloc #[.nilFunc] rfl hH1 zero_loneK rfl ?_; rintro g w2 hH2
  refine WL_storeN hH2 rfl rfl (i := 0) rfl rfl rfl (ones_cons rfl ones_nil) sz_impl_loneWork ?_; rintro w3 hH3
  refine WL_nil ?_
  refine WT_seq ?_
  refine WT_region ?_
  refine WL_v rfl (ov_move rfl) ?_
  refine WL_v rfl (ov_len rfl hR.sl st_sl_sl_int) ?_
  refine WL_v rfl (ov_loadN [fnV 121] rfl agg_impl_loneWork rfl ((fun j v hj => by rw [show Addr.add ⟨g, 0, none⟩ j = ⟨g, j, none⟩ by simp [add_of]]; exact (hH3.cb 0 rfl j).trans (by simpa using hj)))) ?_
  refine WL_call rfl rfl cf_impl_loneWork_needs (needs_lone hH3 _) ?_; rintro _ w4 ⟨rfl, hH4⟩
  refine WL_v rfl (ov_eql rfl rfl) ?_
  refine WL_nil ?_
  refine WT_cond rfl (fun hl => ?_) (fun hl => ?_)
  · skip
    first | with_reducible replace hl := of_decide_eq_true hl | with_reducible replace hl := bn_T hl | with_reducible replace hl := bb_T hl | skip
    obtain ⟨x, rfl⟩ : ∃ x, rows = [x] := by
      match rows, hl with
      | [x], _ => exact ⟨x, rfl⟩
      | [], hl => simp at hl
      | _ :: _ :: _, hl => simp at hl; omega
    obtain ⟨u1, g1, c1⟩ := hR.at_ (i := 0) (by simp)
    refine WT_seq ?_
    refine WT_mixL [(0, 1), (1, 0), (2, 1), (3, 1), (4, 0), (5, 3), (6, 1), (7, 1), (8, 1), (9, 1)] mixed (by kernel_rfl) hH4 ?_
    clear hH4
    intro w5 hH4 hC
    refine WM_p rfl rfl (fun _ => ov_field rfl fo_impl_loneWork_0) ?_
    refine WM_v rfl rfl hC (fun _ ⟨_, hH⟩ => ov_load rfl one_func_sl_int_sl_int_bool (hH.cb 1 rfl 0)) ?_
    refine WM_p rfl rfl (fun _ => ov_move rfl) ?_
    refine WM_p rfl rfl (fun _ => ov_index (i := 0) rfl rfl st_sl_sl_int hR.sl (by omega)) ?_
    refine WM_v rfl rfl hC (fun _ ⟨_, hH⟩ => ov_load rfl one_sl_int (c1 hH.drop.drop)) ?_
    refine WM_e rfl ?_
    refine WL_callV (ws := [u1]) rfl rfl rfl rfl cf_impl_RowSums (rowSums_ok hH4 g1.up) ?_; rintro _ w6 ⟨ru, ok, X, rfl, hX, hH6⟩
    refine WL_mix (fun h => absurd rfl h) ?_
    refine WM_p rfl rfl (fun _ => ov_extract rfl rfl) ?_
    refine WM_p rfl rfl (fun _ => ov_extract rfl rfl) ?_
    refine WM_p rfl rfl (fun _ => ov_assign rfl) ?_
    refine WM_p rfl rfl (fun _ => ov_assign rfl) ?_
    refine WM_nil ?_
    exact WT_ret2 Tryz.func76 Tryz.results76 rfl rfl ⟨ru, ok, X, rfl, hX, hH6.del 1 rfl⟩
  first | with_reducible replace hl := of_decide_eq_false hl | with_reducible replace hl := bn_F hl | with_reducible replace hl := bb_F hl | skip
  refine WT_skip ?_
  refine WT_inBlock ?_
  refine WT_seq ?_
  refine WT_region ?_
  refine WL_v rfl (ov_assign rfl) ?_
  refine WL_v rfl (ov_assign rfl) ?_
  refine WL_nil ?_
  exact WT_ret2 Tryz.func76 Tryz.results76 rfl rfl (by
    have : kindRow 3 rows = [] := by
      match rows, hl with
      | [], _ => rfl
      | [_], hl => simp at hl
      | _ :: _ :: _, _ => rfl
    rw [this]
    exact RowT.none hH4.drop)

theorem kindRun_4 (hH : H w h Ls) {rv : Value} {rows : List (List Int)} (hR : RdLL h Ls rv rows) : Rets Tryz.prog 76 #[.int .i64 4, rv] w fun v w' => RowT h Ls v w' (kindRow 4 rows) := by
  have hwk := fun {w : World} (hH : H w h Ls) => workOf_ok hH 4
  refine rets_enter Tryz.func76 rfl Tryz.ntmps76 (by simp) ?_
  refine WT_seq ?_
  refine WT_region ?_
  refine WL_v rfl (ov_assign rfl) ?_
  refine WL_v rfl (ov_assign rfl) ?_
  refine WL_nil ?_
  refine WT_seq ?_
  refine WT_seq ?_
  refine WT_region ?_
  refine WL_v rfl (ov_move rfl) ?_
  refine WL_call rfl rfl cf_impl_workOf (hwk hH) ?_; rintro _ w1 ⟨rfl, hH1⟩
  refine WL_nil ?_
  refine WT_block ?_
  refine WT_seq ?_
  refine WT_region ?_
  refine WL_v rfl (ov_taK rfl (taP_lone _)) ?_
  refine WL_v rfl (ov_extract rfl rfl) ?_
  refine WL_v rfl (ov_extract rfl rfl) ?_
  refine WL_nil ?_
  refine WT_condF rfl ?_
  refine WT_seq ?_
  refine WT_region ?_
  refine WL_v rfl (ov_taK rfl (taL_lone _)) ?_
  refine WL_v rfl (ov_extract rfl rfl) ?_
  refine WL_v rfl (ov_extract rfl rfl) ?_
  refine WL_nil ?_
  refine WT_condT rfl ?_
  refine WT_seq ?_
  refine WT_region ?_
  refine WL_alloc #[.nilFunc] rfl hH1 zero_loneK rfl ?_; rintro g w2 hH2
  refine WL_storeN hH2 rfl rfl (i := 0) rfl rfl rfl (ones_cons rfl ones_nil) sz_impl_loneWork ?_; rintro w3 hH3
  refine WL_nil ?_
  refine WT_seq ?_
  refine WT_region ?_
  refine WL_v rfl (ov_move rfl) ?_
  refine WL_v rfl (ov_len rfl hR.sl st_sl_sl_int) ?_
  refine WL_v rfl (ov_loadN [fnV 122] rfl agg_impl_loneWork rfl ((fun j v hj => by rw [show Addr.add ⟨g, 0, none⟩ j = ⟨g, j, none⟩ by simp [add_of]]; exact (hH3.cb 0 rfl j).trans (by simpa using hj)))) ?_
  refine WL_call rfl rfl cf_impl_loneWork_needs (needs_lone hH3 _) ?_; rintro _ w4 ⟨rfl, hH4⟩
  refine WL_v rfl (ov_eql rfl rfl) ?_
  refine WL_nil ?_
  refine WT_cond rfl (fun hl => ?_) (fun hl => ?_)
  · skip
    first | with_reducible replace hl := of_decide_eq_true hl | with_reducible replace hl := bn_T hl | with_reducible replace hl := bb_T hl | skip
    obtain ⟨x, rfl⟩ : ∃ x, rows = [x] := by
      match rows, hl with
      | [x], _ => exact ⟨x, rfl⟩
      | [], hl => simp at hl
      | _ :: _ :: _, hl => simp at hl; omega
    obtain ⟨u1, g1, c1⟩ := hR.at_ (i := 0) (by simp)
    refine WT_seq ?_
    refine WT_mixL [(0, 1), (1, 0), (2, 1), (3, 1), (4, 0), (5, 3), (6, 1), (7, 1), (8, 1), (9, 1)] mixed (by kernel_rfl) hH4 ?_
    clear hH4
    intro w5 hH4 hC
    refine WM_p rfl rfl (fun _ => ov_field rfl fo_impl_loneWork_0) ?_
    refine WM_v rfl rfl hC (fun _ ⟨_, hH⟩ => ov_load rfl one_func_sl_int_sl_int_bool (hH.cb 1 rfl 0)) ?_
    refine WM_p rfl rfl (fun _ => ov_move rfl) ?_
    refine WM_p rfl rfl (fun _ => ov_index (i := 0) rfl rfl st_sl_sl_int hR.sl (by omega)) ?_
    refine WM_v rfl rfl hC (fun _ ⟨_, hH⟩ => ov_load rfl one_sl_int (c1 hH.drop.drop)) ?_
    refine WM_e rfl ?_
    refine WL_callV (ws := [u1]) rfl rfl rfl rfl cf_impl_RowSort (rowSort_ok hH4 g1.up) ?_; rintro _ w6 ⟨ru, ok, X, rfl, hX, hH6⟩
    refine WL_mix (fun h => absurd rfl h) ?_
    refine WM_p rfl rfl (fun _ => ov_extract rfl rfl) ?_
    refine WM_p rfl rfl (fun _ => ov_extract rfl rfl) ?_
    refine WM_p rfl rfl (fun _ => ov_assign rfl) ?_
    refine WM_p rfl rfl (fun _ => ov_assign rfl) ?_
    refine WM_nil ?_
    exact WT_ret2 Tryz.func76 Tryz.results76 rfl rfl ⟨ru, ok, X, rfl, hX, hH6.del 1 rfl⟩
  first | with_reducible replace hl := of_decide_eq_false hl | with_reducible replace hl := bn_F hl | with_reducible replace hl := bb_F hl | skip
  refine WT_skip ?_
  refine WT_inBlock ?_
  refine WT_seq ?_
  refine WT_region ?_
  refine WL_v rfl (ov_assign rfl) ?_
  refine WL_v rfl (ov_assign rfl) ?_
  refine WL_nil ?_
  exact WT_ret2 Tryz.func76 Tryz.results76 rfl rfl (by
    have : kindRow 4 rows = [] := by
      match rows, hl with
      | [], _ => rfl
      | [_], hl => simp at hl
      | _ :: _ :: _, _ => rfl
    rw [this]
    exact RowT.none hH4.drop)

theorem kindRun_5 (hH : H w h Ls) {rv : Value} {rows : List (List Int)} (hR : RdLL h Ls rv rows) : Rets Tryz.prog 76 #[.int .i64 5, rv] w fun v w' => RowT h Ls v w' (kindRow 5 rows) := by
  have hwk := fun {w : World} (hH : H w h Ls) => workOf_ok hH 5
  refine rets_enter Tryz.func76 rfl Tryz.ntmps76 (by simp) ?_
  refine WT_seq ?_
  refine WT_region ?_
  refine WL_v rfl (ov_assign rfl) ?_
  refine WL_v rfl (ov_assign rfl) ?_
  refine WL_nil ?_
  refine WT_seq ?_
  refine WT_seq ?_
  refine WT_region ?_
  refine WL_v rfl (ov_move rfl) ?_
  refine WL_call rfl rfl cf_impl_workOf (hwk hH) ?_; rintro _ w1 ⟨rfl, hH1⟩
  refine WL_nil ?_
  refine WT_block ?_
  refine WT_seq ?_
  refine WT_region ?_
  refine WL_v rfl (ov_taK rfl (taP_lone _)) ?_
  refine WL_v rfl (ov_extract rfl rfl) ?_
  refine WL_v rfl (ov_extract rfl rfl) ?_
  refine WL_nil ?_
  refine WT_condF rfl ?_
  refine WT_seq ?_
  refine WT_region ?_
  refine WL_v rfl (ov_taK rfl (taL_lone _)) ?_
  refine WL_v rfl (ov_extract rfl rfl) ?_
  refine WL_v rfl (ov_extract rfl rfl) ?_
  refine WL_nil ?_
  refine WT_condT rfl ?_
  refine WT_seq ?_
  refine WT_region ?_
  refine WL_alloc #[.nilFunc] rfl hH1 zero_loneK rfl ?_; rintro g w2 hH2
  refine WL_storeN hH2 rfl rfl (i := 0) rfl rfl rfl (ones_cons rfl ones_nil) sz_impl_loneWork ?_; rintro w3 hH3
  refine WL_nil ?_
  refine WT_seq ?_
  refine WT_region ?_
  refine WL_v rfl (ov_move rfl) ?_
  refine WL_v rfl (ov_len rfl hR.sl st_sl_sl_int) ?_
  refine WL_v rfl (ov_loadN [fnV 123] rfl agg_impl_loneWork rfl ((fun j v hj => by rw [show Addr.add ⟨g, 0, none⟩ j = ⟨g, j, none⟩ by simp [add_of]]; exact (hH3.cb 0 rfl j).trans (by simpa using hj)))) ?_
  refine WL_call rfl rfl cf_impl_loneWork_needs (needs_lone hH3 _) ?_; rintro _ w4 ⟨rfl, hH4⟩
  refine WL_v rfl (ov_eql rfl rfl) ?_
  refine WL_nil ?_
  refine WT_cond rfl (fun hl => ?_) (fun hl => ?_)
  · skip
    first | with_reducible replace hl := of_decide_eq_true hl | with_reducible replace hl := bn_T hl | with_reducible replace hl := bb_T hl | skip
    obtain ⟨x, rfl⟩ : ∃ x, rows = [x] := by
      match rows, hl with
      | [x], _ => exact ⟨x, rfl⟩
      | [], hl => simp at hl
      | _ :: _ :: _, hl => simp at hl; omega
    obtain ⟨u1, g1, c1⟩ := hR.at_ (i := 0) (by simp)
    refine WT_seq ?_
    refine WT_mixL [(0, 1), (1, 0), (2, 1), (3, 1), (4, 0), (5, 3), (6, 1), (7, 1), (8, 1), (9, 1)] mixed (by kernel_rfl) hH4 ?_
    clear hH4
    intro w5 hH4 hC
    refine WM_p rfl rfl (fun _ => ov_field rfl fo_impl_loneWork_0) ?_
    refine WM_v rfl rfl hC (fun _ ⟨_, hH⟩ => ov_load rfl one_func_sl_int_sl_int_bool (hH.cb 1 rfl 0)) ?_
    refine WM_p rfl rfl (fun _ => ov_move rfl) ?_
    refine WM_p rfl rfl (fun _ => ov_index (i := 0) rfl rfl st_sl_sl_int hR.sl (by omega)) ?_
    refine WM_v rfl rfl hC (fun _ ⟨_, hH⟩ => ov_load rfl one_sl_int (c1 hH.drop.drop)) ?_
    refine WM_e rfl ?_
    refine WL_callV (ws := [u1]) rfl rfl rfl rfl cf_impl_RowTurn (rowTurn_ok hH4 g1.up) ?_; rintro _ w6 ⟨ru, ok, X, rfl, hX, hH6⟩
    refine WL_mix (fun h => absurd rfl h) ?_
    refine WM_p rfl rfl (fun _ => ov_extract rfl rfl) ?_
    refine WM_p rfl rfl (fun _ => ov_extract rfl rfl) ?_
    refine WM_p rfl rfl (fun _ => ov_assign rfl) ?_
    refine WM_p rfl rfl (fun _ => ov_assign rfl) ?_
    refine WM_nil ?_
    exact WT_ret2 Tryz.func76 Tryz.results76 rfl rfl ⟨ru, ok, X, rfl, hX, hH6.del 1 rfl⟩
  first | with_reducible replace hl := of_decide_eq_false hl | with_reducible replace hl := bn_F hl | with_reducible replace hl := bb_F hl | skip
  refine WT_skip ?_
  refine WT_inBlock ?_
  refine WT_seq ?_
  refine WT_region ?_
  refine WL_v rfl (ov_assign rfl) ?_
  refine WL_v rfl (ov_assign rfl) ?_
  refine WL_nil ?_
  exact WT_ret2 Tryz.func76 Tryz.results76 rfl rfl (by
    have : kindRow 5 rows = [] := by
      match rows, hl with
      | [], _ => rfl
      | [_], hl => simp at hl
      | _ :: _ :: _, _ => rfl
    rw [this]
    exact RowT.none hH4.drop)

theorem kindRun_given (hH : H w h Ls) {rv : Value} : Rets Tryz.prog 76 #[.int .i64 0, rv] w fun v w' => RowT h Ls v w' [] := by
  have hwk := fun {w : World} (hH : H w h Ls) => workOf_ok hH 0
  refine rets_enter Tryz.func76 rfl Tryz.ntmps76 (by simp) ?_
  refine WT_seq ?_
  refine WT_region ?_
  refine WL_v rfl (ov_assign rfl) ?_
  refine WL_v rfl (ov_assign rfl) ?_
  refine WL_nil ?_
  refine WT_seq ?_
  refine WT_seq ?_
  refine WT_region ?_
  refine WL_v rfl (ov_move rfl) ?_
  refine WL_call rfl rfl cf_impl_workOf (hwk hH) ?_; rintro _ w1 ⟨rfl, hH1⟩
  refine WL_nil ?_
  refine WT_block ?_
  refine WT_seq ?_
  refine WT_region ?_
  refine WL_v rfl (ov_taK rfl taP_given) ?_
  refine WL_v rfl (ov_extract rfl rfl) ?_
  refine WL_v rfl (ov_extract rfl rfl) ?_
  refine WL_nil ?_
  refine WT_condF rfl ?_
  refine WT_seq ?_
  refine WT_region ?_
  refine WL_v rfl (ov_taK rfl taL_given) ?_
  refine WL_v rfl (ov_extract rfl rfl) ?_
  refine WL_v rfl (ov_extract rfl rfl) ?_
  refine WL_nil ?_
  refine WT_condF rfl ?_
  refine WT_skip ?_
  refine WT_inBlock ?_
  refine WT_seq ?_
  refine WT_region ?_
  refine WL_v rfl (ov_assign rfl) ?_
  refine WL_v rfl (ov_assign rfl) ?_
  refine WL_nil ?_
  exact WT_ret2 Tryz.func76 Tryz.results76 rfl rfl (RowT.none hH1)
theorem kindRun_ok (hH : H w h Ls) {k : Int} (hk : kindOk k = true) {rv : Value} {rows : List (List Int)} (hR : RdLL h Ls rv rows) : Rets Tryz.prog 76 #[.int .i64 k, rv] w fun v w' => RowT h Ls v w' (kindRow k rows) := by
  rcases (kindOk_iff k).1 hk with rfl | rfl | rfl | rfl | rfl | rfl
  · exact kindRun_given hH
  · exact kindRun_1 hH hR
  · exact kindRun_2 hH hR
  · exact kindRun_3 hH hR
  · exact kindRun_4 hH hR
  · exact kindRun_5 hH hR
end
end Go.Proofs.YteagnhdhafiofaaGreat
