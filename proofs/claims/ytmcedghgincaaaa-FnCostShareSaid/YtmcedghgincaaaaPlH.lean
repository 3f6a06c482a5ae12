/- Plain laws: places: each node gets the least one that is not held. -/
import Derived.Test.YtmcedghgincaaaaPlF
namespace Go.Proofs.Ytmcedghgincaaaa

/-- The least number that is not in a list. -/
def IsLeast (l : List Int) (n : Nat) : Prop := (n : Int) ∉ l ∧ ∀ m, m < n → (m : Int) ∈ l
theorem IsLeast.uniq {l : List Int} {n m : Nat} (hn : IsLeast l n) (hm : IsLeast l m) : n = m := by
  rcases Nat.lt_trichotomy n m with h | h | h
  · exact absurd (hm.2 n h) hn.1
  · exact h
  · exact absurd (hn.2 m h) hm.1
theorem leFree_len {l : List Int} {n : Nat} (h : ∀ m, m < n → (m : Int) ∈ l) : n ≤ l.length := by
  have h1 : ((List.range n).map fun (m : Nat) => (m : Int)).Nodup := by
    rw [List.nodup_iff_pairwise_ne, List.pairwise_map]
    exact (List.nodup_iff_pairwise_ne.1 List.nodup_range).imp fun h he => h (by omega)
  have h2 := h1.length_le_of_subset (l₂ := l) fun a ha => by
    obtain ⟨m, hm, rfl⟩ := List.mem_map.1 ha
    exact h m (List.mem_range.1 hm)
  simpa using h2
/-- It is reckoned by going up. -/
def leastFree (l : List Int) : Nat := ((List.range (l.length + 1)).find? fun (n : Nat) => decide ((n : Int) ∉ l)).getD 0
theorem leastFree_spec (l : List Int) : IsLeast l (leastFree l) := by
  unfold leastFree
  cases h : (List.range (l.length + 1)).find? fun (n : Nat) => decide ((n : Int) ∉ l) with
  | none =>
    have := List.find?_eq_none.1 h
    have h2 := leFree_len (l := l) (n := l.length + 1) fun m hm => by simpa using this m (List.mem_range.2 hm)
    omega
  | some n =>
    rw [List.find?_range_eq_some] at h
    obtain ⟨h1, h2, h3⟩ := h
    refine ⟨by simpa using h1, fun m hm => by simpa using h3 m hm⟩
theorem leastFree_le (l : List Int) : leastFree l ≤ l.length := leFree_len (leastFree_spec l).2

/-- The places held at a node by the first nodes. -/
def takenTo (E out : List Int) (i : Nat) : Nat → List Int
  | 0 => []
  | j + 1 => takenTo E out i j ++ (if (i : Int) ≤ E.getD j 0 then [out.getD j 0] else [])
theorem mem_takenTo {E out : List Int} {i : Nat} {a : Int} : ∀ {j : Nat}, a ∈ takenTo E out i j ↔ ∃ k, k < j ∧ (i : Int) ≤ E.getD k 0 ∧ out.getD k 0 = a
  | 0 => by simp [takenTo]
  | j + 1 => by
    rw [takenTo, List.mem_append, mem_takenTo]
    constructor
    · rintro (⟨k, h1, h2, h3⟩ | h)
      · exact ⟨k, by omega, h2, h3⟩
      · split at h
        · rename_i h2
          exact ⟨j, by omega, h2, (List.mem_singleton.1 h).symm⟩
        · simp at h
    · rintro ⟨k, h1, h2, h3⟩
      rcases Nat.lt_or_ge k j with h4 | h4
      · exact .inl ⟨k, h4, h2, h3⟩
      · obtain rfl : k = j := by omega
        rw [if_pos h2, h3]
        exact .inr (List.mem_singleton.2 rfl)
theorem takenTo_len (E out : List Int) (i : Nat) : ∀ j, ((takenTo E out i j).length : Int) = live E i j
  | 0 => by simp [takenTo, live]
  | j + 1 => by
    rw [takenTo, List.length_append, live, ← takenTo_len E out i j]
    split <;> simp
/-- The places of the first nodes. -/
def giveTo (E : List Int) : Nat → List Int
  | 0 => []
  | k + 1 => giveTo E k ++ [((leastFree (takenTo E (giveTo E k) k k) : Nat) : Int)]
theorem giveTo_len (E : List Int) : ∀ k, (giveTo E k).length = k
  | 0 => rfl
  | k + 1 => by simp [giveTo, giveTo_len E k]
theorem giveTo_get {E : List Int} {i : Nat} : ∀ {k : Nat}, i < k → (giveTo E k).getD i 0 = ((leastFree (takenTo E (giveTo E i) i i) : Nat) : Int)
  | k + 1, h => by
    rw [giveTo, List.getD_eq_getElem?_getD]
    rcases Nat.lt_or_ge i k with h1 | h1
    · rw [List.getElem?_append_left (by rw [giveTo_len]; exact h1), ← List.getD_eq_getElem?_getD]
      exact giveTo_get h1
    · obtain rfl : i = k := by omega
      rw [List.getElem?_append_right (by rw [giveTo_len]; omega), giveTo_len]
      simp
theorem giveTo_same {E : List Int} {i k j : Nat} (h : i < k) (h2 : i < j) : (giveTo E k).getD i 0 = (giveTo E j).getD i 0 := by rw [giveTo_get h, giveTo_get h2]
/-- Whose row is still needed has another place. -/
theorem giveTo_apart {E : List Int} {j i k : Nat} (hji : j < i) (hik : i < k) (hE : (i : Int) ≤ E.getD j 0) : (giveTo E k).getD j 0 ≠ (giveTo E k).getD i 0 := by
  intro he
  have h1 := (leastFree_spec (takenTo E (giveTo E i) i i)).1
  rw [← giveTo_get hik] at h1
  exact h1 (mem_takenTo.2 ⟨j, hji, hE, by rw [giveTo_same hji (show j < k by omega)]; exact he⟩)
theorem giveTo_nonneg {E : List Int} {i k : Nat} (h : i < k) : 0 ≤ (giveTo E k).getD i 0 := by rw [giveTo_get h]; omega
theorem giveTo_le {E : List Int} {i k : Nat} (h : i < k) : (giveTo E k).getD i 0 ≤ live E i i := by
  rw [giveTo_get h, ← takenTo_len E (giveTo E i) i i]
  have := leastFree_le (takenTo E (giveTo E i) i i)
  omega
theorem takenTo_nodup {E : List Int} {i : Nat} : ∀ j, j ≤ i → (takenTo E (giveTo E i) i j).Nodup
  | 0, _ => by simp [takenTo]
  | j + 1, h => by
    rw [takenTo]
    split
    · rename_i hE
      rw [List.nodup_append]
      refine ⟨takenTo_nodup j (by omega), by simp, fun a ha b hb => ?_⟩
      rw [List.mem_singleton] at hb
      subst hb
      obtain ⟨k, h1, h2, rfl⟩ := mem_takenTo.1 ha
      exact giveTo_apart h1 (by omega) (by omega)
    · simpa using takenTo_nodup j (by omega)

theorem rowsTo_arg (E : List Int) : ∀ n : Nat, rowsTo E n = 0 ∨ ∃ i, i < n ∧ rowsTo E n = 1 + live E i i
  | 0 => .inl rfl
  | n + 1 => by
    rw [rowsTo]
    rcases Int.le_total (rowsTo E n) (1 + live E n n) with h | h
    · exact .inr ⟨n, by omega, by omega⟩
    · rcases rowsTo_arg E n with h1 | ⟨i, h1, h2⟩
      · have := live_rg E n n; omega
      · exact .inr ⟨i, by omega, by omega⟩
theorem le_rowsTo {E : List Int} {i : Nat} : ∀ {n : Nat}, i < n → 1 + live E i i ≤ rowsTo E n
  | n + 1, h => by
    rw [rowsTo]
    rcases Nat.lt_or_ge i n with h1 | h1
    · have := le_rowsTo (E := E) h1; omega
    · obtain rfl : i = n := by omega
      omega
/-- As many places are used as must be. -/
theorem give_most (E : List Int) {n : Nat} (hn : 0 < n) (m : Int) (hm : m = 0 ∨ m ∈ giveTo E n) (hle : ∀ a ∈ giveTo E n, a ≤ m) : m + 1 = rowsTo E n := by
  have hup : m + 1 ≤ rowsTo E n := by
    rcases hm with rfl | hm
    · have := le_rowsTo (E := E) hn; have := live_rg E 0 0; omega
    · obtain ⟨i, hi, rfl⟩ := List.mem_iff_getElem.1 hm
      rw [giveTo_len] at hi
      have h1 := giveTo_le (E := E) hi
      rw [List.getD_eq_getElem?_getD, List.getElem?_eq_getElem (by rw [giveTo_len]; exact hi)] at h1
      have h2 := le_rowsTo (E := E) hi
      simp only [Option.getD_some] at h1
      omega
  rcases rowsTo_arg E n with h0 | ⟨i, hi, hr⟩
  · have h1 := le_rowsTo (E := E) hn; have := live_rg E 0 0; omega
  · have hnd := takenTo_nodup (E := E) (i := i) i (Nat.le_refl _)
    have hl := takenTo_len E (giveTo E i) i i
    have h0 := (leastFree_spec (takenTo E (giveTo E i) i i)).1
    have hmem : ∀ k, k < n → (giveTo E n).getD k 0 ∈ giveTo E n := fun k hk => by
      rw [List.getD_eq_getElem?_getD, List.getElem?_eq_getElem (by rw [giveTo_len]; exact hk)]
      exact List.getElem_mem _
    have hall : ∀ a ∈ ((leastFree (takenTo E (giveTo E i) i i) : Nat) : Int) :: takenTo E (giveTo E i) i i, 0 ≤ a ∧ a ≤ m := by
      intro a ha
      rcases List.mem_cons.1 ha with rfl | ha
      · rw [← giveTo_get hi]
        exact ⟨giveTo_nonneg hi, hle _ (hmem i hi)⟩
      · obtain ⟨k, h1, h2, rfl⟩ := mem_takenTo.1 ha
        rw [giveTo_same h1 (show k < n by omega)]
        exact ⟨giveTo_nonneg (by omega), hle _ (hmem k (by omega))⟩
    have hnd2 : (((leastFree (takenTo E (giveTo E i) i i) : Nat) : Int) :: takenTo E (giveTo E i) i i).Nodup := List.nodup_cons.2 ⟨h0, hnd⟩
    have hm0 : 0 ≤ m := by have := hall _ (List.mem_cons_self ..); omega
    have := hnd2.length_le_of_subset (l₂ := (List.range (m.toNat + 1)).map fun (m : Nat) => (m : Int)) fun a ha => by
      have := hall a ha
      exact List.mem_map.2 ⟨a.toNat, List.mem_range.2 (by omega), by omega⟩
    simp at this
    omega

/-- Places of a plan. -/
def giveOf (p : List Nd) : List Int := if planOk p = true then giveTo (endsTo p p.length) p.length else []
theorem give_fits {p : List Nd} (hv : planOk p = true) : fitsPl p (giveOf p) = true := by
  unfold fitsPl giveOf
  rw [hv, if_pos rfl, Bool.true_and, decide_eq_true_eq]
  refine ⟨giveTo_len _ _, fun i hi => ⟨giveTo_nonneg hi, fun k hk hc => ?_⟩⟩
  exact giveTo_apart hk hi hc.1 hc.2
theorem all_fits {p : List Nd} (hv : planOk p = true) : fitsPl p ((List.range p.length).map fun (i : Nat) => (i : Int)) = true := by
  have hg : ∀ i, i < p.length → (((List.range p.length).map fun (i : Nat) => (i : Int))).getD i 0 = (i : Int) := fun i hi => by
    rw [List.getD_eq_getElem?_getD, List.getElem?_map, List.getElem?_range hi]; rfl
  unfold fitsPl
  rw [hv, Bool.true_and, decide_eq_true_eq]
  refine ⟨by simp, fun i hi => ⟨by rw [hg i hi]; omega, fun k hk hc => ?_⟩⟩
  have := hc.2
  rw [hg i hi, hg k (by omega)] at this
  omega

/-! a list of free places, and how many there are -/

/-- What is free: those made that are not held (at a later time than the bound says). -/
def Held (E out : List Int) (i : Nat) (b : Int) (j : Nat) (n : Nat) : Prop := ∃ k, k < i ∧ out.getD k 0 = (n : Int) ∧ (b + 1 ≤ E.getD k 0 ∨ (E.getD k 0 = b ∧ j ≤ k))
structure FreeAt (E out : List Int) (i : Nat) (b : Int) (j : Nat) (m : Nat) (ps : List Nat) : Prop where
  mem : ∀ n, n ∈ ps ↔ n < m ∧ ¬ Held E out i b j n
  asc : ps.Pairwise (· < ·)
  lt : ∀ k, k < i → out.getD k 0 < (m : Int)
theorem FreeAt.zero (E : List Int) : FreeAt E [] 0 (-1) 0 0 [] := ⟨fun n => by simp, by simp, by simp⟩
/-- A place that nobody holds any more is put in order. -/
def insAsc (a : Nat) (ps : List Nat) : List Nat := ps.takeWhile (fun x => decide (x < a)) ++ a :: ps.dropWhile (fun x => decide (x < a))
theorem mem_insAsc {a b : Nat} {ps : List Nat} : b ∈ insAsc a ps ↔ b = a ∨ b ∈ ps := by
  unfold insAsc
  have h : ps.takeWhile (fun x => decide (x < a)) ++ ps.dropWhile (fun x => decide (x < a)) = ps := List.takeWhile_append_dropWhile
  constructor
  · intro hb
    rcases List.mem_append.1 hb with hb | hb
    · exact .inr (by rw [← h]; exact List.mem_append_left _ hb)
    · rcases List.mem_cons.1 hb with rfl | hb
      · exact .inl rfl
      · exact .inr (by rw [← h]; exact List.mem_append_right _ hb)
  · rintro (rfl | hb)
    · simp
    · rw [← h] at hb
      rcases List.mem_append.1 hb with hb | hb
      · exact List.mem_append_left _ hb
      · exact List.mem_append_right _ (List.mem_cons_of_mem _ hb)
theorem insAsc_asc {a : Nat} : ∀ {ps : List Nat}, ps.Pairwise (· < ·) → a ∉ ps → (insAsc a ps).Pairwise (· < ·)
  | [], _, _ => by simp [insAsc]
  | x :: ps, h, ha => by
    simp only [List.mem_cons, not_or] at ha
    rw [List.pairwise_cons] at h
    by_cases hx : x < a
    · have : insAsc a (x :: ps) = x :: insAsc a ps := by simp [insAsc, hx]
      rw [this, List.pairwise_cons]
      refine ⟨fun b hb => ?_, insAsc_asc h.2 ha.2⟩
      rcases mem_insAsc.1 hb with rfl | hb
      · exact hx
      · exact h.1 b hb
    · have : insAsc a (x :: ps) = a :: x :: ps := by simp [insAsc, hx]
      rw [this, List.pairwise_cons]
      refine ⟨fun b hb => ?_, List.pairwise_cons.2 h⟩
      rcases List.mem_cons.1 hb with rfl | hb
      · omega
      · have := h.1 b hb; omega
theorem insAsc_len (a : Nat) (ps : List Nat) : (insAsc a ps).length = ps.length + 1 := by
  unfold insAsc
  have h : (ps.takeWhile (fun x => decide (x < a)) ++ ps.dropWhile (fun x => decide (x < a))).length = ps.length := by rw [List.takeWhile_append_dropWhile]
  simp only [List.length_append, List.length_cons] at h ⊢
  omega

/-- Places held by two are the same one's. -/
theorem held_inj {E : List Int} {i : Nat} {b : Int} (hb : (i : Int) ≤ b + 1) {k l : Nat} (hk : k < i) (hl : l < i) (h1 : b ≤ E.getD k 0) (h2 : b ≤ E.getD l 0) (he : (giveTo E i).getD k 0 = (giveTo E i).getD l 0) : k = l := by
  rcases Nat.lt_trichotomy k l with h | h | h
  · exact absurd he (giveTo_apart h hl (by omega))
  · exact h
  · exact absurd he.symm (giveTo_apart h hk (by omega))
/-- One step of giving back. -/
theorem FreeAt.give {E : List Int} {i : Nat} {b : Int} {j m : Nat} {ps : List Nat} {n : Nat} (hF : FreeAt E (giveTo E i) i b j m ps) (hb : (i : Int) ≤ b + 1) (hj : j < i) (hE : E.getD j 0 = b) (hn : (giveTo E i).getD j 0 = (n : Int)) :
    FreeAt E (giveTo E i) i b (j + 1) m (insAsc n ps) := by
  have hnh : Held E (giveTo E i) i b j n := ⟨j, hj, hn, .inr ⟨hE, Nat.le_refl _⟩⟩
  have hnot : n ∉ ps := fun h => ((hF.mem n).1 h).2 hnh
  have hnm : n < m := by have := hF.lt j hj; omega
  refine ⟨fun a => ?_, insAsc_asc hF.asc hnot, hF.lt⟩
  rw [mem_insAsc, hF.mem]
  constructor
  · rintro (rfl | ⟨h1, h2⟩)
    · refine ⟨hnm, fun ⟨k, h1, h2, h3⟩ => ?_⟩
      have hkj := held_inj hb h1 hj (by omega) (by omega) (h2.trans hn.symm)
      subst hkj
      omega
    · refine ⟨h1, fun ⟨k, g1, g2, g3⟩ => h2 ⟨k, g1, g2, by omega⟩⟩
  · rintro ⟨h1, h2⟩
    by_cases han : a = n
    · exact .inl han
    · refine .inr ⟨h1, fun ⟨k, g1, g2, g3⟩ => h2 ⟨k, g1, g2, ?_⟩⟩
      rcases g3 with g3 | ⟨g3, g4⟩
      · exact .inl g3
      · refine .inr ⟨g3, ?_⟩
        rcases Nat.lt_or_ge j k with h5 | h5
        · exact h5
        · obtain rfl : k = j := by omega
          omega
theorem FreeAt.skip {E out : List Int} {i : Nat} {b : Int} {j m : Nat} {ps : List Nat} (hF : FreeAt E out i b j m ps) (hE : E.getD j 0 ≠ b) : FreeAt E out i b (j + 1) m ps := by
  refine ⟨fun n => ?_, hF.asc, hF.lt⟩
  rw [hF.mem]
  refine and_congr_right fun _ => not_congr ?_
  constructor
  · rintro ⟨k, g1, g2, g3⟩
    refine ⟨k, g1, g2, g3.imp id fun ⟨g4, g5⟩ => ⟨g4, ?_⟩⟩
    rcases Nat.lt_or_ge j k with h5 | h5
    · exact h5
    · obtain rfl : k = j := by omega
      exact absurd g4 hE
  · rintro ⟨k, g1, g2, g3⟩
    exact ⟨k, g1, g2, by omega⟩
theorem FreeAt.held {E : List Int} {i m : Nat} {ps : List Nat} (hF : FreeAt E (giveTo E i) i ((i : Int) - 1) i m ps) (n : Nat) : n ∈ ps ↔ n < m ∧ (n : Int) ∉ takenTo E (giveTo E i) i i := by
  rw [hF.mem, mem_takenTo]
  refine and_congr_right fun _ => not_congr ?_
  constructor
  · rintro ⟨k, g1, g2, g3⟩
    exact ⟨k, g1, by omega, g2⟩
  · rintro ⟨k, g1, g2, g3⟩
    exact ⟨k, g1, g3, .inl (by omega)⟩
theorem taken_lt {E out : List Int} {i : Nat} {b : Int} {j m : Nat} {ps : List Nat} (hF : FreeAt E out i b j m ps) {a : Int} (h : a ∈ takenTo E out i i) : a < (m : Int) := by
  obtain ⟨k, g1, g2, rfl⟩ := mem_takenTo.1 h
  exact hF.lt k g1
/-- No place is free: a new one. -/
theorem FreeAt.makes {E : List Int} {i m : Nat} (hF : FreeAt E (giveTo E i) i ((i : Int) - 1) i m []) (hE : (i : Int) ≤ E.getD i 0) :
    m = leastFree (takenTo E (giveTo E i) i i) ∧ FreeAt E (giveTo E (i + 1)) (i + 1) (i : Int) 0 (m + 1) [] := by
  have h1 : IsLeast (takenTo E (giveTo E i) i i) m := ⟨fun h => by have := taken_lt hF h; omega, fun n hn => by
    have h2 := hF.held n
    by_cases h3 : (n : Int) ∈ takenTo E (giveTo E i) i i
    · exact h3
    · exact absurd (h2.2 ⟨hn, h3⟩) (by simp)⟩
  have he := h1.uniq (leastFree_spec _)
  have hgi : (giveTo E (i + 1)).getD i 0 = (m : Int) := by rw [giveTo_get (by omega), ← he]
  refine ⟨he, fun n => ?_, by simp, fun k hk => ?_⟩
  · simp only [List.not_mem_nil, false_iff, not_and, Classical.not_not]
    intro hn
    rcases Nat.lt_or_ge n m with h3 | h3
    · obtain ⟨k, g1, g2, g3⟩ := mem_takenTo.1 (h1.2 n h3)
      exact ⟨k, by omega, by rw [giveTo_same (show k < i + 1 by omega) g1]; exact g3, by omega⟩
    · obtain rfl : n = m := by omega
      exact ⟨i, by omega, hgi, by omega⟩
  · rcases Nat.lt_or_ge k i with h3 | h3
    · rw [giveTo_same hk h3]; have := hF.lt k h3; omega
    · obtain rfl : k = i := by omega
      rw [hgi]; omega
/-- The first free place is taken. -/
theorem FreeAt.takes {E : List Int} {i m a : Nat} {ps : List Nat} (hF : FreeAt E (giveTo E i) i ((i : Int) - 1) i m (a :: ps)) (hE : (i : Int) ≤ E.getD i 0) :
    a = leastFree (takenTo E (giveTo E i) i i) ∧ FreeAt E (giveTo E (i + 1)) (i + 1) (i : Int) 0 m ps := by
  have hasc := List.pairwise_cons.1 hF.asc
  have ha := (hF.held a).1 (List.mem_cons_self ..)
  have h1 : IsLeast (takenTo E (giveTo E i) i i) a := ⟨ha.2, fun n hn => by
    have h2 := hF.held n
    by_cases h3 : (n : Int) ∈ takenTo E (giveTo E i) i i
    · exact h3
    · have := h2.2 ⟨by omega, h3⟩
      rcases List.mem_cons.1 this with h4 | h4
      · omega
      · have := hasc.1 n h4; omega⟩
  have he := h1.uniq (leastFree_spec _)
  have hgi : (giveTo E (i + 1)).getD i 0 = (a : Int) := by rw [giveTo_get (by omega), ← he]
  refine ⟨he, fun n => ?_, hasc.2, fun k hk => ?_⟩
  · have h2 := hF.held n
    constructor
    · intro hn
      have h3 := h2.1 (List.mem_cons_of_mem _ hn)
      have h4 := hasc.1 n hn
      refine ⟨h3.1, fun ⟨k, g1, g2, g3⟩ => ?_⟩
      rcases Nat.lt_or_ge k i with h5 | h5
      · exact h3.2 (mem_takenTo.2 ⟨k, h5, by omega, by rw [giveTo_same h5 (show k < i + 1 by omega)]; exact g2⟩)
      · obtain rfl : k = i := by omega
        rw [hgi] at g2; omega
    · rintro ⟨h3, h4⟩
      have h5 : (n : Int) ∉ takenTo E (giveTo E i) i i := fun h => by
        obtain ⟨k, g1, g2, g3⟩ := mem_takenTo.1 h
        exact h4 ⟨k, by omega, by rw [giveTo_same (show k < i + 1 by omega) g1]; exact g3, by omega⟩
      rcases List.mem_cons.1 (h2.2 ⟨h3, h5⟩) with h6 | h6
      · exact absurd ⟨i, by omega, by rw [hgi, h6], by omega⟩ h4
      · exact h6
  · rcases Nat.lt_or_ge k i with h3 | h3
    · rw [giveTo_same hk h3]; exact hF.lt k h3
    · obtain rfl : k = i := by omega
      rw [hgi]; omega
end Go.Proofs.Ytmcedghgincaaaa
