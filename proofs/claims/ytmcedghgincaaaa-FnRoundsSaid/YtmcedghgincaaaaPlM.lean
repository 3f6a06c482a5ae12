/- Plain laws: what is ready; counts behind a node. -/
import Derived.Test.YtmcedghgincaaaaPlK
import Derived.Test.YtmcedghgincaaaaPlJ
namespace Go.Proofs.Ytmcedghgincaaaa

/-- Who is ready behind some. -/
def readyB (p : List Nd) (D : List Int) (i : Nat) : Bool := decide ((i : Int) ∉ D) && (p.getD i default).frm.all fun f => decide (f ∈ D)
def readyL (p : List Nd) (D : List Int) : List Nat := (List.range p.length).filter (readyB p D)
theorem mem_readyL {p : List Nd} {D : List Int} {i : Nat} : i ∈ readyL p D ↔ i < p.length ∧ (i : Int) ∉ D ∧ ∀ f ∈ (p.getD i default).frm, f ∈ D := by
  simp [readyL, readyB]
theorem readyL_len (p : List Nd) (D : List Int) : (readyL p D).length ≤ p.length := by
  have := List.length_filter_le (readyB p D) (List.range p.length)
  simpa [readyL] using this
theorem readyL_nodup (p : List Nd) (D : List Int) : (readyL p D).Nodup := List.nodup_range.filter _
theorem readyL_congr {p : List Nd} {D E : List Int} (hv : planOk p = true) (h : ∀ i : Nat, i < p.length → ((i : Int) ∈ D ↔ (i : Int) ∈ E)) : readyL p D = readyL p E := by
  refine List.filter_congr fun i hi => ?_
  have hip := List.mem_range.1 hi
  unfold readyB
  have h1 : decide ((i : Int) ∉ D) = decide ((i : Int) ∉ E) := decide_eq_decide.2 (not_congr (h i hip))
  rw [h1]
  congr 1
  rw [Bool.eq_iff_iff, List.all_eq_true, List.all_eq_true]
  refine forall_congr' fun f => forall_congr' fun hf => ?_
  have := frm_pos hv hip f hf
  have h2 := h f.toNat (by omega)
  rw [show (f.toNat : Int) = f by omega] at h2
  simp only [decide_eq_true_eq, h2]

theorem toI_inj {a b : List Nat} (h : (a.map fun (j : Nat) => (j : Int)) = b.map fun (j : Nat) => (j : Int)) : a = b := by
  have := congrArg (List.map Int.toNat) h
  simpa [List.map_map, Function.comp_def] using this
/-- The first level is what is ready at first. -/
theorem ready_first {p : List Nd} (hv : planOk p = true) : readyL p [] = levRow p 0 := by
  refine List.filter_congr fun i hi => ?_
  have hip := List.mem_range.1 hi
  have h1 : lev p i = upOf 1 (levelsTo p i) (p.getD i default).frm := levelsTo_getD hip
  unfold readyB
  rw [Bool.eq_iff_iff]
  simp only [List.not_mem_nil, not_false_eq_true, decide_true, Bool.true_and, List.all_eq_true, decide_eq_true_eq, decide_false, Bool.false_eq_true]
  constructor
  · intro h
    have : (p.getD i default).frm = [] := List.eq_nil_iff_forall_not_mem.2 fun f hf => h f hf
    rw [h1, this]; rfl
  · intro h f hf
    have h2 := le_upOf (c := 1) (ps := levelsTo p i) hf
    have h3 : 0 ≤ (levelsTo p i).getD f.toNat 0 := levelsTo_getD_nonneg p i f.toNat
    rw [h1] at h
    have : upOf 1 (levelsTo p i) (p.getD i default).frm = 0 := h
    omega
/-- Behind it the second one is ready. -/
theorem ready_second {p : List Nd} (hv : planOk p = true) : readyL p ((levRow p 0).map fun (j : Nat) => (j : Int)) = levRow p 1 := by
  refine List.filter_congr fun i hi => ?_
  have hip := List.mem_range.1 hi
  have h1 : lev p i = upOf 1 (levelsTo p i) (p.getD i default).frm := levelsTo_getD hip
  have hmem : ∀ f : Int, f ∈ ((levRow p 0).map fun (j : Nat) => (j : Int)) ↔ 0 ≤ f ∧ f.toNat < p.length ∧ lev p f.toNat = 0 := fun f => by
    simp only [List.mem_map]
    constructor
    · rintro ⟨j, hj, rfl⟩
      have := mem_levRow.1 hj
      refine ⟨by omega, by simpa using this.1, by simpa using this.2⟩
    · rintro ⟨h2, h3, h4⟩
      exact ⟨f.toNat, mem_levRow.2 ⟨h3, by simpa using h4⟩, by omega⟩
  unfold readyB
  rw [Bool.eq_iff_iff]
  simp only [Bool.and_eq_true, List.all_eq_true, decide_eq_true_eq, hmem]
  have hup : ∀ f ∈ (p.getD i default).frm, lev p f.toNat + 1 ≤ lev p i := fun f hf => by
    have h2 := le_upOf (c := 1) (ps := levelsTo p i) hf
    have h3 := frm_pos hv hip f hf
    have h4 : (levelsTo p i).getD f.toNat 0 = lev p f.toNat := progTo_same (by omega) (by omega)
    omega
  constructor
  · rintro ⟨h2, h3⟩
    have hne : lev p i ≠ 0 := fun h0 => h2 ⟨by omega, by simpa using hip, by simpa using h0⟩
    have := lev_nonneg p i
    obtain ⟨f, hf1, hf2, hf3⟩ := lev_down hv hip (by omega)
    have := (h3 _ hf2).2.2
    simp only [Int.toNat_natCast] at this
    show lev p i = 1
    omega
  · intro h2
    have h2' : lev p i = 1 := h2
    refine ⟨fun h3 => by have := h3.2.2; simp only [Int.toNat_natCast] at this; omega, fun f hf => ?_⟩
    have h3 := frm_pos hv hip f hf
    have h4 := hup f hf
    have h5 := lev_nonneg p f.toNat
    exact ⟨h3.1, by omega, by omega⟩

/-! counts -/
/-- A node may be taken out of counts. -/
def doneOk (p : List Nd) (c : List Int) (a : Int) : Bool :=
  planOk p && decide (0 ≤ a ∧ a < (p.length : Int)) && decide (c.length = p.length) && (List.range p.length).all fun i => decide (0 ≤ c.getD i 0 ∧ c.getD i 0 ≤ ((needTo (p.getD i default).frm).length : Int)) && !(decide (a ∈ (p.getD i default).frm) && decide (c.getD i 0 = 0))
/-- The counts behind a node. -/
def doneC (p : List Nd) (c : List Int) (a : Int) : List Int := (List.range p.length).map fun i => c.getD i 0 - (if a ∈ (p.getD i default).frm then 1 else 0)
/-- Who is told. -/
def doneR (p : List Nd) (c : List Int) (a : Int) : List Nat := (List.range p.length).filter fun i => decide (a ∈ (p.getD i default).frm) && decide (c.getD i 0 = 1)
theorem doneC_len (p : List Nd) (c : List Int) (a : Int) : (doneC p c a).length = p.length := by simp [doneC]
theorem doneC_get {p : List Nd} {c : List Int} {a : Int} {i : Nat} (h : i < (doneC p c a).length) : (doneC p c a)[i] = c.getD i 0 - (if a ∈ (p.getD i default).frm then 1 else 0) := by simp [doneC]
theorem doneOk_spec {p : List Nd} {c : List Int} {a : Int} (h : doneOk p c a = true) : planOk p = true ∧ (0 ≤ a ∧ a < (p.length : Int)) ∧ c.length = p.length ∧ ∀ i, i < p.length → (0 ≤ c.getD i 0 ∧ c.getD i 0 ≤ ((needTo (p.getD i default).frm).length : Int)) ∧ (a ∈ (p.getD i default).frm → c.getD i 0 ≠ 0) := by
  simp only [doneOk, Bool.and_eq_true, decide_eq_true_eq, List.all_eq_true, List.mem_range, Bool.not_eq_true', Bool.and_eq_false_iff, decide_eq_false_iff_not] at h
  obtain ⟨⟨⟨h1, h2⟩, h3⟩, h4⟩ := h
  refine ⟨h1, h2, h3, fun i hi => ⟨(h4 i hi).1, fun hm h0 => ?_⟩⟩
  rcases (h4 i hi).2 with h5 | h5
  · exact h5 hm
  · exact h5 h0
theorem doneOk_of {p : List Nd} {c : List Int} {a : Int} (h1 : planOk p = true) (h2 : 0 ≤ a ∧ a < (p.length : Int)) (h3 : c.length = p.length) (h4 : ∀ i, i < p.length → (0 ≤ c.getD i 0 ∧ c.getD i 0 ≤ ((needTo (p.getD i default).frm).length : Int)) ∧ (a ∈ (p.getD i default).frm → c.getD i 0 ≠ 0)) : doneOk p c a = true := by
  simp only [doneOk, Bool.and_eq_true, decide_eq_true_eq, List.all_eq_true, List.mem_range, Bool.not_eq_true', Bool.and_eq_false_iff, decide_eq_false_iff_not]
  refine ⟨⟨⟨h1, h2⟩, h3⟩, fun i hi => ⟨(h4 i hi).1, ?_⟩⟩
  by_cases hm : a ∈ (p.getD i default).frm
  · exact .inr ((h4 i hi).2 hm)
  · exact .inl hm
theorem doneOk_bad {p : List Nd} {c : List Int} {a : Int} (h : ¬ (planOk p = true ∧ (0 ≤ a ∧ a < (p.length : Int)) ∧ c.length = p.length ∧ ∀ i, i < p.length → (0 ≤ c.getD i 0 ∧ c.getD i 0 ≤ ((needTo (p.getD i default).frm).length : Int)) ∧ (a ∈ (p.getD i default).frm → c.getD i 0 ≠ 0))) : doneOk p c a = false := by
  cases hd : doneOk p c a with
  | false => rfl
  | true => exact absurd (doneOk_spec hd) h
/-- Counts when the first nodes are done. -/
def leftK (p : List Nd) (k : Nat) : List Int := (List.range p.length).map fun (u : Nat) => ((needTo (p.getD u default).frm).length : Int) - (cntK p k u : Int)
theorem leftK_len (p : List Nd) (k : Nat) : (leftK p k).length = p.length := by simp [leftK]
theorem leftK_getD {p : List Nd} {k u : Nat} (h : u < p.length) : (leftK p k).getD u 0 = ((needTo (p.getD u default).frm).length : Int) - (cntK p k u : Int) := by
  rw [leftK, List.getD_eq_getElem?_getD, List.getElem?_map, List.getElem?_range h]; rfl
theorem leftK_zero (p : List Nd) : leftK p 0 = (List.range p.length).map fun (u : Nat) => ((needTo (p.getD u default).frm).length : Int) := by
  refine List.map_congr_left fun u _ => ?_
  rw [cntK_zero]; simp
theorem leftK_ok {p : List Nd} (hv : planOk p = true) {k : Nat} (hk : k < p.length) : doneOk p (leftK p k) (k : Int) = true ∧ doneC p (leftK p k) (k : Int) = leftK p (k + 1) ∧ (leftK p k).getD k 0 = 0 := by
  refine ⟨doneOk_of hv ⟨by omega, by omega⟩ (leftK_len _ _) fun i hi => ?_, ?_, ?_⟩
  · rw [leftK_getD hi]
    have h1 := cntK_le p k i
    refine ⟨by omega, fun hm => ?_⟩
    have h2 := (mem_needTo' fun f h => (frm_pos hv hi f h).1).2 hm
    have h3 := cntK_succ (p := p) k i
    rw [if_pos h2] at h3
    have h4 := cntK_le p (k + 1) i
    omega
  · refine List.map_congr_left fun i hi => ?_
    have hi' := List.mem_range.1 hi
    rw [leftK_getD hi', cntK_succ]
    by_cases hm : (k : Int) ∈ (p.getD i default).frm
    · have h2 := (mem_needTo' fun f h => (frm_pos hv hi' f h).1).2 hm
      rw [if_pos hm, if_pos h2]; omega
    · have h2 : k ∉ needTo (p.getD i default).frm := fun h => hm ((mem_needTo' fun f h => (frm_pos hv hi' f h).1).1 h)
      rw [if_neg hm, if_neg h2]; omega
  · rw [leftK_getD hk]
    have : cntK p k k = (needTo (p.getD k default).frm).length := by
      unfold cntK
      rw [List.filter_eq_self.2 fun f hf => ?_]
      have h1 := frm_pos hv hk
      have h2 := (h1 _ ((mem_needTo' fun f h => (h1 f h).1).1 hf)).2
      simp; omega
    omega
theorem leftK_all {p : List Nd} (hv : planOk p = true) : leftK p p.length = List.replicate p.length 0 := by
  refine List.ext_getElem (by simp [leftK]) fun i h1 h2 => ?_
  rw [List.getElem_replicate]
  have := leftK_getD (p := p) (k := p.length) (u := i) (by simpa [leftK] using h1)
  rw [getD_elem h1, cntK_all hv] at this
  omega
end Go.Proofs.Ytmcedghgincaaaa
