/- Walks: all that a node needs. -/
import Derived.Test.YtafljegjdanldaaBj3
import Derived.Test.YtafljegjdanldaaSlO
import Derived.Test.YtafljegjdanldaaSlM
namespace Go.Proofs.Ytafljegjdanldaa
open Go.RowKit

/-- The variable of ten truths. -/
def sbox (g : Nat) (S : Nat → Bool) : Heaplet := [(g, .cells ((List.range 10).map fun u => Value.bool (S u)).toArray 55 (0, 0))]
theorem sbox_get {S : Nat → Bool} {u : Nat} (hu : u < 10) : (((List.range 10).map fun u => Value.bool (S u)).toArray)[0 + u]? = some (.bool (S u)) := by
  rw [Nat.zero_add, List.getElem?_toArray, List.getElem?_map, List.getElem?_range hu]; rfl
theorem sbox_set {S : Nat → Bool} {u : Nat} (b : Bool) : ((List.range 10).map fun u => Value.bool (S u)).toArray.setIfInBounds (0 + u) (.bool b) = ((List.range 10).map fun a => Value.bool (if a = u then b else S a)).toArray := by
  rw [Nat.zero_add, List.setIfInBounds_toArray]
  congr 1
  refine List.ext_getElem (by simp) fun i h1 h2 => ?_
  rw [List.getElem_set, List.getElem_map, List.getElem_map, List.getElem_range]
  by_cases h : u = i
  · rw [if_pos h, if_pos h.symm]
  · rw [if_neg h, if_neg (fun e => h e.symm)]

section
variable {h : GH} {Ls : List Heaplet}

/-- All that a node needs. -/
noncomputable def needsOf (p : List Nd) (a : Int) : List Int := if planOk p = true ∧ 0 ≤ a ∧ a < (p.length : Int) then toI (needsL p a.toNat) else []

end
end Go.Proofs.Ytafljegjdanldaa

/- Plain laws: what is ready; counts behind a node. -/
namespace Go.Proofs.Ytafljegjdanldaa

/-- Who is ready behind some. -/
def readyB (p : List Nd) (D : List Int) (i : Nat) : Bool := decide ((i : Int) ∉ D) && (p.getD i default).frm.all fun f => decide (f ∈ D)
def readyL (p : List Nd) (D : List Int) : List Nat := (List.range p.length).filter (readyB p D)
theorem mem_readyL {p : List Nd} {D : List Int} {i : Nat} : i ∈ readyL p D ↔ i < p.length ∧ (i : Int) ∉ D ∧ ∀ f ∈ (p.getD i default).frm, f ∈ D := by
  simp [readyL, readyB]
theorem readyL_len (p : List Nd) (D : List Int) : (readyL p D).length ≤ p.length := by
  have := List.length_filter_le (readyB p D) (List.range p.length)
  simpa [readyL] using this
theorem readyL_nodup (p : List Nd) (D : List Int) : (readyL p D).Nodup := List.nodup_range.filter _
theorem readyL_congr {p : List Nd} {D E : List Int} (hv : planOk p = true) (h : ∀ i : Nat, i < p.length → ((i : Int) ∈ D ↔ (i : Int) ∈ E)) : readyL p D = readyL p E := by
  refine List.filter_congr fun i hi => ?_
  have hip := List.mem_range.1 hi
  unfold readyB
  have h1 : decide ((i : Int) ∉ D) = decide ((i : Int) ∉ E) := decide_eq_decide.2 (not_congr (h i hip))
  rw [h1]
  congr 1
  rw [Bool.eq_iff_iff, List.all_eq_true, List.all_eq_true]
  refine forall_congr' fun f => forall_congr' fun hf => ?_
  have := frm_pos hv hip f hf
  have h2 := h f.toNat (by omega)
  rw [show (f.toNat : Int) = f by omega] at h2
  simp only [decide_eq_true_eq, h2]

theorem toI_inj {a b : List Nat} (h : (a.map fun (j : Nat) => (j : Int)) = b.map fun (j : Nat) => (j : Int)) : a = b := by
  have := congrArg (List.map Int.toNat) h
  simpa [List.map_map, Function.comp_def] using this
/-- The first level is what is ready at first. -/
theorem ready_first {p : List Nd} (_hv : planOk p = true) : readyL p [] = levRow p 0 := by
  refine List.filter_congr fun i hi => ?_
  have hip := List.mem_range.1 hi
  have h1 : lev p i = upOf 1 (levelsTo p i) (p.getD i default).frm := levelsTo_getD hip
  unfold readyB
  rw [Bool.eq_iff_iff]
  simp only [List.not_mem_nil, not_false_eq_true, decide_true, Bool.true_and, List.all_eq_true, decide_eq_true_eq, decide_false, Bool.false_eq_true]
  constructor
  · intro h
    have : (p.getD i default).frm = [] := List.eq_nil_iff_forall_not_mem.2 fun f hf => h f hf
    rw [h1, this]; rfl
  · intro h f hf
    have h2 := le_upOf (c := 1) (ps := levelsTo p i) hf
    have h3 : 0 ≤ (levelsTo p i).getD f.toNat 0 := levelsTo_getD_nonneg p i f.toNat
    rw [h1] at h
    have : upOf 1 (levelsTo p i) (p.getD i default).frm = 0 := h
    omega
/-- Behind it the second one is ready. -/
theorem ready_second {p : List Nd} (hv : planOk p = true) : readyL p ((levRow p 0).map fun (j : Nat) => (j : Int)) = levRow p 1 := by
  refine List.filter_congr fun i hi => ?_
  have hip := List.mem_range.1 hi
  have h1 : lev p i = upOf 1 (levelsTo p i) (p.getD i default).frm := levelsTo_getD hip
  have hmem : ∀ f : Int, f ∈ ((levRow p 0).map fun (j : Nat) => (j : Int)) ↔ 0 ≤ f ∧ f.toNat < p.length ∧ lev p f.toNat = 0 := fun f => by
    simp only [List.mem_map]
    constructor
    · rintro ⟨j, hj, rfl⟩
      have := mem_levRow.1 hj
      refine ⟨by omega, by simpa using this.1, by simpa using this.2⟩
    · rintro ⟨h2, h3, h4⟩
      exact ⟨f.toNat, mem_levRow.2 ⟨h3, by simpa using h4⟩, by omega⟩
  unfold readyB
  rw [Bool.eq_iff_iff]
  simp only [Bool.and_eq_true, List.all_eq_true, decide_eq_true_eq, hmem]
  have hup : ∀ f ∈ (p.getD i default).frm, lev p f.toNat + 1 ≤ lev p i := fun f hf => by
    have h2 := le_upOf (c := 1) (ps := levelsTo p i) hf
    have h3 := frm_pos hv hip f hf
    have h4 : (levelsTo p i).getD f.toNat 0 = lev p f.toNat := progTo_same (by omega) (by omega)
    omega
  constructor
  · rintro ⟨h2, h3⟩
    have hne : lev p i ≠ 0 := fun h0 => h2 ⟨by omega, by simpa using hip, by simpa using h0⟩
    have := lev_nonneg p i
    obtain ⟨f, hf1, hf2, hf3⟩ := lev_down hv hip (by omega)
    have := (h3 _ hf2).2.2
    simp only [Int.toNat_natCast] at this
    show lev p i = 1
    omega
  · intro h2
    have h2' : lev p i = 1 := h2
    refine ⟨fun h3 => by have := h3.2.2; simp only [Int.toNat_natCast] at this; omega, fun f hf => ?_⟩
    have h3 := frm_pos hv hip f hf
    have h4 := hup f hf
    have h5 := lev_nonneg p f.toNat
    exact ⟨h3.1, by omega, by omega⟩

/-! counts -/
/-- A node may be taken out of counts. -/
def doneOk (p : List Nd) (c : List Int) (a : Int) : Bool :=
  planOk p && decide (0 ≤ a ∧ a < (p.length : Int)) && decide (c.length = p.length) && (List.range p.length).all fun i => decide (0 ≤ c.getD i 0 ∧ c.getD i 0 ≤ ((needTo (p.getD i default).frm).length : Int)) && !(decide (a ∈ (p.getD i default).frm) && decide (c.getD i 0 = 0))
/-- The counts behind a node. -/
def doneC (p : List Nd) (c : List Int) (a : Int) : List Int := (List.range p.length).map fun i => c.getD i 0 - (if a ∈ (p.getD i default).frm then 1 else 0)
/-- Who is told. -/
def doneR (p : List Nd) (c : List Int) (a : Int) : List Nat := (List.range p.length).filter fun i => decide (a ∈ (p.getD i default).frm) && decide (c.getD i 0 = 1)
theorem doneC_len (p : List Nd) (c : List Int) (a : Int) : (doneC p c a).length = p.length := by simp [doneC]
theorem doneC_get {p : List Nd} {c : List Int} {a : Int} {i : Nat} (h : i < (doneC p c a).length) : (doneC p c a)[i] = c.getD i 0 - (if a ∈ (p.getD i default).frm then 1 else 0) := by simp [doneC]
theorem doneOk_spec {p : List Nd} {c : List Int} {a : Int} (h : doneOk p c a = true) : planOk p = true ∧ (0 ≤ a ∧ a < (p.length : Int)) ∧ c.length = p.length ∧ ∀ i, i < p.length → (0 ≤ c.getD i 0 ∧ c.getD i 0 ≤ ((needTo (p.getD i default).frm).length : Int)) ∧ (a ∈ (p.getD i default).frm → c.getD i 0 ≠ 0) := by
  simp only [doneOk, Bool.and_eq_true, decide_eq_true_eq, List.all_eq_true, List.mem_range, Bool.not_eq_true', Bool.and_eq_false_iff, decide_eq_false_iff_not] at h
  obtain ⟨⟨⟨h1, h2⟩, h3⟩, h4⟩ := h
  refine ⟨h1, h2, h3, fun i hi => ⟨(h4 i hi).1, fun hm h0 => ?_⟩⟩
  rcases (h4 i hi).2 with h5 | h5
  · exact h5 hm
  · exact h5 h0
theorem doneOk_of {p : List Nd} {c : List Int} {a : Int} (h1 : planOk p = true) (h2 : 0 ≤ a ∧ a < (p.length : Int)) (h3 : c.length = p.length) (h4 : ∀ i, i < p.length → (0 ≤ c.getD i 0 ∧ c.getD i 0 ≤ ((needTo (p.getD i default).frm).length : Int)) ∧ (a ∈ (p.getD i default).frm → c.getD i 0 ≠ 0)) : doneOk p c a = true := by
  simp only [doneOk, Bool.and_eq_true, decide_eq_true_eq, List.all_eq_true, List.mem_range, Bool.not_eq_true', Bool.and_eq_false_iff, decide_eq_false_iff_not]
  refine ⟨⟨⟨h1, h2⟩, h3⟩, fun i hi => ⟨(h4 i hi).1, ?_⟩⟩
  by_cases hm : a ∈ (p.getD i default).frm
  · exact .inr ((h4 i hi).2 hm)
  · exact .inl hm
theorem doneOk_bad {p : List Nd} {c : List Int} {a : Int} (h : ¬ (planOk p = true ∧ (0 ≤ a ∧ a < (p.length : Int)) ∧ c.length = p.length ∧ ∀ i, i < p.length → (0 ≤ c.getD i 0 ∧ c.getD i 0 ≤ ((needTo (p.getD i default).frm).length : Int)) ∧ (a ∈ (p.getD i default).frm → c.getD i 0 ≠ 0))) : doneOk p c a = false := by
  cases hd : doneOk p c a with
  | false => rfl
  | true => exact absurd (doneOk_spec hd) h
/-- Counts when the first nodes are done. -/
def leftK (p : List Nd) (k : Nat) : List Int := (List.range p.length).map fun (u : Nat) => ((needTo (p.getD u default).frm).length : Int) - (cntK p k u : Int)
theorem leftK_len (p : List Nd) (k : Nat) : (leftK p k).length = p.length := by simp [leftK]
theorem leftK_getD {p : List Nd} {k u : Nat} (h : u < p.length) : (leftK p k).getD u 0 = ((needTo (p.getD u default).frm).length : Int) - (cntK p k u : Int) := by
  rw [leftK, List.getD_eq_getElem?_getD, List.getElem?_map, List.getElem?_range h]; rfl
theorem leftK_zero (p : List Nd) : leftK p 0 = (List.range p.length).map fun (u : Nat) => ((needTo (p.getD u default).frm).length : Int) := by
  refine List.map_congr_left fun u _ => ?_
  rw [cntK_zero]; simp
theorem leftK_ok {p : List Nd} (hv : planOk p = true) {k : Nat} (hk : k < p.length) : doneOk p (leftK p k) (k : Int) = true ∧ doneC p (leftK p k) (k : Int) = leftK p (k + 1) ∧ (leftK p k).getD k 0 = 0 := by
  refine ⟨doneOk_of hv ⟨by omega, by omega⟩ (leftK_len _ _) fun i hi => ?_, ?_, ?_⟩
  · rw [leftK_getD hi]
    have h1 := cntK_le p k i
    refine ⟨by omega, fun hm => ?_⟩
    have h2 := (mem_needTo' fun f h => (frm_pos hv hi f h).1).2 hm
    have h3 := cntK_succ (p := p) k i
    rw [if_pos h2] at h3
    have h4 := cntK_le p (k + 1) i
    omega
  · refine List.map_congr_left fun i hi => ?_
    have hi' := List.mem_range.1 hi
    rw [leftK_getD hi', cntK_succ]
    by_cases hm : (k : Int) ∈ (p.getD i default).frm
    · have h2 := (mem_needTo' fun f h => (frm_pos hv hi' f h).1).2 hm
      rw [if_pos hm, if_pos h2]; omega
    · have h2 : k ∉ needTo (p.getD i default).frm := fun h => hm ((mem_needTo' fun f h => (frm_pos hv hi' f h).1).1 h)
      rw [if_neg hm, if_neg h2]; omega
  · rw [leftK_getD hk]
    have : cntK p k k = (needTo (p.getD k default).frm).length := by
      unfold cntK
      rw [List.filter_eq_self.2 fun f hf => ?_]
      have h1 := frm_pos hv hk
      have h2 := (h1 _ ((mem_needTo' fun f h => (h1 f h).1).1 hf)).2
      simp; omega
    omega
theorem leftK_all {p : List Nd} (hv : planOk p = true) : leftK p p.length = List.replicate p.length 0 := by
  refine List.ext_getElem (by simp [leftK]) fun i h1 h2 => ?_
  rw [List.getElem_replicate]
  have := leftK_getD (p := p) (k := p.length) (u := i) (by simpa [leftK] using h1)
  rw [getD_elem h1, cntK_all hv] at this
  omega
end Go.Proofs.Ytafljegjdanldaa

/- Walks: what is ready behind some. -/
namespace Go.Proofs.Ytafljegjdanldaa
open Go.RowKit

def readyOf (p : List Nd) (D : List Int) : List Int := if planOk p = true then toI (readyL p D) else []

section
variable {h : GH} {Ls : List Heaplet} {w : World}

theorem l3HasR_ok (hH : H w h Ls) {av : Value} {xs : List Int} (hA : RdL h Ls av xs) (n : Int) : Rets Try.prog 62 #[av, .int .i64 n] w fun v w' => v = .bool (decide (n ∈ xs)) ∧ H w' h Ls := by
  have hal := hA.sl.lim
  refine rets_enter Try.func62 rfl Try.ntmps62 (by simp) ?_
  refine WT_seq ?_
  refine WT_region ?_
  refine WL_v rfl (ov_assign rfl) ?_
  refine WL_nil ?_
  refine WT_seq ?_
  refine WT_seq ?_
  refine WT_region ?_
  refine WL_v rfl (ov_assign rfl) ?_
  refine WL_nil ?_
  refine WT_block ?_
  refine WT_while (fun s : Nat => [(0, av), (1, .int .i64 n), (5, .int .i64 (s : Int))]) (fun k w => k ≤ xs.length ∧ (∀ j (_ : j < k) (h1 : j < xs.length), xs[j] ≠ n) ∧ H w h Ls) (fun k => xs.length - k) 0 (by repeat (first | exact trivial | refine ⟨rfl, ?_⟩)) ⟨by omega, by omega, hH⟩ ?_
  clear hH
  rintro k w2 ⟨hk, hall, hH1⟩ again
  refine WT_seq ?_
  refine WT_seq ?_
  refine WT_region ?_
  refine WL_v rfl (ov_move rfl) ?_
  refine WL_v rfl (ov_move rfl) ?_
  refine WL_v rfl (ov_len rfl hA.sl st_sl_int) ?_
  refine WL_v rfl (ov_lss rfl rfl) ?_
  refine WL_nil ?_
  refine WT_cond rfl (fun hc => ?_) (fun hc => ?_)
  · skip
    first | with_reducible replace hc := of_decide_eq_true hc | with_reducible replace hc := bn_T hc | with_reducible replace hc := bb_T hc | skip
    have hkx : k < xs.length := by omega
    refine WT_skip ?_
    refine WT_seq ?_
    refine WT_block ?_
    refine WT_seq ?_
    refine WT_region ?_
    refine WL_v rfl (ov_move rfl) ?_
    refine WL_v rfl (ov_move rfl) ?_
    refine WL_v rfl (ov_index rfl rfl st_sl_int hA.sl hkx) ?_
    refine WL_v rfl (ov_load rfl one_int (hA.cell hH1 hkx)) ?_
    refine WL_v rfl (ov_move rfl) ?_
    refine WL_v rfl (ov_eql rfl rfl) ?_
    refine WL_nil ?_
    refine WT_cond rfl (fun heq => ?_) (fun heq => ?_)
    · skip
      first | with_reducible replace heq := of_decide_eq_true heq | with_reducible replace heq := bn_T heq | with_reducible replace heq := bb_T heq | skip
      refine WT_seq ?_
      refine WT_region ?_
      refine WL_v rfl (ov_assign rfl) ?_
      refine WL_nil ?_
      exact WT_ret1 Try.func62 Try.results62 rfl ⟨congrArg Value.bool (decide_eq_true (heq ▸ List.getElem_mem hkx)).symm, hH1⟩
    first | with_reducible replace heq := of_decide_eq_false heq | with_reducible replace heq := bn_F heq | with_reducible replace heq := bb_F heq | skip
    refine WT_skip ?_
    refine WT_inBlock ?_
    refine WT_region ?_
    refine WL_v rfl (ov_move rfl) ?_
    refine WL_v rfl (ov_add rfl rfl (by omega)) ?_
    refine WL_v rfl (ov_assign rfl) ?_
    refine WL_nil ?_
    refine again (k + 1) _ _ (by omega) (by repeat (first | exact trivial | refine ⟨rfl, ?_⟩)) ⟨by omega, fun j hj h1 => ?_, hH1⟩
    rcases Nat.lt_or_ge j k with h3 | h3
    · exact hall j h3 h1
    · obtain rfl : j = k := by omega
      exact heq
  first | with_reducible replace hc := of_decide_eq_false hc | with_reducible replace hc := bn_F hc | with_reducible replace hc := bb_F hc | skip
  obtain rfl : k = xs.length := by omega
  refine WT_exit rfl ?_
  refine WT_seq ?_
  refine WT_region ?_
  refine WL_v rfl (ov_assign rfl) ?_
  refine WL_nil ?_
  exact WT_ret1 Try.func62 Try.results62 rfl ⟨congrArg Value.bool (decide_eq_false fun hm => by obtain ⟨j, hj, he⟩ := List.mem_iff_getElem.1 hm; exact hall j hj hj he).symm, hH1⟩

theorem l5All_ok (hH : H w h Ls) {av bv : Value} {xs ys : List Int} (hA : RdL h Ls av xs) (hB : RdL h Ls bv ys) : Rets Try.prog 111 #[av, bv] w fun v w' => v = .bool (ys.all fun f => decide (f ∈ xs)) ∧ H w' h Ls := by
  have hbl := hB.sl.lim
  refine rets_enter Try.func111 rfl Try.ntmps111 (by simp) ?_
  refine WT_seq ?_
  refine WT_region ?_
  refine WL_v rfl (ov_assign rfl) ?_
  refine WL_nil ?_
  refine WT_seq ?_
  refine WT_seq ?_
  refine WT_region ?_
  refine WL_v rfl (ov_assign rfl) ?_
  refine WL_nil ?_
  refine WT_block ?_
  refine WT_while (fun s : Nat => [(0, av), (1, bv), (5, .int .i64 (s : Int))]) (fun k w => k ≤ ys.length ∧ (∀ j (_ : j < k) (h1 : j < ys.length), ys[j] ∈ xs) ∧ H w h Ls) (fun k => ys.length - k) 0 (by repeat (first | exact trivial | refine ⟨rfl, ?_⟩)) ⟨by omega, by omega, hH⟩ ?_
  clear hH
  rintro k w2 ⟨hk, hall, hH1⟩ again
  refine WT_seq ?_
  refine WT_seq ?_
  refine WT_region ?_
  refine WL_v rfl (ov_move rfl) ?_
  refine WL_v rfl (ov_move rfl) ?_
  refine WL_v rfl (ov_len rfl hB.sl st_sl_int) ?_
  refine WL_v rfl (ov_lss rfl rfl) ?_
  refine WL_nil ?_
  refine WT_cond rfl (fun hc => ?_) (fun hc => ?_)
  · skip
    first | with_reducible replace hc := of_decide_eq_true hc | with_reducible replace hc := bn_T hc | with_reducible replace hc := bb_T hc | skip
    have hky : k < ys.length := by omega
    refine WT_skip ?_
    refine WT_seq ?_
    refine WT_block ?_
    refine WT_seq ?_
    refine WT_region ?_
    refine WL_v rfl (ov_move rfl) ?_
    refine WL_v rfl (ov_move rfl) ?_
    refine WL_v rfl (ov_move rfl) ?_
    refine WL_v rfl (ov_index rfl rfl st_sl_int hB.sl hky) ?_
    refine WL_v rfl (ov_load rfl one_int (hB.cell hH1 hky)) ?_
    refine WL_call rfl rfl cf_spec_l3Has (l3HasR_ok hH1 hA _) ?_; rintro _ w3 ⟨rfl, hH3⟩
    refine WL_v rfl (ov_not rfl) ?_
    refine WL_nil ?_
    refine WT_cond rfl (fun hin => ?_) (fun hin => ?_)
    · skip
      first | with_reducible replace hin := of_decide_eq_true hin | with_reducible replace hin := bn_T hin | with_reducible replace hin := bb_T hin | skip
      have hin' : ys[k] ∉ xs := by simpa using hin
      refine WT_seq ?_
      refine WT_region ?_
      refine WL_v rfl (ov_assign rfl) ?_
      refine WL_nil ?_
      exact WT_ret1 Try.func111 Try.results111 rfl ⟨congrArg Value.bool (List.all_eq_false.2 ⟨_, List.getElem_mem hky, by simpa using hin'⟩).symm, hH3⟩
    first | with_reducible replace hin := of_decide_eq_false hin | with_reducible replace hin := bn_F hin | with_reducible replace hin := bb_F hin | skip
    have hin' : ys[k] ∈ xs := by simpa using hin
    refine WT_skip ?_
    refine WT_inBlock ?_
    refine WT_region ?_
    refine WL_v rfl (ov_move rfl) ?_
    refine WL_v rfl (ov_add rfl rfl (by omega)) ?_
    refine WL_v rfl (ov_assign rfl) ?_
    refine WL_nil ?_
    refine again (k + 1) _ _ (by omega) (by repeat (first | exact trivial | refine ⟨rfl, ?_⟩)) ⟨by omega, fun j hj h1 => ?_, hH3⟩
    rcases Nat.lt_or_ge j k with h3 | h3
    · exact hall j h3 h1
    · obtain rfl : j = k := by omega
      exact hin'
  first | with_reducible replace hc := of_decide_eq_false hc | with_reducible replace hc := bn_F hc | with_reducible replace hc := bb_F hc | skip
  obtain rfl : k = ys.length := by omega
  refine WT_exit rfl ?_
  refine WT_seq ?_
  refine WT_region ?_
  refine WL_v rfl (ov_assign rfl) ?_
  refine WL_nil ?_
  exact WT_ret1 Try.func111 Try.results111 rfl ⟨congrArg Value.bool (List.all_eq_true.2 fun x hx => by obtain ⟨j, hj, rfl⟩ := List.mem_iff_getElem.1 hx; exact decide_eq_true (hall j hj hj)).symm, hH1⟩

theorem allIn_ok (hH : H w h Ls) {av : Value} {xs : List Int} {i s : Nat} {S : Nat → Bool} (hA : RdL h Ls av xs) (hi : Ls[i]? = some (sbox s S)) (hr : ∀ x ∈ xs, 0 ≤ x ∧ x < 10) : Rets Try.prog 108 #[av, ptr s] w fun v w' => v = .bool (xs.all fun f => S f.toNat) ∧ H w' h Ls := by
  have hal := hA.sl.lim
  refine rets_enter Try.func108 rfl Try.ntmps108 (by simp) ?_
  refine WT_seq ?_
  refine WT_region ?_
  refine WL_v rfl (ov_assign rfl) ?_
  refine WL_nil ?_
  refine WT_seq ?_
  refine WT_seq ?_
  refine WT_region ?_
  refine WL_v rfl (ov_move rfl) ?_
  refine WL_v rfl (ov_len rfl hA.sl st_sl_int) ?_
  refine WL_v rfl (ov_move rfl) ?_
  refine WL_nil ?_
  refine WT_block ?_
  refine WT_while (fun k : Nat => [(1, ptr s), (7, av), (8, .int .i64 (xs.length : Int)), (9, .int .i64 (k : Int))]) (fun k w => k ≤ xs.length ∧ (∀ j (_ : j < k) (h1 : j < xs.length), S xs[j].toNat = true) ∧ H w h Ls) (fun k => xs.length - k) 0 (by repeat (first | exact trivial | refine ⟨rfl, ?_⟩)) ⟨by omega, by omega, hH⟩ ?_
  clear hH
  rintro k w2 ⟨hk, hall, hH⟩ again
  refine WT_seq ?_
  refine WT_region ?_
  refine WL_v rfl (ov_lss rfl rfl) ?_
  refine WL_nil ?_
  refine WT_seq ?_
  refine WT_cond rfl (fun hc => ?_) (fun hc => ?_)
  · skip
    first | with_reducible replace hc := of_decide_eq_true hc | with_reducible replace hc := bn_T hc | with_reducible replace hc := bb_T hc | skip
    have hkx : k < xs.length := by omega
    have hx := hr _ (List.getElem_mem hkx)
    obtain ⟨u, hu⟩ := Int.eq_ofNat_of_zero_le hx.1
    have hcell : ∀ {w}, H w h Ls → w.cell? ((⟨s, 0, none⟩ : Addr).add (u * 1)) = some (.bool (S u)) := fun {w} hH => by
      rw [hH.cbA i hi 0 u, sbox_get (by omega)]
    refine WT_skip ?_
    refine WT_seq ?_
    refine WT_block ?_
    refine WT_seq ?_
    refine WT_region ?_
    refine WL_v rfl (ov_index rfl rfl st_sl_int hA.sl hkx) ?_
    refine WL_v rfl (ov_load rfl one_int (hA.cell hH hkx)) ?_; rw [hu]
    refine WL_v rfl (ov_assign rfl) ?_
    refine WL_nil ?_
    refine WT_seq ?_
    refine WT_region ?_
    refine WL_v rfl (ov_move rfl) ?_
    refine WL_v rfl (ov_move rfl) ?_
    refine WL_v rfl (ov_nilCheck rfl) ?_
    refine WL_v rfl (ov_idxA rfl rfl arr_10bool (by omega)) ?_
    refine WL_v rfl (ov_load rfl one_bool (hcell hH)) ?_
    refine WL_v rfl (ov_not rfl) ?_
    refine WL_nil ?_
    refine WT_cond rfl (fun hs => ?_) (fun hs => ?_)
    · skip
      first | with_reducible replace hs := of_decide_eq_true hs | with_reducible replace hs := bn_T hs | with_reducible replace hs := bb_T hs | skip
      have hs' : S u = false := by simpa using hs
      refine WT_seq ?_
      refine WT_region ?_
      refine WL_v rfl (ov_assign rfl) ?_
      refine WL_nil ?_
      exact WT_ret1 Try.func108 Try.results108 rfl ⟨congrArg Value.bool (List.all_eq_false.2 ⟨_, List.getElem_mem hkx, by rw [hu, Int.toNat_natCast, hs']; simp⟩).symm, hH⟩
    first | with_reducible replace hs := of_decide_eq_false hs | with_reducible replace hs := bn_F hs | with_reducible replace hs := bb_F hs | skip
    have hs' : S u = true := by simpa using hs
    refine WT_skip ?_
    refine WT_inBlock ?_
    refine WT_region ?_
    refine WL_v rfl (ov_add rfl rfl (by omega)) ?_
    refine WL_v rfl (ov_move rfl) ?_
    refine WL_nil ?_
    refine again (k + 1) _ _ (by omega) (by repeat (first | exact trivial | refine ⟨rfl, ?_⟩)) ⟨by omega, fun j hj h1 => ?_, hH⟩
    rcases Nat.lt_or_ge j k with h3 | h3
    · exact hall j h3 h1
    · obtain rfl : j = k := by omega
      rw [hu, Int.toNat_natCast]; exact hs'
  first | with_reducible replace hc := of_decide_eq_false hc | with_reducible replace hc := bn_F hc | with_reducible replace hc := bb_F hc | skip
  obtain rfl : k = xs.length := by omega
  refine WT_exit rfl ?_
  refine WT_seq ?_
  refine WT_region ?_
  refine WL_v rfl (ov_assign rfl) ?_
  refine WL_nil ?_
  exact WT_ret1 Try.func108 Try.results108 rfl ⟨congrArg Value.bool (List.all_eq_true.2 fun x hx => by obtain ⟨j, hj, rfl⟩ := List.mem_iff_getElem.1 hx; exact hall j hj hj).symm, hH⟩

theorem sbox_zero (s : Nat) : sbox s (fun _ => false) = [(s, .cells #[.bool false, .bool false, .bool false, .bool false, .bool false, .bool false, .bool false, .bool false, .bool false, .bool false] 55 (0, 0))] := rfl

theorem readyOf_ok (hH : H w h Ls) {pv dv : Value} {p : List Nd} {D : List Int} (hP : Plan h pv p) (hD : RdL h Ls dv D) (hdl : D.length ≤ 1000000000) : Rets Try.prog 78 #[pv, dv] w fun v w' => ∃ X, IRow X 3 v (readyOf p D) ∧ H w' h (X :: Ls) := by
  refine rets_enter Try.func78 rfl Try.ntmps78 (by simp) ?_
  refine WT_seq ?_
  refine WT_region ?_
  refine WL_v rfl (ov_assign rfl) ?_
  refine WL_nil ?_
  refine WT_seq ?_
  refine WT_seq ?_
  refine WT_region ?_
  refine WL_v rfl (ov_move rfl) ?_
  refine WL_call rfl rfl cf_impl_PlanValid (planValid_ok hH hP) ?_; rintro _ w1 ⟨rfl, hH1⟩
  refine WL_v rfl (ov_not rfl) ?_
  refine WL_nil ?_
  refine WT_cond rfl (fun hv => ?_) (fun hv => ?_)
  · skip
    first | with_reducible replace hv := of_decide_eq_true hv | with_reducible replace hv := bn_T hv | with_reducible replace hv := bb_T hv | skip
    refine WT_seq ?_
    refine WT_region ?_
    refine WL_v rfl (ov_assign rfl) ?_
    refine WL_nil ?_
    exact WT_ret1 Try.func78 Try.results78 rfl ⟨[], by unfold readyOf; rw [hv]; exact IRow.nil _, hH1.nilIn⟩
  first | with_reducible replace hv := of_decide_eq_false hv | with_reducible replace hv := bn_F hv | with_reducible replace hv := bb_F hv | skip
  have hlen := PlanOk.len hv
  have hDc : ∀ {w X}, H w h (X :: Ls) → ∀ {j} (hj : j < D.length), w.cell? ((slA dv).add (j * 1)) = some (.int .i64 D[j]) := fun hH _ hj => hD.cell hH.drop hj
  refine WT_skip ?_
  refine WT_seq ?_
  refine WT_region ?_
  refine WL_alloc #[.bool false, .bool false, .bool false, .bool false, .bool false, .bool false, .bool false, .bool false, .bool false, .bool false] rfl hH1 zero_10bool rfl ?_; rintro s w2 hH2
  refine WL_nil ?_
  refine WT_seq ?_
  refine WT_seq ?_
  refine WT_region ?_
  refine WL_v rfl (ov_move rfl) ?_
  refine WL_v rfl (ov_len rfl hD.sl st_sl_int) ?_
  refine WL_v rfl (ov_move rfl) ?_
  refine WL_nil ?_
  refine WT_block ?_
  rw [← sbox_zero] at hH2
  refine WT_while (fun k : Nat => [(0, pv), (5, ptr s), (14, dv), (15, .int .i64 (D.length : Int)), (16, .int .i64 (k : Int))]) (fun k w => k ≤ D.length ∧ ∃ S : Nat → Bool, (∀ u, S u = true ↔ u < p.length ∧ (u : Int) ∈ D.take k) ∧ H w h (sbox s S :: Ls)) (fun k => D.length - k) 0 (by repeat (first | exact trivial | refine ⟨rfl, ?_⟩)) ⟨by omega, _, by simp, hH2⟩ ?_
  clear hH hH1 hH2
  rintro k w3 ⟨hk, S, hS, hH⟩ again
  refine WT_seq ?_
  refine WT_region ?_
  refine WL_v rfl (ov_lss rfl rfl) ?_
  refine WL_nil ?_
  refine WT_seq ?_
  refine WT_cond rfl (fun hc => ?_) (fun hc => ?_)
  · skip
    first | with_reducible replace hc := of_decide_eq_true hc | with_reducible replace hc := bn_T hc | with_reducible replace hc := bb_T hc | skip
    have hkd : k < D.length := by omega
    refine WT_skip ?_
    refine WT_seq ?_
    refine WT_block ?_
    refine WT_seq ?_
    refine WT_region ?_
    refine WL_v rfl (ov_index rfl rfl st_sl_int hD.sl hkd) ?_
    refine WL_v rfl (ov_load rfl one_int (hDc hH hkd)) ?_
    refine WL_v rfl (ov_assign rfl) ?_
    refine WL_nil ?_
    refine WT_seq ?_
    refine WT_region ?_
    refine WL_v rfl (ov_move rfl) ?_
    refine WL_v rfl (ov_move rfl) ?_
    refine WL_call rfl rfl cf_impl_isNode (isNode_ok hH hP.sl _) ?_; rintro _ w4 ⟨rfl, hH4⟩
    refine WL_nil ?_
    refine WT_cond rfl (fun hn => ?_) (fun hn => ?_)
    · skip
      first | with_reducible replace hn := of_decide_eq_true hn | with_reducible replace hn := bn_T hn | with_reducible replace hn := bb_T hn | skip
      obtain ⟨u, hu⟩ := Int.eq_ofNat_of_zero_le hn.1
      rw [hu]
      refine WT_region ?_
      refine WL_v rfl (ov_move rfl) ?_
      refine WL_v rfl (ov_idxA rfl rfl arr_10bool (by omega)) ?_
      refine WL_store hH4 rfl rfl (i := 0) (off := 0 + u) rfl (addA s 0 u) (by simp; omega) rfl sz_bool ?_; rintro w5 hH5
      refine WL_nil ?_
      refine WT_inBlock ?_
      refine WT_region ?_
      refine WL_v rfl (ov_add rfl rfl (by omega)) ?_
      refine WL_v rfl (ov_move rfl) ?_
      refine WL_nil ?_
      rw [sbox_set] at hH5
      refine again (k + 1) _ _ (by omega) (by repeat (first | exact trivial | refine ⟨rfl, ?_⟩)) ⟨by omega, _, fun a => ?_, hH5⟩
      rw [List.take_succ_eq_append_getElem hkd, hu, List.mem_append, List.mem_singleton]
      by_cases ha : a = u
      · subst ha
        simp; omega
      · rw [if_neg ha, hS]
        constructor
        · rintro ⟨h1, h2⟩; exact ⟨h1, .inl h2⟩
        · rintro ⟨h1, h2 | h2⟩
          · exact ⟨h1, h2⟩
          · omega
    first | with_reducible replace hn := of_decide_eq_false hn | with_reducible replace hn := bn_F hn | with_reducible replace hn := bb_F hn | skip
    refine WT_skip ?_
    refine WT_inBlock ?_
    refine WT_region ?_
    refine WL_v rfl (ov_add rfl rfl (by omega)) ?_
    refine WL_v rfl (ov_move rfl) ?_
    refine WL_nil ?_
    refine again (k + 1) _ _ (by omega) (by repeat (first | exact trivial | refine ⟨rfl, ?_⟩)) ⟨by omega, S, fun a => ?_, hH4⟩
    rw [List.take_succ_eq_append_getElem hkd, List.mem_append, List.mem_singleton, hS]
    constructor
    · rintro ⟨h1, h2⟩; exact ⟨h1, .inl h2⟩
    · rintro ⟨h1, h2 | h2⟩
      · exact ⟨h1, h2⟩
      · exact absurd ⟨by omega, by omega⟩ hn
  first | with_reducible replace hc := of_decide_eq_false hc | with_reducible replace hc := bn_F hc | with_reducible replace hc := bb_F hc | skip
  obtain rfl : k = D.length := by omega
  rw [List.take_length] at hS
  refine WT_exit rfl ?_
  refine WT_seq ?_
  refine WT_region ?_
  refine WL_v rfl (ov_assign rfl) ?_
  refine WL_nil ?_
  refine WT_seq ?_
  refine WT_seq ?_
  refine WT_region ?_
  refine WL_v rfl (ov_move rfl) ?_
  refine WL_v rfl (ov_len rfl hP.sl st_sl_impl_Node) ?_
  refine WL_v rfl (ov_move rfl) ?_
  refine WL_nil ?_
  refine WT_block ?_
  refine WT_while (fun k : Nat × Value => [(5, ptr s), (8, k.2), (26, pv), (27, .int .i64 (p.length : Int)), (28, .int .i64 (k.1 : Int))]) (fun k w => k.1 ≤ p.length ∧ ∃ X, IRow X 3 k.2 (toI ((List.range k.1).filter (readyB p D))) ∧ H w h (X :: sbox s S :: Ls)) (fun k => p.length - k.1) (0, .slice none 0 0) (by repeat (first | exact trivial | refine ⟨rfl, ?_⟩)) ⟨by omega, [], IRow.nil _, hH.nilIn⟩ ?_
  clear hH
  rintro ⟨k, sv⟩ w4 ⟨hk, X, hX, hH⟩ again
  simp only at hk hX
  have hfl := List.length_filter_le (readyB p D) (List.range k)
  rw [List.length_range] at hfl
  refine WT_seq ?_
  refine WT_region ?_
  refine WL_v rfl (ov_lss rfl rfl) ?_
  refine WL_nil ?_
  refine WT_seq ?_
  refine WT_cond rfl (fun hc => ?_) (fun hc => ?_)
  · skip
    first | with_reducible replace hc := of_decide_eq_true hc | with_reducible replace hc := bn_T hc | with_reducible replace hc := bb_T hc | skip
    simp only at hc
    have hkp : k < p.length := by omega
    obtain ⟨fv, rv, hf, hr, hcell⟩ := hP.node hkp
    have hN := PlanOk.node hv hkp
    have hfr : ∀ x ∈ p[k].frm, 0 ≤ x ∧ x < 10 := fun x hx => by have := hN.frm x hx; omega
    have hall : (p[k].frm.all fun f => S f.toNat) = (p.getD k default).frm.all fun f => decide (f ∈ D) := by
      rw [getD_of hkp, Bool.eq_iff_iff, List.all_eq_true, List.all_eq_true]
      refine forall_congr' fun f => forall_congr' fun hf => ?_
      have := hN.frm f hf
      rw [hS, show (f.toNat : Int) = f by omega]
      simp only [decide_eq_true_eq]
      exact ⟨fun h => h.2, fun h => ⟨by omega, h⟩⟩
    have hSk : S k = decide ((k : Int) ∈ D) := by
      rw [Bool.eq_iff_iff, hS, decide_eq_true_eq]
      exact ⟨fun h => h.2, fun h => ⟨hkp, h⟩⟩
    have hscell : ∀ {w A B}, H w h (A :: B :: sbox s S :: Ls) → w.cell? ((⟨s, 0, none⟩ : Addr).add (k * 1)) = some (.bool (S k)) := fun {w A B} hH => by
      rw [hH.cbA 2 rfl 0 k, sbox_get (by omega)]
    have hrd : readyB p D k = (!S k && p[k].frm.all fun f => S f.toNat) := by
      unfold readyB
      rw [hall, hSk]
      by_cases h9 : (k : Int) ∈ D <;> simp [h9]
    refine WT_skip ?_
    refine WT_seq ?_
    refine WT_block ?_
    refine WT_seq ?_
    refine WT_region ?_
    refine WL_v rfl (ov_move rfl) ?_
    refine WL_v rfl (ov_index rfl rfl st_sl_impl_Node hP.sl hkp) ?_
    refine WL_v rfl (ov_loadN [.int .i64 p[k].kind, fv, rv] rfl agg_impl_Node rfl ((hcell _ _ hH))) ?_
    refine WL_alloc _ rfl hH zero_impl_Node rfl ?_; rintro g w5 hH5
    refine WL_v rfl (ov_assign rfl) ?_
    refine WL_storeN hH5 rfl rfl (i := 0) rfl rfl rfl (ones_cons rfl (ones_cons hf.sl.one (ones_cons hr.sl.one ones_nil))) sz_impl_Node ?_; rintro w6 hH6
    refine WL_nil ?_
    refine WT_seq ?_
    refine WT_region ?_
    refine WL_v rfl (ov_move rfl) ?_
    by_cases hs : S k = true
    · skip
      refine WL_v rfl (ov_idxA rfl rfl arr_10bool (by omega)) ?_
      refine WL_v rfl (ov_load rfl one_bool (hscell hH6)) ?_
      refine WL_v rfl (ov_F (ov_not rfl) (by rw [hs]; rfl)) ?_
      refine WL_v rfl (ov_move rfl) ?_
      refine WL_guardOff rfl rfl rfl rfl ?_
      refine WL_guardOff rfl rfl rfl rfl ?_
      refine WL_guardOff rfl rfl rfl rfl ?_
      refine WL_v rfl (ov_pickF rfl rfl) ?_
      refine WL_nil ?_
      refine WT_condF rfl ?_
      refine WT_skip ?_
      refine WT_inBlock ?_
      refine WT_region ?_
      refine WL_v rfl (ov_add rfl rfl (by omega)) ?_
      refine WL_v rfl (ov_move rfl) ?_
      refine WL_nil ?_
      refine again (k + 1, sv) _ _ (by simp only; omega) (by repeat (first | exact trivial | refine ⟨rfl, ?_⟩)) ⟨by simp only; omega, X, by rw [List.range_succ, List.filter_append, List.filter_cons, if_neg (by rw [hrd, hs]; simp), List.filter_nil, List.append_nil]; exact hX, hH6.drop⟩
    have hs' : S k = false := by simpa using hs
    refine WL_v rfl (ov_idxA rfl rfl arr_10bool (by omega)) ?_
    refine WL_v rfl (ov_load rfl one_bool (hscell hH6)) ?_
    refine WL_v rfl (ov_T (ov_not rfl) (by rw [hs']; rfl)) ?_
    refine WL_v rfl (ov_move rfl) ?_
    refine WL_guardOn rfl rfl ?_
    refine WL_v rfl (ov_field rfl fo_impl_Node_1) ?_
    refine WL_guardOn rfl rfl ?_
    refine WL_v rfl (ov_load rfl one_sl_int (hH6.cb 0 rfl 1)) ?_
    refine WL_guardOn rfl rfl ?_
    refine WL_call rfl rfl cf_impl_allIn (allIn_ok hH6 (hf.rdl _) (i := 2) rfl hfr) ?_; rintro _ w7 ⟨rfl, hH7⟩
    refine WL_v rfl (ov_pickT rfl rfl) ?_
    refine WL_nil ?_
    refine WT_cond rfl (fun ha => ?_) (fun ha => ?_)
    · skip
      first | with_reducible replace ha := of_decide_eq_true ha | with_reducible replace ha := bn_T ha | with_reducible replace ha := bb_T ha | skip
      refine WT_region ?_
      refine WL_v rfl (ov_move rfl) ?_
      refine WL_v rfl (ov_move rfl) ?_
      refine WL_bsI rfl hH7 rfl (run_bs_int _) ?_; rintro Y yv w8 hY hH8
      refine WL_appI (i := 2) (j := 0) rfl hH8 rfl rfl st_sl_int rfl hX rfl hY (by simp only [toI_len, List.length_cons, List.length_nil]; omega) (by simp only [toI_len, List.length_cons, List.length_nil]; omega) ?_; rintro X2 sv2 w9 hX2 hH9
      refine WL_v rfl (ov_assign rfl) ?_
      refine WL_nil ?_
      refine WT_inBlock ?_
      refine WT_region ?_
      refine WL_v rfl (ov_add rfl rfl (by omega)) ?_
      refine WL_v rfl (ov_move rfl) ?_
      refine WL_nil ?_
      refine again (k + 1, sv2) _ _ (by simp only; omega) (by repeat (first | exact trivial | refine ⟨rfl, ?_⟩)) ⟨by simp only; omega, X2, by rw [List.range_succ, List.filter_append, List.filter_cons, if_pos (by rw [hrd, hs', ha]; rfl), List.filter_nil, toI_snoc]; exact hX2, hH9.drop.drop⟩
    first | with_reducible replace ha := of_decide_eq_false ha | with_reducible replace ha := bn_F ha | with_reducible replace ha := bb_F ha | skip
    refine WT_skip ?_
    refine WT_inBlock ?_
    refine WT_region ?_
    refine WL_v rfl (ov_add rfl rfl (by omega)) ?_
    refine WL_v rfl (ov_move rfl) ?_
    refine WL_nil ?_
    refine again (k + 1, sv) _ _ (by simp only; omega) (by repeat (first | exact trivial | refine ⟨rfl, ?_⟩)) ⟨by simp only; omega, X, by rw [List.range_succ, List.filter_append, List.filter_cons, if_neg (by rw [hrd, ha]; simp), List.filter_nil, List.append_nil]; exact hX, hH7.drop⟩
  first | with_reducible replace hc := of_decide_eq_false hc | with_reducible replace hc := bn_F hc | with_reducible replace hc := bb_F hc | skip
  simp only at hc
  obtain rfl : k = p.length := by omega
  refine WT_exit rfl ?_
  refine WT_seq ?_
  refine WT_region ?_
  refine WL_v rfl (ov_move rfl) ?_
  refine WL_v rfl (ov_assign rfl) ?_
  refine WL_nil ?_
  exact WT_ret1 Try.func78 Try.results78 rfl ⟨X, by unfold readyOf; rw [if_pos hv]; exact hX, hH.del 1 rfl⟩

theorem sReadyOf_ok (hH : H w h Ls) {pv dv : Value} {p : List Nd} {D : List Int} (hP : Plan h pv p) (hD : RdL h Ls dv D) (hl : p.length ≤ 1000000000) : Rets Try.prog 83 #[pv, dv] w fun v w' => ∃ X, IRow X 3 v (readyOf p D) ∧ H w' h (X :: Ls) := by
  have hDX : ∀ {X}, RdL h (X :: Ls) dv D := ⟨hD.sl, fun hH _ hj => hD.cell hH.drop hj⟩
  refine rets_enter Try.func83 rfl Try.ntmps83 (by simp) ?_
  refine WT_seq ?_
  refine WT_region ?_
  refine WL_v rfl (ov_assign rfl) ?_
  refine WL_nil ?_
  refine WT_seq ?_
  refine WT_region ?_
  refine WL_bsI0 rfl hH run_bs_int0 ?_; rintro X0 sv0 w1 hX0 hH1
  refine WL_v rfl (ov_assign rfl) ?_
  refine WL_nil ?_
  refine WT_seq ?_
  refine WT_seq ?_
  refine WT_region ?_
  refine WL_v rfl (ov_assign rfl) ?_
  refine WL_nil ?_
  refine WT_block ?_
  refine WT_while (fun s : Nat × Value => [(0, pv), (1, dv), (5, s.2), (6, .int .i64 (s.1 : Int))]) (fun s w => s.1 ≤ p.length ∧ (planOk p = true ∨ s.1 = 0) ∧ ∃ X, IRow X 3 s.2 (toI ((List.range s.1).filter (readyB p D))) ∧ H w h (X :: Ls)) (fun s => p.length - s.1) (0, sv0) (by repeat (first | exact trivial | refine ⟨rfl, ?_⟩)) ⟨by omega, .inr rfl, X0, hX0, hH1⟩ ?_
  clear hH hH1 hX0
  rintro ⟨k, sv⟩ w2 ⟨hk, hvk, X, hX, hH⟩ again
  simp only at hk hX hvk
  have hfl := List.length_filter_le (readyB p D) (List.range k)
  rw [List.length_range] at hfl
  by_cases hkp : k < p.length
  case neg =>
    have hkn : k = p.length := by omega
    subst hkn
    refine WT_seq ?_
    refine WT_seq ?_
    refine WT_region ?_
    refine WL_v rfl (ov_move rfl) ?_
    refine WL_v rfl (ov_move rfl) ?_
    refine WL_v rfl (ov_len rfl hP.sl st_sl_impl_Node) ?_
    refine WL_v rfl (ov_F (ov_lss rfl rfl) (decide_eq_false (by simp only; omega))) ?_
    refine WL_v rfl (ov_move rfl) ?_
    refine WL_guardOff rfl rfl rfl rfl ?_
    refine WL_guardOff rfl rfl rfl rfl ?_
    refine WL_v rfl (ov_pickF rfl rfl) ?_
    refine WL_nil ?_
    refine WT_condF rfl ?_
    refine WT_exit rfl ?_
    refine WT_seq ?_
    refine WT_region ?_
    refine WL_v rfl (ov_move rfl) ?_
    refine WL_v rfl (ov_assign rfl) ?_
    refine WL_nil ?_
    exact WT_ret1 Try.func83 Try.results83 rfl ⟨X, by
      unfold readyOf
      rcases hvk with hv | h0
      · rw [if_pos hv]; exact hX
      · rw [h0] at hX
        have : p = [] := List.eq_nil_of_length_eq_zero h0
        subst this
        split <;> exact hX, hH⟩
  refine WT_seq ?_
  refine WT_seq ?_
  refine WT_region ?_
  refine WL_v rfl (ov_move rfl) ?_
  refine WL_v rfl (ov_move rfl) ?_
  refine WL_v rfl (ov_len rfl hP.sl st_sl_impl_Node) ?_
  refine WL_v rfl (ov_T (ov_lss rfl rfl) (decide_eq_true (by simp only; omega))) ?_
  refine WL_v rfl (ov_move rfl) ?_
  refine WL_guardOn rfl rfl ?_
  refine WL_v rfl (ov_move rfl) ?_
  refine WL_guardOn rfl rfl ?_
  refine WL_call rfl rfl cf_spec_PlanValid (sPlanValid_ok hH hP hl) ?_; rintro _ w3 ⟨rfl, hH3⟩
  refine WL_v rfl (ov_pickT rfl rfl) ?_
  refine WL_nil ?_
  refine WT_cond rfl (fun hv => ?_) (fun hv => ?_)
  · skip
    first | with_reducible replace hv := of_decide_eq_true hv | with_reducible replace hv := bn_T hv | with_reducible replace hv := bb_T hv | skip
    have hlen := PlanOk.len hv
    obtain ⟨fv, rv, hf, hr, hcell⟩ := hP.node hkp
    have hrd : readyB p D k = (!decide ((k : Int) ∈ D) && p[k].frm.all fun f => decide (f ∈ D)) := by
      unfold readyB
      rw [getD_of hkp]
      by_cases h9 : (k : Int) ∈ D <;> simp [h9]
    by_cases hs : (k : Int) ∈ D
    · skip
      refine WT_skip ?_
      refine WT_seq ?_
      refine WT_block ?_
      refine WT_seq ?_
      refine WT_region ?_
      refine WL_v rfl (ov_move rfl) ?_
      refine WL_v rfl (ov_move rfl) ?_
      refine WL_call rfl rfl cf_spec_l3Has (l3HasR_ok hH3 hDX _) ?_; rintro _ w4 ⟨rfl, hH4⟩
      refine WL_v rfl (ov_F (ov_not rfl) (by rw [decide_eq_true hs]; rfl)) ?_
      refine WL_v rfl (ov_move rfl) ?_
      refine WL_guardOff rfl rfl rfl rfl ?_
      refine WL_guardOff rfl rfl rfl rfl ?_
      refine WL_guardOff rfl rfl rfl rfl ?_
      refine WL_guardOff rfl rfl rfl rfl ?_
      refine WL_guardOff rfl rfl rfl rfl ?_
      refine WL_guardOff rfl rfl rfl rfl ?_
      refine WL_guardOff rfl rfl rfl rfl ?_
      refine WL_v rfl (ov_pickF rfl rfl) ?_
      refine WL_nil ?_
      refine WT_condF rfl ?_
      refine WT_skip ?_
      refine WT_inBlock ?_
      refine WT_region ?_
      refine WL_v rfl (ov_move rfl) ?_
      refine WL_v rfl (ov_add rfl rfl (by omega)) ?_
      refine WL_v rfl (ov_assign rfl) ?_
      refine WL_nil ?_
      refine again (k + 1, sv) _ _ (by simp only; omega) (by repeat (first | exact trivial | refine ⟨rfl, ?_⟩)) ⟨by simp only; omega, .inl hv, X, by rw [List.range_succ, List.filter_append, List.filter_cons, if_neg (by rw [hrd, decide_eq_true hs]; simp), List.filter_nil, List.append_nil]; exact hX, hH4⟩
    refine WT_skip ?_
    refine WT_seq ?_
    refine WT_block ?_
    refine WT_seq ?_
    refine WT_region ?_
    refine WL_v rfl (ov_move rfl) ?_
    refine WL_v rfl (ov_move rfl) ?_
    refine WL_call rfl rfl cf_spec_l3Has (l3HasR_ok hH3 hDX _) ?_; rintro _ w4 ⟨rfl, hH4⟩
    refine WL_v rfl (ov_T (ov_not rfl) (by rw [decide_eq_false hs]; rfl)) ?_
    refine WL_v rfl (ov_move rfl) ?_
    refine WL_guardOn rfl rfl ?_
    refine WL_v rfl (ov_move rfl) ?_
    refine WL_guardOn rfl rfl ?_
    refine WL_v rfl (ov_move rfl) ?_
    refine WL_guardOn rfl rfl ?_
    refine WL_v rfl (ov_move rfl) ?_
    refine WL_guardOn rfl rfl ?_
    refine WL_v rfl (ov_index rfl rfl st_sl_impl_Node hP.sl hkp) ?_
    refine WL_guardOn rfl rfl ?_
    refine WL_v rfl (ov_field rfl fo_impl_Node_1) ?_
    refine WL_guardOn rfl rfl ?_
    refine WL_v rfl (ov_load rfl one_sl_int (hcell _ _ hH4 1 _ rfl)) ?_
    refine WL_guardOn rfl rfl ?_
    refine WL_call rfl rfl cf_spec_l5All (l5All_ok hH4 hDX (hf.rdl _)) ?_; rintro _ w5 ⟨rfl, hH5⟩
    refine WL_v rfl (ov_pickT rfl rfl) ?_
    refine WL_nil ?_
    refine WT_cond rfl (fun ha => ?_) (fun ha => ?_)
    · skip
      first | with_reducible replace ha := of_decide_eq_true ha | with_reducible replace ha := bn_T ha | with_reducible replace ha := bb_T ha | skip
      refine WT_region ?_
      refine WL_v rfl (ov_move rfl) ?_
      refine WL_v rfl (ov_move rfl) ?_
      refine WL_bsI rfl hH5 rfl (run_bs_int _) ?_; rintro Y yv w6 hY hH6
      refine WL_appI (i := 1) (j := 0) rfl hH6 rfl rfl st_sl_int rfl hX rfl hY (by simp only [toI_len, List.length_cons, List.length_nil]; omega) (by simp only [toI_len, List.length_cons, List.length_nil]; omega) ?_; rintro X2 sv2 w7 hX2 hH7
      refine WL_v rfl (ov_assign rfl) ?_
      refine WL_nil ?_
      refine WT_inBlock ?_
      refine WT_region ?_
      refine WL_v rfl (ov_move rfl) ?_
      refine WL_v rfl (ov_add rfl rfl (by omega)) ?_
      refine WL_v rfl (ov_assign rfl) ?_
      refine WL_nil ?_
      refine again (k + 1, sv2) _ _ (by simp only; omega) (by repeat (first | exact trivial | refine ⟨rfl, ?_⟩)) ⟨by simp only; omega, .inl hv, X2, by rw [List.range_succ, List.filter_append, List.filter_cons, if_pos (by rw [hrd, decide_eq_false hs, ha]; rfl), List.filter_nil, toI_snoc]; exact hX2, hH7.drop⟩
    first | with_reducible replace ha := of_decide_eq_false ha | with_reducible replace ha := bn_F ha | with_reducible replace ha := bb_F ha | skip
    refine WT_skip ?_
    refine WT_inBlock ?_
    refine WT_region ?_
    refine WL_v rfl (ov_move rfl) ?_
    refine WL_v rfl (ov_add rfl rfl (by omega)) ?_
    refine WL_v rfl (ov_assign rfl) ?_
    refine WL_nil ?_
    refine again (k + 1, sv) _ _ (by simp only; omega) (by repeat (first | exact trivial | refine ⟨rfl, ?_⟩)) ⟨by simp only; omega, .inl hv, X, by rw [List.range_succ, List.filter_append, List.filter_cons, if_neg (by rw [hrd, ha]; simp), List.filter_nil, List.append_nil]; exact hX, hH5⟩
  first | with_reducible replace hv := of_decide_eq_false hv | with_reducible replace hv := bn_F hv | with_reducible replace hv := bb_F hv | skip
  have hk0 : k = 0 := by
    rcases hvk with h9 | h9
    · rw [h9] at hv; cases hv
    · exact h9
  subst hk0
  refine WT_exit rfl ?_
  refine WT_seq ?_
  refine WT_region ?_
  refine WL_v rfl (ov_move rfl) ?_
  refine WL_v rfl (ov_assign rfl) ?_
  refine WL_nil ?_
  exact WT_ret1 Try.func83 Try.results83 rfl ⟨X, by unfold readyOf; rw [if_neg (by rw [hv]; simp)]; exact hX, hH3⟩
end
end Go.Proofs.Ytafljegjdanldaa

/- Walks: the rows of a plan. -/
namespace Go.Proofs.Ytafljegjdanldaa
open Go.RowKit

theorem zero_fnA (W : World) : (zeroValue 56).run Try.prog W = .ok .nilFunc W := by kernel_rfl
theorem zero_fnB (W : World) : (zeroValue 60).run Try.prog W = .ok .nilFunc W := by kernel_rfl
theorem zero_LL (W : World) : (zeroValue 28).run Try.prog W = .ok (.slice none 0 0) W := by kernel_rfl
theorem cf_rowOf (vs : Array Value) (W : World) : (callFunc 43 vs).run Try.prog W = .ok (.enter 43 vs) W := by kernel_rfl
theorem cf_gather (vs : Array Value) (W : World) : (callFunc 46 vs).run Try.prog W = .ok (.enter 46 vs) W := by kernel_rfl

/-- Rows that are made, the first ones of some. -/
structure VRows (O : Heaplet) (Is : List Heaplet) (ov : Value) (ls : List (List Int)) (n : Nat) (xs : List Value) : Prop where
  len : Is.length = ls.length
  row : Row O 24 1 ov n xs
  at_ : ∀ i (hi : i < ls.length), OLAt Is xs i ls[i]
theorem VRows.put {O O' : Heaplet} {Is : List Heaplet} {ov : Value} {ls : List (List Int)} {n : Nat} {xs : List Value} {u : Value} {F : Heaplet} {l : List Int} {k : Nat} (hV : VRows O Is ov ls n xs) (hk : ls.length = k) (hkn : k < n)
    (hO : Row O' 24 1 ov n (xs.set k u)) (hF : IRow F 3 u l) : VRows O' (Is ++ [F]) ov (ls ++ [l]) n (xs.set k u) := by
  have hxl := hV.row.len
  have hil := hV.len
  refine ⟨by simp [hil], hO, fun i hi => ?_⟩
  rw [List.getElem_append]
  split
  · rename_i h1
    obtain ⟨u', F', g1, g2, g3⟩ := hV.at_ i h1
    exact ⟨u', F', by rw [List.getElem?_set, if_neg (by omega)]; exact g1, by rw [List.getElem?_append_left (List.getElem?_eq_some_iff.1 g2).1]; exact g2, g3⟩
  · rename_i h1
    have : i = k := by simp at hi; omega
    subst this
    exact ⟨u, F, by rw [List.getElem?_set, if_pos rfl, if_pos (by omega)], by rw [List.getElem?_append_right (by omega)]; simp [hil, hk], by simpa using hF⟩
theorem VRows.lists {O : Heaplet} {Is : List Heaplet} {ov : Value} {ls : List (List Int)} {n : Nat} {xs : List Value} (hV : VRows O Is ov ls n xs) (hn : ls.length = n) : OLists O Is ov ls := ⟨hV.len, xs, by rw [hn]; exact hV.row, hV.at_⟩

section
variable {h : GH} {Ls : List Heaplet} {w : World}

abbrev rbox (g : Nat) (ov : Value) : Heaplet := [(g, .cells #[ov] 28 (0, 0))]
abbrev pbox (g : Nat) (pv : Value) : Heaplet := [(g, .cells #[pv] 23 (0, 0))]
abbrev gbox (g o : Nat) : Heaplet := [(g, .cells #[.func (.func 46) #[] #[ptr o]] 56 (0, 0))]
abbrev obox (o m r p g : Nat) : Heaplet := [(o, .cells #[.func (.func 43) #[] #[ptr m, ptr r, ptr p, ptr g]] 60 (0, 0))]

/-- A row that is made is handed out. -/
theorem rowMade_ok {bm br bp bg : Nat} {S : Nat → Bool} {O : Heaplet} {ov u : Value} {n : Nat} {xs : List Value} {im ir io : Nat} {a : Nat} (hH : H w h Ls) (him : Ls[im]? = some (sbox bm S)) (hir : Ls[ir]? = some (rbox br ov)) (hio : Ls[io]? = some O)
    (hO : Row O 24 1 ov n xs) (hu : xs[a]? = some u) (hS : S a = true) (ha : a < 10) : Rets Try.prog 43 #[.int .i64 (a : Int), ptr bm, ptr br, ptr bp, ptr bg] w fun v w' => v = u ∧ H w' h Ls := by
  have han : a < n := by
    have h1 := (List.getElem?_eq_some_iff.1 hu).1
    have := hO.len
    omega
  have hcell : ∀ {w}, H w h Ls → w.cell? ((⟨bm, 0, none⟩ : Addr).add (a * 1)) = some (.bool (S a)) := fun {w} hH => by
    rw [hH.cbA im him 0 a, sbox_get ha]
  have hcu : ∀ {w}, H w h Ls → w.cell? ((slA ov).add (a * 1)) = some u := fun {w} hH => by
    rw [Nat.mul_one]; exact hO.cell hH hio hu
  refine rets_enter Try.func43 rfl Try.ntmps43 (by simp) ?_
  refine WT_seq ?_
  refine WT_region ?_
  refine WL_v rfl (ov_assign rfl) ?_
  refine WL_nil ?_
  refine WT_seq ?_
  refine WT_seq ?_
  refine WT_region ?_
  refine WL_v rfl (ov_move rfl) ?_
  refine WL_v rfl (ov_idxA rfl rfl arr_10bool ha) ?_
  refine WL_v rfl (ov_load rfl one_bool (hcell hH)) ?_; rw [hS]
  refine WL_nil ?_
  refine WT_condT rfl ?_
  refine WT_seq ?_
  refine WT_region ?_
  refine WL_v rfl (ov_load rfl one_sl_sl_int (hH.cb ir hir 0)) ?_
  refine WL_v rfl (ov_move rfl) ?_
  refine WL_v rfl (ov_index rfl rfl st_sl_sl_int hO.sl han) ?_
  refine WL_v rfl (ov_load rfl one_sl_int (hcu hH)) ?_
  refine WL_v rfl (ov_assign rfl) ?_
  refine WL_nil ?_
  exact WT_ret1 Try.func43 Try.results43 rfl ⟨rfl, hH⟩

theorem gather_ok {bm br bp bg bo : Nat} {S : Nat → Bool} {O : Heaplet} {ov fv : Value} {n : Nat} {xs : List Value} {im ir io ib : Nat} {f : List Int} (hH : H w h Ls) (him : Ls[im]? = some (sbox bm S)) (hir : Ls[ir]? = some (rbox br ov)) (hio : Ls[io]? = some O)
    (hib : Ls[ib]? = some (obox bo bm br bp bg)) (hO : Row O 24 1 ov n xs) (hF : RdL h Ls fv f) (hfl : f.length ≤ 2) (hall : ∀ x ∈ f, 0 ≤ x ∧ x < 10 ∧ S x.toNat = true ∧ x < (n : Int)) (hone : ∀ x ∈ f, ∀ u, xs[x.toNat]? = some u → u.oneCell' = true) :
    Rets Try.prog 46 #[fv, ptr bo] w fun v w' => ∃ N us, Row N 24 1 v f.length us ∧ (∀ j (hj : j < f.length), us[j]? = xs[(f[j]).toNat]?) ∧ H w' h (N :: Ls) := by
  refine rets_enter Try.func46 rfl Try.ntmps46 (by simp) ?_
  refine WT_seq ?_
  refine WT_region ?_
  refine WL_v rfl (ov_assign rfl) ?_
  refine WL_nil ?_
  refine WT_seq ?_
  refine WT_region ?_
  refine WL_v rfl (ov_move rfl) ?_
  refine WL_v rfl (ov_len rfl hF.sl st_sl_int) ?_
  refine WL_make (sz := 1) (n := f.length) (c := f.length) rfl hH rfl rfl st_sl_sl_int (by omega) (by omega) (by omega) (by omega) ?_; rintro N0 nv w1 hN0 hH1
  refine WL_v rfl (ov_assign rfl) ?_
  refine WL_nil ?_
  refine WT_seq ?_
  refine WT_seq ?_
  refine WT_region ?_
  refine WL_v rfl (ov_move rfl) ?_
  refine WL_v rfl (ov_len rfl hF.sl st_sl_int) ?_
  refine WL_v rfl (ov_move rfl) ?_
  refine WL_nil ?_
  refine WT_block ?_
  refine WT_while (fun s : Nat => [(1, ptr bo), (4, nv), (10, fv), (11, .int .i64 (f.length : Int)), (12, .int .i64 (s : Int))]) (fun s w => s ≤ f.length ∧ ∃ N us, Row N 24 1 nv f.length us ∧ (∀ j (hj : j < f.length), j < s → us[j]? = xs[(f[j]).toNat]?) ∧ H w h (N :: Ls)) (fun s => f.length - s) 0 (by repeat (first | exact trivial | refine ⟨rfl, ?_⟩)) ⟨by omega, N0, _, hN0, fun j _ h => by omega, hH1⟩ ?_
  clear hH hH1 hN0 N0
  rintro s w2 ⟨hs, N, us, hN, hus, hH⟩ again
  refine WT_seq ?_
  refine WT_region ?_
  refine WL_v rfl (ov_lss rfl rfl) ?_
  refine WL_nil ?_
  refine WT_seq ?_
  refine WT_cond rfl (fun hc => ?_) (fun hc => ?_)
  · skip
    first | with_reducible replace hc := of_decide_eq_true hc | with_reducible replace hc := bn_T hc | with_reducible replace hc := bb_T hc | skip
    have hsf : s < f.length := by omega
    obtain ⟨g1, g2, g3, g4⟩ := hall _ (List.getElem_mem hsf)
    obtain ⟨a, ha⟩ := Int.eq_ofNat_of_zero_le g1
    rw [ha, Int.toNat_natCast] at g3
    have hxl := hO.len
    have hax : a < xs.length := by omega
    have hnl := hN.len
    refine WT_skip ?_
    refine WT_seq ?_
    refine WT_block ?_
    refine WT_seq ?_
    refine WT_region ?_
    refine WL_v rfl (ov_move rfl) ?_
    refine WL_v rfl (ov_index rfl rfl st_sl_int hF.sl hsf) ?_
    refine WL_v rfl (ov_load rfl one_int (hF.cell hH.drop hsf)) ?_; rw [ha]
    refine WL_v rfl (ov_assign rfl) ?_
    refine WL_v rfl (ov_assign rfl) ?_
    refine WL_nil ?_
    refine WT_region ?_
    refine WL_v rfl (ov_move rfl) ?_
    refine WL_v rfl (ov_move rfl) ?_
    refine WL_v rfl (ov_load rfl one_func_int_sl_int (hH.cb (ib + 1) hib 0)) ?_
    refine WL_v rfl (ov_move rfl) ?_
    refine WL_callV (ws := [.int .i64 (a : Int), ptr bm, ptr br, ptr bp, ptr bg]) rfl rfl rfl rfl cf_rowOf (rowMade_ok (im := im + 1) (ir := ir + 1) (io := io + 1) hH him hir hio hO (List.getElem?_eq_getElem hax) g3 (by omega)) ?_; rintro _ w3 ⟨rfl, hH3⟩
    refine WL_v rfl (ov_index rfl rfl st_sl_sl_int hN.sl hsf) ?_
    refine WL_storeRow hH3 rfl rfl (i := 0) rfl hN (j := s * 1) (by omega) (hone _ (List.getElem_mem hsf) _ (by rw [ha, Int.toNat_natCast]; exact List.getElem?_eq_getElem hax)) sz_sl_int ?_; rintro N2 w4 hN2 hH4
    refine WL_nil ?_
    refine WT_inBlock ?_
    refine WT_region ?_
    refine WL_v rfl (ov_add rfl rfl (by omega)) ?_
    refine WL_v rfl (ov_move rfl) ?_
    refine WL_nil ?_
    refine again (s + 1) _ _ (by omega) (by repeat (first | exact trivial | refine ⟨rfl, ?_⟩)) ⟨by omega, N2, _, hN2, fun j hj hjs => ?_, hH4⟩
    rw [Nat.mul_one, List.getElem?_set]
    split
    · rename_i h1
      subst h1
      rw [if_pos (by omega), ha, Int.toNat_natCast, List.getElem?_eq_getElem hax]
    · exact hus j hj (by omega)
  first | with_reducible replace hc := of_decide_eq_false hc | with_reducible replace hc := bn_F hc | with_reducible replace hc := bb_F hc | skip
  obtain rfl : s = f.length := by omega
  refine WT_exit rfl ?_
  refine WT_seq ?_
  refine WT_region ?_
  refine WL_v rfl (ov_move rfl) ?_
  refine WL_v rfl (ov_assign rfl) ?_
  refine WL_nil ?_
  exact WT_ret1 Try.func46 Try.results46 rfl ⟨N, us, hN, fun j hj => hus j hj hj, hH⟩

theorem Cl.two {A B : Heaplet} (hH : H w h (A :: B :: Ls)) : Cl h Ls w := ⟨A ++ B, by simpa [H] using hH⟩
/-- All that the functions share. -/
def VSt (w : World) (h : GH) (bo bg bm br bp : Nat) (S : Nat → Bool) (O : Heaplet) (ov pv : Value) (Rs : List Heaplet) : Prop := H w h (obox bo bm br bp bg :: gbox bg bo :: sbox bm S :: rbox br ov :: O :: pbox bp pv :: Rs)

theorem H.fillT {T A B C D E G : Heaplet} {Is Ms : List Heaplet} (hH : H w h (T :: A :: B :: C :: D :: E :: G :: (Is ++ Ms))) : H w h (A :: B :: C :: D :: E :: G :: ((Is ++ [T]) ++ Ms)) := by
  refine hH.perm ?_
  have : (T :: ((A :: B :: C :: D :: E :: G :: Is) ++ Ms)).Perm ((A :: B :: C :: D :: E :: G :: Is) ++ T :: Ms) := List.perm_middle.symm
  simpa using this

set_option maxHeartbeats 1000000 in
/-- A row is made from the ones ahead. -/
theorem rowNew_ok {bm br bp bg bo : Nat} {S : Nat → Bool} {O : Heaplet} {Is : List Heaplet} {ov pv : Value} {p : List Nd} {xs : List Value} {k : Nat} (hP : Plan h pv p) (hv : planOk p = true) (hk : k < p.length)
    (hS : ∀ u, S u = true ↔ u < k) (hV : VRows O Is ov (valsTo p k) p.length xs) (hH : VSt w h bo bg bm br bp S O ov pv (Is ++ Ls)) :
    Rets Try.prog 43 #[.int .i64 (k : Int), ptr bm, ptr br, ptr bp, ptr bg] w fun _ w' => ∃ O' F xs', VRows O' (Is ++ [F]) ov (valsTo p (k + 1)) p.length xs' ∧ VSt w' h bo bg bm br bp (fun u => if u = k then true else S u) O' ov pv ((Is ++ [F]) ++ Ls) := by
  unfold VSt at hH ⊢
  have hlen := PlanOk.len hv
  have hvl := valsTo_len p k
  have hst : valsTo p (k + 1) = valsTo p k ++ [stepL ⟨p[k].kind, p[k].frm, p[k].row⟩ (valsTo p k)] := by rw [valsTo, getD_of hk]
  obtain ⟨fv, rv, hf, hrr, hcell⟩ := hP.node hk
  have hN' := PlanOk.node hv hk
  have hf2 := NodeOk.len2 hN'
  have hr6 := ((rowOk_iff _).1 hN'.row).2
  have hSk : S k = false := by
    cases h1 : S k with
    | false => rfl
    | true => have := (hS k).1 h1; omega
  have hxl := hV.row.len
  have hcellS : ∀ {w}, H w h (obox bo bm br bp bg :: gbox bg bo :: sbox bm S :: rbox br ov :: O :: pbox bp pv :: (Is ++ Ls)) → w.cell? ((⟨bm, 0, none⟩ : Addr).add (k * 1)) = some (.bool (S k)) := fun {w} hH => by
    rw [hH.cbA 2 rfl 0 k, sbox_get (by omega)]
  refine rets_enter Try.func43 rfl Try.ntmps43 (by simp) ?_
  refine WT_seq ?_
  refine WT_region ?_
  refine WL_v rfl (ov_assign rfl) ?_
  refine WL_nil ?_
  refine WT_seq ?_
  refine WT_seq ?_
  refine WT_region ?_
  refine WL_v rfl (ov_move rfl) ?_
  refine WL_v rfl (ov_idxA rfl rfl arr_10bool (by omega)) ?_
  refine WL_v rfl (ov_load rfl one_bool (hcellS hH)) ?_; rw [hSk]
  refine WL_nil ?_
  refine WT_condF rfl ?_
  refine WT_skip ?_
  refine WT_seq ?_
  refine WT_region ?_
  refine WL_v rfl (ov_load rfl one_sl_impl_Node (hH.cb 5 rfl 0)) ?_
  refine WL_v rfl (ov_move rfl) ?_
  refine WL_v rfl (ov_index rfl rfl st_sl_impl_Node hP.sl hk) ?_
  refine WL_v rfl (ov_loadN [.int .i64 p[k].kind, fv, rv] rfl agg_impl_Node rfl ((hcell _ _ hH))) ?_
  refine WL_alloc _ rfl hH zero_impl_Node rfl ?_; rintro g w1 hH1
  refine WL_storeN hH1 rfl rfl (i := 0) rfl rfl rfl (ones_cons rfl (ones_cons hf.sl.one (ones_cons hrr.sl.one ones_nil))) sz_impl_Node ?_; rintro w2 hH2
  refine WL_nil ?_
  refine WT_seq ?_
  refine WT_seq ?_
  refine WT_region ?_
  refine WL_v rfl (ov_field rfl fo_impl_Node_0) ?_
  refine WL_v rfl (ov_load rfl one_int (hH2.cb 0 rfl 0)) ?_
  refine WL_v rfl (ov_eql rfl rfl) ?_
  refine WL_nil ?_
  refine WT_join (ι := Heaplet × Heaplet) (fun _ => [(0, .int .i64 (k : Int)), (1, ptr bm), (2, ptr br)]) (fun s w => (∃ xs', VRows s.1 (Is ++ [s.2]) ov (valsTo p (k + 1)) p.length xs') ∧ H w h (obox bo bm br bp bg :: gbox bg bo :: sbox bm S :: rbox br ov :: s.1 :: pbox bp pv :: ((Is ++ [s.2]) ++ Ls))) (fun joined => ?_) ?_
  · skip
    refine WT_cond rfl (fun h0 => ?_) (fun h0 => ?_)
    · skip
      first | with_reducible replace h0 := of_decide_eq_true h0 | with_reducible replace h0 := bn_T h0 | with_reducible replace h0 := bb_T h0 | skip
      refine WT_mixL [(0, 0), (1, 1), (2, 1), (3, 0), (4, 2), (5, 1), (6, 3)] mixed (by kernel_rfl) hH2 ?_
      clear hH2
      intro w3 hH2 hC
      refine WM_v rfl rfl hC (fun _ ⟨_, hH⟩ => ov_load rfl one_sl_sl_int (hH.cb 5 rfl 0)) ?_
      refine WM_p rfl rfl (fun _ => ov_move rfl) ?_
      refine WM_p rfl rfl (fun _ => ov_field rfl fo_impl_Node_2) ?_
      refine WM_v rfl rfl hC (fun _ ⟨_, hH⟩ => ov_load rfl one_sl_int (hH.cb 1 rfl 2)) ?_
      refine WM_e rfl ?_
      refine WL_call rfl rfl cf_impl_copyInts (copyInts_ok hH2 (hrr.rdl _) (by omega)) ?_; rintro tv w4 ⟨T, hT, hH4⟩
      replace hC : Cl _ _ _ := ⟨T, hH4⟩
      refine WL_mix (fun _ => hC) ?_
      refine WM_p rfl rfl (fun _ => ov_index rfl rfl st_sl_sl_int hV.row.sl hk) ?_
      refine WM_e rfl ?_
      refine WL_storeRow hH4 rfl rfl (i := 6) rfl hV.row (j := k * 1) (by omega) hT.sl.one sz_sl_int ?_; rintro O2 w5 hO2 hH5
      refine WL_mix (fun h => absurd rfl h) ?_
      refine WM_nil ?_
      refine joined (O2, T) _ _ (by repeat (first | exact trivial | refine ⟨rfl, ?_⟩)) ⟨⟨xs.set k tv, ?_⟩, ?_⟩
      · rw [hst, stepL, if_pos h0]
        rw [Nat.mul_one] at hO2
        exact hV.put hvl hk hO2 hT
      · exact H.fillT (hH5.del 1 rfl)
    first | with_reducible replace h0 := of_decide_eq_false h0 | with_reducible replace h0 := bn_F h0 | with_reducible replace h0 := bb_F h0 | skip
    have hall : ∀ x ∈ p[k].frm, 0 ≤ x ∧ x < 10 ∧ S x.toNat = true ∧ x < (p.length : Int) := fun x hx => by
      have := hN'.frm x hx
      exact ⟨this.1, by omega, (hS _).2 (by omega), by omega⟩
    have hkk : ∀ x ∈ p[k].frm, x.toNat < (valsTo p k).length := fun x hx => by
      have := hN'.frm x hx
      omega
    have hplace : ∀ {N : Heaplet} (j : Nat) (F : Heaplet), Is[j]? = some F → (N :: [(g, .cells #[.int .i64 p[k].kind, fv, rv] 32 (0, 0))] :: obox bo bm br bp bg :: gbox bg bo :: sbox bm S :: rbox br ov :: O :: pbox bp pv :: (Is ++ Ls))[8 + j]? = some F := fun j F hj => by
      rw [show 8 + j = j + 1 + 1 + 1 + 1 + 1 + 1 + 1 + 1 by omega]
      simp only [List.getElem?_cons_succ]
      rw [List.getElem?_append_left (List.getElem?_eq_some_iff.1 hj).1]
      exact hj
    have hone : ∀ x ∈ p[k].frm, ∀ u, xs[x.toNat]? = some u → u.oneCell' = true := fun x hx u hu => by
      obtain ⟨u', F', g1, _, g3⟩ := hV.at_ _ (hkk x hx)
      rw [hu] at g1
      obtain rfl := Option.some.inj g1
      exact g3.sl.one
    refine WT_mixL [(0, 0), (1, 1), (2, 1), (3, 0), (4, 0), (5, 1), (6, 0), (7, 2), (8, 2), (9, 1), (10, 1), (11, 1), (12, 1), (13, 3)] mixed (by kernel_rfl) hH2 ?_
    clear hH2
    intro w3 hH2 hC
    refine WM_v rfl rfl hC (fun _ ⟨_, hH⟩ => ov_load rfl one_sl_sl_int (hH.cb 5 rfl 0)) ?_
    refine WM_p rfl rfl (fun _ => ov_move rfl) ?_
    refine WM_p rfl rfl (fun _ => ov_field rfl fo_impl_Node_0) ?_
    refine WM_v rfl rfl hC (fun _ ⟨_, hH⟩ => ov_load rfl one_int (hH.cb 1 rfl 0)) ?_
    refine WM_v rfl rfl hC (fun _ ⟨_, hH⟩ => ov_load rfl one_func_sl_int_sl_sl_int (hH.cb 3 rfl 0)) ?_
    refine WM_p rfl rfl (fun _ => ov_field rfl fo_impl_Node_1) ?_
    refine WM_v rfl rfl hC (fun _ ⟨_, hH⟩ => ov_load rfl one_sl_int (hH.cb 1 rfl 1)) ?_
    refine WM_e rfl ?_
    refine WL_callV (ws := [fv, ptr bo]) rfl rfl rfl rfl cf_gather (gather_ok (im := 3) (ir := 4) (io := 5) (ib := 1) hH2 rfl rfl rfl rfl hV.row (hf.rdl _) hf2 hall hone) ?_; rintro nv w4 ⟨N, us, hN, hus, hH4⟩
    replace hC : Cl _ _ _ := ⟨N, hH4⟩
    refine WL_mix (fun _ => hC) ?_
    refine WM_e rfl ?_
    refine WL_call rfl rfl cf_impl_KindRun (kindRun_ok hH4 hN'.kind (Pick.rdll (rows := valsTo p k) ⟨fun j hj _ => by { have hx := List.getElem_mem hj; have hkj := hkk _ hx; obtain ⟨u', F', g1, g2, g3⟩ := hV.at_ _ hkj; refine ⟨u', (hus j hj).trans g1, ?_⟩; rw [getLD hkj]; exact g3.rdl (hplace _ F' g2) }⟩ (i := 0) rfl hN)) ?_; rintro _ w5 ⟨tv, ok, T, rfl, hT, hH5⟩
    replace hC : Cl _ _ _ := Cl.two hH5
    refine WL_mix (fun _ => hC) ?_
    refine WM_p rfl rfl (fun _ => ov_move rfl) ?_
    refine WM_p rfl rfl (fun _ => ov_extract rfl rfl) ?_
    refine WM_p rfl rfl (fun _ => ov_extract rfl rfl) ?_
    refine WM_p rfl rfl (fun _ => ov_index rfl rfl st_sl_sl_int hV.row.sl hk) ?_
    refine WM_e rfl ?_
    refine WL_storeRow hH5 rfl rfl (i := 7) rfl hV.row (j := k * 1) (by omega) hT.sl.one sz_sl_int ?_; rintro O2 w6 hO2 hH6
    refine WL_mix (fun h => absurd rfl h) ?_
    refine WM_nil ?_
    refine joined (O2, T) _ _ (by repeat (first | exact trivial | refine ⟨rfl, ?_⟩)) ⟨⟨xs.set k tv, ?_⟩, ?_⟩
    · rw [hst, stepL, if_neg h0]
      rw [Nat.mul_one] at hO2
      exact hV.put hvl hk hO2 hT
    · exact H.fillT ((hH6.del 2 rfl).del 1 rfl)
  clear hH hH1 hH2
  rintro ⟨O2, T⟩ w6 ⟨⟨xs2, hV2⟩, hH6⟩
  simp only at hV2 hH6
  obtain ⟨u, F, hu, _, hF⟩ := hV2.at_ k (by rw [valsTo_len]; omega)
  have hcu : ∀ {w S}, H w h (obox bo bm br bp bg :: gbox bg bo :: sbox bm S :: rbox br ov :: O2 :: pbox bp pv :: ((Is ++ [T]) ++ Ls)) → w.cell? ((slA ov).add (k * 1)) = some u := fun hH => by
    rw [Nat.mul_one]; exact hV2.row.cell hH (i := 4) rfl hu
  refine WT_seq ?_
  refine WT_region ?_
  refine WL_v rfl (ov_move rfl) ?_
  refine WL_v rfl (ov_idxA rfl rfl arr_10bool (by omega)) ?_
  refine WL_store hH6 rfl rfl (i := 2) (off := 0 + k) rfl (addA bm 0 k) (by simp; omega) rfl sz_bool ?_; rintro w7 hH7; rw [sbox_set] at hH7
  refine WL_nil ?_
  refine WT_seq ?_
  refine WT_region ?_
  refine WL_v rfl (ov_load rfl one_sl_sl_int (hH7.cb 3 rfl 0)) ?_
  refine WL_v rfl (ov_move rfl) ?_
  refine WL_v rfl (ov_index rfl rfl st_sl_sl_int hV2.row.sl hk) ?_
  refine WL_v rfl (ov_load rfl one_sl_int (hcu hH7)) ?_
  refine WL_v rfl (ov_assign rfl) ?_
  refine WL_nil ?_
  exact WT_ret1 Try.func43 Try.results43 rfl ⟨O2, T, xs2, hV2, hH7⟩
end
end Go.Proofs.Ytafljegjdanldaa

/- Walks: the rows of a plan, whole. -/
namespace Go.Proofs.Ytafljegjdanldaa
open Go.RowKit

section
variable {h : GH} {Ls : List Heaplet} {w : World}

theorem valuesOf_no (hH : H w h Ls) {pv : Value} {p : List Nd} (hP : Plan h pv p) (hv : planOk p = false) : Rets Try.prog 14 #[pv] w fun v w' => v = .tuple #[.slice none 0 0, .bool false] ∧ H w' h Ls := by
  have hva := fun {w : World} {Ls : List Heaplet} (hH : H w h Ls) => planValid_ok hH hP
  rw [hv] at hva
  have hpc : pv.cells = #[pv] := by
    obtain ⟨A0, c0, hpv, _⟩ := hP.sl.form
    rw [hpv]; rfl
  refine rets_enter Try.func14 rfl Try.ntmps14 (by simp) ?_
  refine WT_seq ?_
  refine WT_region ?_
  refine WL_box _ rfl hH rfl rfl ?_; rintro bp w1 hH1; rw [hpc] at hH1
  refine WL_v rfl (ov_assign rfl) ?_
  refine WL_v rfl (ov_assign rfl) ?_
  refine WL_nil ?_
  refine WT_seq ?_
  refine WT_seq ?_
  refine WT_region ?_
  refine WL_v rfl (ov_load rfl one_sl_impl_Node (hH1.cb 0 rfl 0)) ?_
  refine WL_call rfl rfl cf_impl_PlanValid (hva hH1) ?_; rintro _ w2 ⟨rfl, hH2⟩
  refine WL_v rfl (ov_not rfl) ?_
  refine WL_nil ?_
  refine WT_condT rfl ?_
  refine WT_seq ?_
  refine WT_region ?_
  refine WL_v rfl (ov_assign rfl) ?_
  refine WL_v rfl (ov_assign rfl) ?_
  refine WL_nil ?_
  exact WT_ret2 Try.func14 Try.results14 rfl rfl ⟨rfl, hH2.drop⟩

/-- The rows of a plan, of one's own. -/
def OVals (h : GH) (Ls : List Heaplet) (p : List Nd) (v : Value) (w' : World) : Prop := ∃ ov O Is, v = .tuple #[ov, .bool true] ∧ OLists O Is ov (valsL p) ∧ H w' h (O :: (Is ++ Ls))

theorem valuesOf_yes (hH : H w h Ls) {pv : Value} {p : List Nd} (hP : Plan h pv p) (hv : planOk p = true) : Rets Try.prog 14 #[pv] w fun v w' => OVals h Ls p v w' := by
  have hva := fun {w : World} {Ls : List Heaplet} (hH : H w h Ls) => planValid_ok hH hP
  rw [hv] at hva
  have hpc : pv.cells = #[pv] := by
    obtain ⟨A0, c0, hpv, _⟩ := hP.sl.form
    rw [hpv]; rfl
  have hlen := PlanOk.len hv
  refine rets_enter Try.func14 rfl Try.ntmps14 (by simp) ?_
  refine WT_seq ?_
  refine WT_region ?_
  refine WL_box _ rfl hH rfl rfl ?_; rintro bp w1 hH1; rw [hpc] at hH1
  refine WL_v rfl (ov_assign rfl) ?_
  refine WL_v rfl (ov_assign rfl) ?_
  refine WL_nil ?_
  refine WT_seq ?_
  refine WT_seq ?_
  refine WT_region ?_
  refine WL_v rfl (ov_load rfl one_sl_impl_Node (hH1.cb 0 rfl 0)) ?_
  refine WL_call rfl rfl cf_impl_PlanValid (hva hH1) ?_; rintro _ w2 ⟨rfl, hH2⟩
  refine WL_v rfl (ov_not rfl) ?_
  refine WL_nil ?_
  refine WT_condF rfl ?_
  refine WT_skip ?_
  refine WT_seq ?_
  refine WT_region ?_
  refine WL_v rfl (ov_load rfl one_sl_impl_Node (hH2.cb 0 rfl 0)) ?_
  refine WL_v rfl (ov_len rfl hP.sl st_sl_impl_Node) ?_
  refine WL_make (sz := 1) (n := p.length) (c := p.length) rfl hH2 rfl rfl st_sl_sl_int (by omega) (by omega) (by omega) (by omega) ?_; rintro O0 ov w3 hO0 hH3
  refine WL_alloc _ rfl hH3 zero_LL rfl ?_; rintro br w4 hH4
  refine WL_store hH4 rfl rfl (i := 0) (off := 0) rfl rfl Nat.zero_lt_one hO0.sl.one sz_sl_sl_int ?_; rintro w5 hH5
  refine WL_nil ?_
  refine WT_seq ?_
  refine WT_region ?_
  refine WL_alloc #[.bool false, .bool false, .bool false, .bool false, .bool false, .bool false, .bool false, .bool false, .bool false, .bool false] rfl hH5 zero_10bool rfl ?_; rintro bm w6 hH6
  refine WL_nil ?_
  refine WT_seq ?_
  refine WT_region ?_
  refine WL_alloc _ rfl hH6 zero_fnA rfl ?_; rintro bg w7 hH7
  refine WL_nil ?_
  refine WT_seq ?_
  refine WT_region ?_
  refine WL_v rfl (ov_makeFunc rfl rfl) ?_
  refine WL_alloc _ rfl hH7 zero_fnB rfl ?_; rintro bo w8 hH8
  refine WL_store hH8 rfl rfl (i := 0) (off := 0) rfl rfl Nat.zero_lt_one rfl sz_func_int_sl_int ?_; rintro w9 hH9
  refine WL_nil ?_
  refine WT_seq ?_
  refine WT_region ?_
  refine WL_v rfl (ov_makeFunc rfl rfl) ?_
  refine WL_store hH9 rfl rfl (i := 1) (off := 0) rfl rfl Nat.zero_lt_one rfl sz_func_sl_int_sl_sl_int ?_; rintro w10 hH10
  refine WL_nil ?_
  refine WT_seq ?_
  refine WT_seq ?_
  refine WT_region ?_
  refine WL_v rfl (ov_load rfl one_sl_impl_Node (hH10.cb 5 rfl 0)) ?_
  refine WL_v rfl (ov_len rfl hP.sl st_sl_impl_Node) ?_
  refine WL_v rfl (ov_move rfl) ?_
  refine WL_nil ?_
  refine WT_block ?_
  have hst : VSt w10 h bo bg bm br bp (fun _ => false) O0 ov pv Ls := hH10
  clear hH hH1 hH2 hH3 hH4 hH5 hH6 hH7 hH8 hH9 hH10
  refine WT_while (fun s : Nat => [(4, ptr br), (7, ptr bo), (18, .int .i64 (p.length : Int)), (19, .int .i64 (s : Int))]) (fun s w => s ≤ p.length ∧ ∃ S O Is xs, (∀ u, S u = true ↔ u < s) ∧ VRows O Is ov (valsTo p s) p.length xs ∧ VSt w h bo bg bm br bp S O ov pv (Is ++ Ls)) (fun s => p.length - s) 0 (by repeat (first | exact trivial | refine ⟨rfl, ?_⟩)) ⟨by omega, _, O0, [], _, by simp, ⟨rfl, hO0, fun i hi => by simp [valsTo] at hi⟩, hst⟩ ?_
  clear hst hO0 O0
  rintro s w11 ⟨hs, S, O, Is, xs, hS, hV, hH⟩ again
  refine WT_seq ?_
  refine WT_region ?_
  refine WL_v rfl (ov_lss rfl rfl) ?_
  refine WL_nil ?_
  refine WT_seq ?_
  refine WT_cond rfl (fun hc => ?_) (fun hc => ?_)
  · skip
    first | with_reducible replace hc := of_decide_eq_true hc | with_reducible replace hc := bn_T hc | with_reducible replace hc := bb_T hc | skip
    have hsp : s < p.length := by omega
    have hH' := hH
    unfold VSt at hH'
    refine WT_skip ?_
    refine WT_seq ?_
    refine WT_block ?_
    refine WT_seq ?_
    refine WT_region ?_
    refine WL_v rfl (ov_move rfl) ?_
    refine WL_v rfl (ov_assign rfl) ?_
    refine WL_nil ?_
    refine WT_region ?_
    refine WL_v rfl (ov_load rfl one_func_int_sl_int (hH'.cb 0 rfl 0)) ?_
    refine WL_v rfl (ov_move rfl) ?_
    refine WL_callV (ws := [.int .i64 (s : Int), ptr bm, ptr br, ptr bp, ptr bg]) rfl rfl rfl rfl cf_rowOf (rowNew_ok hP hv hsp hS hV hH) ?_; rintro uv w12 ⟨O2, F, xs2, hV2, hH2⟩
    refine WL_nil ?_
    refine WT_inBlock ?_
    refine WT_region ?_
    refine WL_v rfl (ov_add rfl rfl (by omega)) ?_
    refine WL_v rfl (ov_move rfl) ?_
    refine WL_nil ?_
    refine again (s + 1) _ _ (by omega) (by repeat (first | exact trivial | refine ⟨rfl, ?_⟩)) ⟨by omega, _, O2, _, xs2, fun u => ?_, hV2, hH2⟩
    by_cases hu : u = s
    · simp [hu]
    · simp only [hu, if_false, hS]
      omega
  first | with_reducible replace hc := of_decide_eq_false hc | with_reducible replace hc := bn_F hc | with_reducible replace hc := bb_F hc | skip
  obtain rfl : s = p.length := by omega
  unfold VSt at hH
  refine WT_exit rfl ?_
  refine WT_seq ?_
  refine WT_region ?_
  refine WL_v rfl (ov_load rfl one_sl_sl_int (hH.cb 3 rfl 0)) ?_
  refine WL_v rfl (ov_assign rfl) ?_
  refine WL_v rfl (ov_assign rfl) ?_
  refine WL_nil ?_
  exact WT_ret2 Try.func14 Try.results14 rfl rfl ⟨ov, O, Is, rfl, hV.lists (valsTo_len p _), ((((hH.del 5 rfl).del 3 rfl).del 2 rfl).del 1 rfl).drop⟩
end
end Go.Proofs.Ytafljegjdanldaa

/- Parts moved: nothing of a program. -/
namespace Go.Proofs.Ytafljegjdanldaa
open Go.RowKit

section
variable {h : GH} {Ls : List Heaplet} {w : World}

theorem Cl.manyM : ∀ (A : List Heaplet) {Ls : List Heaplet}, H w h (A ++ Ls) → Cl h Ls w := fun A Ls hH => ⟨A.flatten, by simpa [H] using hH⟩
theorem Cl.subM (A S B : List Heaplet) (hH : H w h (A ++ (S ++ B))) : Cl h S w := Cl.manyM (A ++ B) (by
  rw [List.append_assoc]
  exact hH.perm (List.Perm.append_left A List.perm_append_comm))
theorem H.bh {O X : Heaplet} {Is Ms : List Heaplet} (hH : H w h (O :: (Is ++ X :: Ms))) : H w h (X :: O :: (Is ++ Ms)) := by
  refine hH.perm ?_
  have : (X :: ((O :: Is) ++ Ms)).Perm ((O :: Is) ++ X :: Ms) := List.perm_middle.symm
  simpa using this.symm
theorem H.bh2 {O X Y : Heaplet} {Is Ms : List Heaplet} (hH : H w h (O :: (Is ++ X :: Y :: Ms))) : H w h (X :: Y :: O :: (Is ++ Ms)) := by
  have h1 := hH.bh
  have h2 : H w h ((X :: O :: Is) ++ Y :: Ms) := by simpa using h1
  have h3 := h2.perm (List.perm_middle (a := Y) (l₁ := X :: O :: Is) (l₂ := Ms))
  exact h3.swap
/-- A part and its own go behind two others. -/
theorem H.ub2 {O X Y : Heaplet} {Is Ms : List Heaplet} (hH : H w h (X :: Y :: O :: (Is ++ Ms))) : H w h (O :: (Is ++ X :: Y :: Ms)) := by
  refine hH.perm ?_
  have : (([X, Y] ++ (O :: Is)) ++ Ms).Perm (((O :: Is) ++ [X, Y]) ++ Ms) := List.perm_append_comm.append_right Ms
  simpa using this
theorem H.flipM (A : List Heaplet) {B Ms : List Heaplet} (hH : H w h (A ++ (B ++ Ms))) : H w h (B ++ (A ++ Ms)) := by
  refine hH.perm ?_
  have : ((A ++ B) ++ Ms).Perm ((B ++ A) ++ Ms) := List.perm_append_comm.append_right Ms
  simpa using this
end
end Go.Proofs.Ytafljegjdanldaa
