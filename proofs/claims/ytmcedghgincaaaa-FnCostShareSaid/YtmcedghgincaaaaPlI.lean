/- Plain laws: levels found by a queue: who needs nothing any more is put at its end. -/
import Derived.Test.YtmcedghgincaaaaPlE
import Derived.Test.YtmcedghgincaaaaPlG
namespace Go.Proofs.Ytmcedghgincaaaa

theorem addN_nodup {l : List Nat} {f : Nat} (h : l.Nodup) : (addN l f).Nodup := by
  unfold addN
  split
  · exact h
  · rename_i hf
    rw [List.nodup_append]
    exact ⟨h, by simp, fun a ha b hb he => hf (by rw [List.mem_singleton] at hb; rw [← hb, ← he]; exact ha)⟩
theorem needTo_nodup (l : List Int) : (needTo l).Nodup := by
  have key : ∀ (l : List Int) (acc : List Nat), acc.Nodup → (l.foldl (fun a f => addN a f.toNat) acc).Nodup := by
    intro l
    induction l with
    | nil => intro acc h; exact h
    | cons f l ih => intro acc h; exact ih _ (addN_nodup h)
  exact key l [] (by simp)

/-- How many of what a node needs is not done. -/
def cntN (p : List Nd) (D : List Nat) (u : Nat) : Nat := ((needTo (p.getD u default).frm).filter fun f => decide (f ∉ D)).length
theorem filter_less {D : List Nat} {x : Nat} (hx : x ∉ D) : ∀ {l : List Nat}, l.Nodup → x ∈ l → (l.filter fun f => decide (f ∉ D ++ [x])).length + 1 = (l.filter fun f => decide (f ∉ D)).length
  | [], _, h => by simp at h
  | y :: l, hn, h => by
    rw [List.nodup_cons] at hn
    by_cases hy : y = x
    · subst hy
      have h1 : ∀ l : List Nat, y ∉ l → (l.filter fun f => decide (f ∉ D ++ [y])) = l.filter fun f => decide (f ∉ D) := fun l hl => List.filter_congr fun z hz => by
        have : z ≠ y := fun he => hl (he ▸ hz)
        simp [this]
      rw [List.filter_cons, List.filter_cons, if_neg (by simp), if_pos (by simpa using hx), h1 l hn.1]
      simp
    · have hl : x ∈ l := by
        rcases List.mem_cons.1 h with h | h
        · exact absurd h.symm hy
        · exact h
      have ih := filter_less hx hn.2 hl
      by_cases hyD : y ∈ D
      · rw [List.filter_cons, List.filter_cons, if_neg (by simp [hyD]), if_neg (by simp [hyD])]
        exact ih
      · rw [List.filter_cons, List.filter_cons, if_pos (by simp [hyD, hy]), if_pos (by simp [hyD])]
        simp only [List.length_cons]
        omega
theorem cntN_less {p : List Nd} {D : List Nat} {u x : Nat} (hx : x ∉ D) (h : x ∈ needTo (p.getD u default).frm) : cntN p (D ++ [x]) u + 1 = cntN p D u := filter_less hx (needTo_nodup _) h
theorem cntN_same {p : List Nd} {D : List Nat} {u x : Nat} (h : x ∉ needTo (p.getD u default).frm) : cntN p (D ++ [x]) u = cntN p D u := by
  unfold cntN
  congr 1
  refine List.filter_congr fun z hz => ?_
  have : z ≠ x := fun he => h (he ▸ hz)
  simp [this]
theorem cntN_zero {p : List Nd} {D : List Nat} {u : Nat} : cntN p D u = 0 ↔ ∀ f ∈ needTo (p.getD u default).frm, f ∈ D := by
  unfold cntN
  rw [List.length_eq_zero_iff, List.filter_eq_nil_iff]
  simp
theorem cntN_nil (p : List Nd) (u : Nat) : cntN p [] u = (needTo (p.getD u default).frm).length := by simp [cntN]

structure Kahn (p : List Nd) (Df : Nat → List Nat) (Dn : List Nat) (lv lf : List Int) (Q : List Nat) : Prop where
  lvl : lv.length = p.length
  lfl : lf.length = p.length
  cnt : ∀ u, u < p.length → lf.getD u 0 = (cntN p (Df u) u : Int)
  top : ∀ u, u < p.length → Top (fun f => f ∈ needTo (p.getD u default).frm ∧ f ∈ Df u) (fun f => (levelsTo p p.length).getD f 0) (lv.getD u 0)
  mem : ∀ q, q ∈ Q ↔ q < p.length ∧ q ∉ Dn ∧ cntN p (Df q) q = 0
  nodup : Q.Nodup

theorem levelsTo_getD_nonneg (p : List Nd) (k i : Nat) : 0 ≤ (levelsTo p k).getD i 0 := by
  rcases getD_mem_or (levelsTo p k) i with h | h
  · omega
  · exact (levelsTo_rg p k _ h).1
/-- All that a node needs is done: its level is known. -/
theorem Kahn.level {p : List Nd} (hv : planOk p = true) {Df : Nat → List Nat} {Dn : List Nat} {lv lf : List Int} {Q : List Nat} (hK : Kahn p Df Dn lv lf Q) {u : Nat} (hu : u < p.length) (h0 : cntN p (Df u) u = 0) : lv.getD u 0 = (levelsTo p p.length).getD u 0 := by
  have hf := frm_pos hv hu
  have h1 := (hK.top u hu).congr (S' := fun f => (f : Int) ∈ (p.getD u default).frm) fun f => by
    constructor
    · intro h; exact (mem_needTo' fun f h => (hf f h).1).1 h.1
    · intro h
      have := (mem_needTo' fun f h => (hf f h).1).2 h
      exact ⟨this, cntN_zero.1 h0 f this⟩
  have h2 := top_upOf (levelsTo p u) (p.getD u default).frm fun f h => (hf f h).1
  have h3 : Top (fun f => (f : Int) ∈ (p.getD u default).frm) (fun f => (levelsTo p p.length).getD f 0) (upOf 1 (levelsTo p u) (p.getD u default).frm) := by
    have he : ∀ f : Nat, (f : Int) ∈ (p.getD u default).frm → (levelsTo p u).getD f 0 = (levelsTo p p.length).getD f 0 := fun f hm => by
      have := hf _ hm
      exact progTo_same (by omega) (by omega)
    refine ⟨?_, h2.nn, fun f hm => by rw [← he f hm]; exact h2.ge f hm⟩
    rcases h2.is with h | ⟨f, hm, h⟩
    · exact .inl h
    · exact .inr ⟨f, hm, by rw [← he f hm]; exact h⟩
  rw [levelsTo_getD hu]
  exact h1.uniq (fun f _ => levelsTo_getD_nonneg p _ f) h3
theorem Kahn.congr {p : List Nd} {Df Df' : Nat → List Nat} {Dn : List Nat} {lv lf : List Int} {Q : List Nat} (hK : Kahn p Df Dn lv lf Q)
    (h1 : ∀ u, u < p.length → cntN p (Df' u) u = cntN p (Df u) u) (h2 : ∀ u, u < p.length → ∀ f ∈ needTo (p.getD u default).frm, (f ∈ Df u ↔ f ∈ Df' u)) : Kahn p Df' Dn lv lf Q :=
  ⟨hK.lvl, hK.lfl, fun u hu => by rw [h1 u hu]; exact hK.cnt u hu, fun u hu => (hK.top u hu).congr fun f => and_congr_right fun hf => h2 u hu f hf,
    fun q => by
      rw [hK.mem]
      refine and_congr_right fun hq => and_congr_right fun _ => ?_
      rw [h1 q hq], hK.nodup⟩
theorem Kahn.take {p : List Nd} {Df : Nat → List Nat} {D : List Nat} {lv lf : List Int} {x : Nat} {Q : List Nat} (hK : Kahn p Df D lv lf (x :: Q)) : Kahn p Df (D ++ [x]) lv lf Q := by
  have hn := List.nodup_cons.1 hK.nodup
  refine ⟨hK.lvl, hK.lfl, hK.cnt, hK.top, fun q => ?_, hn.2⟩
  have := hK.mem q
  rw [List.mem_cons] at this
  rw [List.mem_append, List.mem_singleton]
  constructor
  · intro h
    have h2 := this.1 (.inr h)
    exact ⟨h2.1, fun h3 => h3.elim h2.2.1 fun h4 => hn.1 (h4 ▸ h), h2.2.2⟩
  · rintro ⟨g1, g2, g3⟩
    rcases this.2 ⟨g1, fun h => g2 (.inl h), g3⟩ with h | h
    · exact absurd (.inr h) g2
    · exact h
theorem getD_setI {l : List Int} {i j : Nat} {a : Int} (hi : i < l.length) : (l.set i a).getD j 0 = if i = j then a else l.getD j 0 := by
  rw [List.getD_eq_getElem?_getD, List.getElem?_set]
  by_cases h : i = j
  · simp [h, h ▸ hi]
  · simp [h, List.getD_eq_getElem?_getD]
/-- A user of the node that was taken. -/
theorem Kahn.step {p : List Nd} {Df : Nat → List Nat} {Dn D : List Nat} {lv lf : List Int} {Q : List Nat} {x u : Nat} (hK : Kahn p Df Dn lv lf Q) (hu : u < p.length) (hDf : Df u = D) (hxD : x ∉ D) (hux : x ∈ needTo (p.getD u default).frm) (hDn : u ∉ Dn) :
    Kahn p (fun a => if a = u then D ++ [x] else Df a) Dn (lv.set u (max (lv.getD u 0) ((levelsTo p p.length).getD x 0 + 1))) (lf.set u (lf.getD u 0 - 1)) (if cntN p (D ++ [x]) u = 0 then Q ++ [u] else Q) := by
  have hl := hK.lvl
  have hf := hK.lfl
  have hc := cntN_less (p := p) (u := u) hxD hux
  refine ⟨by simp [hl], by simp [hf], fun a ha => ?_, fun a ha => ?_, fun q => ?_, ?_⟩
  · rw [getD_setI (by omega)]
    by_cases hau : a = u
    · subst hau
      rw [if_pos rfl, if_pos rfl, hK.cnt a ha, hDf]; omega
    · rw [if_neg (fun h => hau h.symm), if_neg hau]; exact hK.cnt a ha
  · rw [getD_setI (by omega)]
    by_cases hau : a = u
    · subst hau
      rw [if_pos rfl]
      simp only [if_true]
      refine ((hK.top a ha).add x (levelsTo_getD_nonneg p _ x)).congr fun f => ?_
      rw [hDf, List.mem_append, List.mem_singleton]
      constructor
      · rintro (⟨h1, h2⟩ | rfl)
        · exact ⟨h1, .inl h2⟩
        · exact ⟨hux, .inr rfl⟩
      · rintro ⟨h1, h2 | h2⟩
        · exact .inl ⟨h1, h2⟩
        · exact .inr h2
    · rw [if_neg (show ¬ u = a from fun h => hau h.symm)]
      simp only [if_neg hau]
      exact hK.top a ha
  · have hm := hK.mem q
    by_cases hqu : q = u
    · subst hqu
      simp only [if_true]
      have hnq : q ∉ Q := fun h => by
        have := (hm.1 h).2.2
        rw [hDf] at this
        omega
      split
      · rename_i h0
        simp only [List.mem_append, List.mem_singleton, or_true, true_iff]
        exact ⟨hu, hDn, h0⟩
      · rename_i h0
        constructor
        · exact fun h => absurd h hnq
        · exact fun h => absurd h.2.2 h0
    · simp only [if_neg hqu]
      rw [← hm]
      split <;> simp [hqu]
  · split
    · rw [List.nodup_append]
      refine ⟨hK.nodup, by simp, fun a ha b hb he => ?_⟩
      rw [List.mem_singleton] at hb
      subst hb
      subst he
      have := ((hK.mem a).1 ha).2.2
      rw [hDf] at this
      omega
    · exact hK.nodup
/-- At first. -/
theorem Kahn.start {p : List Nd} {lf : List Int} {Q : List Nat} (hlf : lf = (List.range p.length).map fun (u : Nat) => ((needTo (p.getD u default).frm).length : Int)) (hQ : Q = (List.range p.length).filter fun u => decide ((needTo (p.getD u default).frm).length = 0)) :
    Kahn p (fun _ => []) [] (List.replicate p.length 0) lf Q := by
  subst hlf
  subst hQ
  refine ⟨by simp, by simp, fun u hu => ?_, fun u hu => ?_, fun q => ?_, List.nodup_range.filter _⟩
  · rw [cntN_nil, List.getD_eq_getElem?_getD, List.getElem?_map, List.getElem?_range hu]; rfl
  · rw [show (List.replicate p.length (0 : Int)).getD u 0 = 0 by rw [List.getD_eq_getElem?_getD, List.getElem?_replicate, if_pos hu]; rfl]
    exact Top.none fun f h => by simp at h
  · simp only [List.mem_filter, List.mem_range, decide_eq_true_eq, cntN_nil, List.not_mem_nil, not_false_eq_true, true_and]
/-- At last. -/
theorem Kahn.all {p : List Nd} (hv : planOk p = true) {D : List Nat} {lv lf : List Int} (hK : Kahn p (fun _ => D) D lv lf []) : ∀ u, u < p.length → u ∈ D := by
  intro u
  induction u using Nat.strongRecOn with
  | _ u ih =>
    intro hu
    have hf := frm_pos hv hu
    by_cases h : u ∈ D
    · exact h
    · have := (hK.mem u).2 ⟨hu, h, cntN_zero.2 fun f hm => by
        have h1 := hf _ ((mem_needTo' fun f h => (hf f h).1).1 hm)
        exact ih f (by omega) (by omega)⟩
      simp at this
theorem Kahn.done {p : List Nd} (hv : planOk p = true) {D : List Nat} {lv lf : List Int} (hK : Kahn p (fun _ => D) D lv lf []) (hD : ∀ d ∈ D, d < p.length ∧ cntN p D d = 0) : lv = levelsTo p p.length := by
  have hl := hK.lvl
  refine List.ext_getElem (by rw [hl, levelsTo_len]) fun i h1 h2 => ?_
  have hi : i < p.length := by omega
  have := hK.level hv hi (hD i (hK.all hv i hi)).2
  rw [getD_elem h1, getD_elem h2] at this
  exact this
theorem mem_users_needs {p : List Nd} (hv : planOk p = true) {x u : Nat} (hu : u < p.length) : u ∈ usersTo p p.length x ↔ x ∈ needTo (p.getD u default).frm := by
  rw [mem_usersTo, mem_needTo' fun f h => (frm_pos hv hu f h).1]
  exact ⟨fun h => h.2, fun h => ⟨hu, h⟩⟩
end Go.Proofs.Ytmcedghgincaaaa
