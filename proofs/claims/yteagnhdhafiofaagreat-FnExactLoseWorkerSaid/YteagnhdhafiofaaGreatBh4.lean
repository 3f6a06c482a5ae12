/- Plain: crews that are valid. No program in sight. -/
import Derived.Test.YteagnhdhafiofaaGreatBh3
import Derived.Test.YteagnhdhafiofaaGreatSlL
namespace Go.Proofs.YteagnhdhafiofaaGreat

/-- Workers: deques, counts, what is done, rows. -/
structure Cr where
  dq : List (List Int)
  ct : List Int
  dn : List Int
  rw : List (List Int)

/-- A node comes behind all that it needs, once. -/
def ordAt (p : List Nd) (dn : List Int) (i : Nat) : Bool :=
  decide (0 ≤ dn.getD i 0 ∧ dn.getD i 0 < (p.length : Int)) && decide (dn.getD i 0 ∉ dn.take i) && (p.getD (dn.getD i 0).toNat default).frm.all fun f => decide (f ∈ dn.take i)
def orderB (p : List Nd) (dn : List Int) : Bool := (List.range dn.length).all (ordAt p dn)
/-- How many of what a node needs are not done. -/
def cntB (p : List Nd) (D : List Int) (u : Nat) : Nat := ((needTo (p.getD u default).frm).filter fun (f : Nat) => decide ((f : Int) ∉ D)).length
def cntL (p : List Nd) (D : List Int) : List Int := (List.range p.length).map fun u => ((cntB p D u : Nat) : Int)
/-- The numbers as they stand in rows. -/
def readyI (p : List Nd) (D : List Int) : List Int := (readyL p D).map fun (j : Nat) => (j : Int)
def dequesB (p : List Nd) (c : Cr) : Bool := decide (isortL c.dq.flatten = readyI p c.dn)
def rowWant (p : List Nd) (D : List Int) (i : Nat) : List Int := if (i : Int) ∈ D then (valsL p).getD i [] else []
def rowsB (p : List Nd) (c : Cr) : Bool := (List.range p.length).all fun i => decide (rowWant p c.dn i = c.rw.getD i [])
def crewOk (p : List Nd) (c : Cr) : Bool :=
  planOk p && decide (1 ≤ c.dq.length ∧ c.dq.length ≤ 4) && orderB p c.dn && decide (cntL p c.dn = c.ct) && decide (c.rw.length = p.length) && dequesB p c && rowsB p c
structure CrewOk (p : List Nd) (c : Cr) : Prop where
  plan : planOk p = true
  dq : 1 ≤ c.dq.length ∧ c.dq.length ≤ 4
  ord : orderB p c.dn = true
  ct : cntL p c.dn = c.ct
  rl : c.rw.length = p.length
  deq : isortL c.dq.flatten = readyI p c.dn
  rows : ∀ i, i < p.length → rowWant p c.dn i = c.rw.getD i []
theorem crewOk_iff (p : List Nd) (c : Cr) : crewOk p c = true ↔ CrewOk p c := by
  simp only [crewOk, dequesB, rowsB, Bool.and_eq_true, decide_eq_true_eq, List.all_eq_true, List.mem_range]
  constructor
  · rintro ⟨⟨⟨⟨⟨⟨h1, h2⟩, h3⟩, h4⟩, h5⟩, h6⟩, h7⟩
    exact ⟨h1, h2, h3, h4, h5, h6, h7⟩
  · rintro ⟨h1, h2, h3, h4, h5, h6, h7⟩
    exact ⟨⟨⟨⟨⟨⟨h1, h2⟩, h3⟩, h4⟩, h5⟩, h6⟩, h7⟩
theorem crewOk_not {p : List Nd} {c : Cr} (h : ¬ CrewOk p c) : crewOk p c = false := by
  cases hc : crewOk p c with
  | false => rfl
  | true => exact absurd ((crewOk_iff p c).1 hc) h

/-! orders -/
theorem ordAt_iff (p : List Nd) (dn : List Int) (i : Nat) : ordAt p dn i = true ↔ (0 ≤ dn.getD i 0 ∧ dn.getD i 0 < (p.length : Int)) ∧ dn.getD i 0 ∉ dn.take i ∧ ∀ f ∈ (p.getD (dn.getD i 0).toNat default).frm, f ∈ dn.take i := by
  simp only [ordAt, Bool.and_eq_true, decide_eq_true_eq, List.all_eq_true, and_assoc]
theorem orderB_iff (p : List Nd) (dn : List Int) : orderB p dn = true ↔ ∀ i, i < dn.length → ordAt p dn i = true := by
  simp only [orderB, List.all_eq_true, List.mem_range]
theorem getDI' {xs : List Int} {t : Nat} (h : t < xs.length) : xs.getD t 0 = xs[t] := by simp [List.getD_eq_getElem?_getD, List.getElem?_eq_getElem h]
theorem order_mem {p : List Nd} {dn : List Int} (h : orderB p dn = true) {a : Int} (ha : a ∈ dn) : 0 ≤ a ∧ a < (p.length : Int) := by
  obtain ⟨i, hi, rfl⟩ := List.getElem_of_mem ha
  have := ((ordAt_iff p dn i).1 ((orderB_iff p dn).1 h i hi)).1
  rw [getDI' hi] at this
  exact this
theorem order_needs {p : List Nd} {dn : List Int} (h : orderB p dn = true) {a : Int} (ha : a ∈ dn) : ∀ f ∈ (p.getD a.toNat default).frm, f ∈ dn := by
  obtain ⟨i, hi, rfl⟩ := List.getElem_of_mem ha
  have := ((ordAt_iff p dn i).1 ((orderB_iff p dn).1 h i hi)).2.2
  rw [getDI' hi] at this
  exact fun f hf => List.mem_of_mem_take (this f hf)
theorem order_nodup {p : List Nd} {dn : List Int} (h : orderB p dn = true) : dn.Nodup := by
  refine List.pairwise_iff_getElem.2 fun i j hi hj hij he => ?_
  have := ((ordAt_iff p dn j).1 ((orderB_iff p dn).1 h j hj)).2.1
  rw [getDI' hj] at this
  refine this (List.mem_of_getElem? (i := i) ?_)
  rw [List.getElem?_take_of_lt hij, List.getElem?_eq_getElem hi, he]
theorem nodup_lenI {D : List Int} {n : Nat} (hn : D.Nodup) (h : ∀ a ∈ D, 0 ≤ a ∧ a < (n : Int)) : D.length ≤ n := by
  have := hn.length_le_of_subset (l₂ := (List.range n).map fun (j : Nat) => (j : Int)) fun a ha => by
    have := h a ha
    exact List.mem_map.2 ⟨a.toNat, List.mem_range.2 (by omega), by omega⟩
  simpa using this

/-! counts -/
theorem filter_more {D : List Int} {a : Nat} (ha : (a : Int) ∉ D) : ∀ {l : List Nat}, l.Nodup →
    (l.filter fun (f : Nat) => decide ((f : Int) ∉ D)).length = (l.filter fun (f : Nat) => decide ((f : Int) ∉ D ++ [(a : Int)])).length + (if a ∈ l then 1 else 0)
  | [], _ => rfl
  | x :: l, hn => by
    rw [List.nodup_cons] at hn
    have ih := filter_more ha hn.2
    by_cases hx : x = a
    · subst hx
      rw [List.filter_cons, if_pos (by simpa using ha), List.filter_cons, if_neg (by simp), if_pos (by simp), List.length_cons, ih, if_neg hn.1]
    · have hm : (a ∈ x :: l) = (a ∈ l) := by simp [Ne.symm hx]
      have he : decide ((x : Int) ∉ D ++ [(a : Int)]) = decide ((x : Int) ∉ D) := decide_eq_decide.2 (by
        rw [List.mem_append, List.mem_singleton]
        have : ¬ (x : Int) = (a : Int) := by omega
        simp [this])
      rw [List.filter_cons, List.filter_cons, he]
      simp only [hm]
      split
      · rw [List.length_cons, List.length_cons, ih]; omega
      · exact ih
theorem cntB_snoc {p : List Nd} {D : List Int} {a u : Nat} (ha : (a : Int) ∉ D) : cntB p D u = cntB p (D ++ [(a : Int)]) u + (if a ∈ needTo (p.getD u default).frm then 1 else 0) := filter_more ha (needTo_nodup _)
theorem cntB_le (p : List Nd) (D : List Int) (u : Nat) : cntB p D u ≤ (needTo (p.getD u default).frm).length := List.length_filter_le _ _
theorem cntB_nil (p : List Nd) (u : Nat) : cntB p [] u = (needTo (p.getD u default).frm).length := by simp [cntB]
theorem cntL_len (p : List Nd) (D : List Int) : (cntL p D).length = p.length := by simp [cntL]
theorem cntL_getD {p : List Nd} {D : List Int} {u : Nat} (h : u < p.length) : (cntL p D).getD u 0 = ((cntB p D u : Nat) : Int) := by
  rw [cntL, List.getD_eq_getElem?_getD, List.getElem?_map, List.getElem?_range h]; rfl
theorem cntL_get {p : List Nd} {D : List Int} {u : Nat} (h : u < (cntL p D).length) : (cntL p D)[u] = ((cntB p D u : Nat) : Int) := by simp [cntL]
theorem cntB_zero {p : List Nd} (hv : planOk p = true) {D : List Int} {u : Nat} (hu : u < p.length) : cntB p D u = 0 ↔ ∀ f ∈ (p.getD u default).frm, f ∈ D := by
  have hp := frm_pos hv hu
  rw [cntB, List.length_eq_zero_iff, List.filter_eq_nil_iff]
  constructor
  · intro h f hf
    have h1 := hp f hf
    have := h f.toNat ((mem_needTo' fun f h => (hp f h).1).2 (by rw [Int.toNat_of_nonneg h1.1]; exact hf))
    rw [Int.toNat_of_nonneg h1.1] at this
    simpa using this
  · intro h x hx
    have := h _ ((mem_needTo' fun f h => (hp f h).1).1 hx)
    simpa using this
/-- What is done next may be taken out of the counts. -/
theorem ord_step {p : List Nd} (hv : planOk p = true) {dn : List Int} {k : Nat} (hk : k < dn.length) (ho : ordAt p dn k = true) :
    doneOk p (cntL p (dn.take k)) dn[k] = true ∧ doneC p (cntL p (dn.take k)) dn[k] = cntL p (dn.take (k + 1)) := by
  obtain ⟨h1, h2, _⟩ := (ordAt_iff p dn k).1 ho
  rw [getDI' hk] at h1 h2
  obtain ⟨a, ha⟩ := Int.eq_ofNat_of_zero_le h1.1
  rw [ha] at h1 h2 ⊢
  have htk : dn.take (k + 1) = dn.take k ++ [(a : Int)] := by rw [List.take_succ_eq_append_getElem hk, ha]
  refine ⟨doneOk_of hv h1 (cntL_len _ _) fun i hi => ?_, ?_⟩
  · rw [cntL_getD hi]
    have h3 := cntB_le p (dn.take k) i
    refine ⟨by omega, fun hm => ?_⟩
    have h4 := cntB_snoc (p := p) (u := i) h2
    rw [if_pos ((mem_needTo' fun f h => (frm_pos hv hi f h).1).2 hm)] at h4
    omega
  · refine List.map_congr_left fun i hi => ?_
    have hi' := List.mem_range.1 hi
    rw [cntL_getD hi', htk]
    have h4 := cntB_snoc (p := p) (u := i) h2
    by_cases hm : (a : Int) ∈ (p.getD i default).frm
    · rw [if_pos ((mem_needTo' fun f h => (frm_pos hv hi' f h).1).2 hm)] at h4
      rw [if_pos hm]; omega
    · rw [if_neg (fun h => hm ((mem_needTo' fun f h => (frm_pos hv hi' f h).1).1 h))] at h4
      rw [if_neg hm]; omega

/-! deques -/
theorem readyI_asc (p : List Nd) (D : List Int) : (readyI p D).Pairwise (· < ·) := by
  have h : (readyL p D).Pairwise (· < ·) := List.pairwise_lt_range.filter _
  exact List.pairwise_map.2 (h.imp fun hab => by omega)
theorem readyI_nodup (p : List Nd) (D : List Int) : (readyI p D).Nodup := (readyI_asc p D).imp fun h => by omega
theorem readyI_len (p : List Nd) (D : List Int) : (readyI p D).length = (readyL p D).length := by simp [readyI]
theorem readyI_len_le (p : List Nd) (D : List Int) : (readyI p D).length ≤ p.length := by rw [readyI_len]; exact readyL_len p D
theorem mem_readyI {p : List Nd} {D : List Int} {a : Int} : a ∈ readyI p D ↔ (0 ≤ a ∧ a < (p.length : Int)) ∧ a ∉ D ∧ ∀ f ∈ (p.getD a.toNat default).frm, f ∈ D := by
  unfold readyI
  constructor
  · intro h
    obtain ⟨i, hi, rfl⟩ := List.mem_map.1 h
    have := mem_readyL.1 hi
    exact ⟨by omega, this.2.1, by simpa using this.2.2⟩
  · rintro ⟨h1, h2, h3⟩
    exact List.mem_map.2 ⟨a.toNat, mem_readyL.2 ⟨by omega, by rw [Int.toNat_of_nonneg h1.1]; exact h2, h3⟩, by omega⟩
theorem nodup_perm {A B : List Int} (hA : A.Nodup) (hs : ∀ a ∈ A, a ∈ B) (hl : B.length ≤ A.length) : A.Perm B := by
  induction A generalizing B with
  | nil => rw [List.eq_nil_of_length_eq_zero (Nat.le_zero.1 hl)]
  | cons a A ih =>
    rw [List.nodup_cons] at hA
    have ha := hs a (by simp)
    have hp := List.perm_cons_erase ha
    refine .trans (.cons a (ih hA.2 (fun x hx => ?_) ?_)) hp.symm
    · have hxa : x ≠ a := fun h => hA.1 (h ▸ hx)
      exact (List.mem_erase_of_ne hxa).2 (hs x (by simp [hx]))
    · have := hp.length_eq
      simp at this hl
      omega
theorem isort_eq {A R : List Int} (hR : R.Pairwise (· ≤ ·)) : isortL A = R ↔ A.Perm R := by
  constructor
  · rintro rfl; exact (isort_perm A).symm
  · intro h
    exact List.Perm.eq_of_pairwise (le := fun a b => a ≤ b) (fun a b _ _ h1 h2 => Int.le_antisymm h1 h2) (isort_sorted A) hR ((isort_perm A).trans h)
theorem readyI_le (p : List Nd) (D : List Int) : (readyI p D).Pairwise (· ≤ ·) := (readyI_asc p D).imp fun h => by omega
/-- The reference counts each ready node. -/
theorem deques_eq (p : List Nd) (c : Cr) : dequesB p c = ((readyI p c.dn).all (fun a => decide (c.dq.flatten.count a = 1)) && decide (c.dq.flatten.length = (readyI p c.dn).length)) := by
  have hiff : isortL c.dq.flatten = readyI p c.dn ↔ (∀ a ∈ readyI p c.dn, c.dq.flatten.count a = 1) ∧ c.dq.flatten.length = (readyI p c.dn).length := by
    rw [isort_eq (readyI_le p c.dn)]
    constructor
    · intro h
      refine ⟨fun a ha => ?_, h.length_eq⟩
      rw [h.count_eq, (readyI_nodup p c.dn).count, if_pos ha]
    · rintro ⟨h1, h2⟩
      exact (nodup_perm (readyI_nodup p c.dn) (fun a ha => List.count_pos_iff.1 (by rw [h1 a ha]; exact Nat.one_pos)) (by omega)).symm
  unfold dequesB
  by_cases h : isortL c.dq.flatten = readyI p c.dn
  · rw [decide_eq_true h]
    obtain ⟨h1, h2⟩ := hiff.1 h
    rw [List.all_eq_true.2 (fun a ha => decide_eq_true (h1 a ha)), decide_eq_true h2]; rfl
  · rw [decide_eq_false h]
    by_cases h1 : ∀ a ∈ readyI p c.dn, c.dq.flatten.count a = 1
    · rw [decide_eq_false (fun h2 => h (hiff.2 ⟨h1, h2⟩)), Bool.and_false]
    · have : (readyI p c.dn).all (fun a => decide (c.dq.flatten.count a = 1)) = false := by
        cases hb : (readyI p c.dn).all (fun a => decide (c.dq.flatten.count a = 1)) with
        | false => rfl
        | true => exact absurd (fun a ha => of_decide_eq_true (List.all_eq_true.1 hb a ha)) h1
      rw [this, Bool.false_and]
theorem CrewOk.perm {p : List Nd} {c : Cr} (h : CrewOk p c) : c.dq.flatten.Perm (readyI p c.dn) := (isort_eq (readyI_le p c.dn)).1 h.deq
theorem CrewOk.nodup {p : List Nd} {c : Cr} (h : CrewOk p c) : c.dq.flatten.Nodup := h.perm.symm.nodup (readyI_nodup p c.dn)
theorem CrewOk.mem {p : List Nd} {c : Cr} (h : CrewOk p c) {a : Int} : a ∈ c.dq.flatten ↔ a ∈ readyI p c.dn := h.perm.mem_iff
theorem CrewOk.size {p : List Nd} {c : Cr} (h : CrewOk p c) : c.dq.flatten.length = (readyI p c.dn).length := h.perm.length_eq

/-! who has a node -/
/-- The last worker that has a node. -/
def lastW (dq : List (List Int)) (a : Int) : Nat → Int
  | 0 => -1
  | w + 1 => if a ∈ dq.getD w [] then (w : Int) else lastW dq a w
/-- The first worker that has a node, from the k-th one on. -/
def firstW (dq : List (List Int)) (a : Int) : Int := match (List.range dq.length).find? (fun w => decide (a ∈ dq.getD w [])) with
  | some w => (w : Int)
  | none => -1
theorem lastW_no {dq : List (List Int)} {a : Int} : ∀ {n : Nat}, (∀ w, w < n → a ∉ dq.getD w []) → lastW dq a n = -1
  | 0, _ => rfl
  | n + 1, h => by rw [lastW, if_neg (h n (by omega))]; exact lastW_no fun w hw => h w (by omega)
theorem lastW_at {dq : List (List Int)} {a : Int} {k : Nat} (hk : a ∈ dq.getD k []) : ∀ {n : Nat}, k < n → (∀ w, k < w → w < n → a ∉ dq.getD w []) → lastW dq a n = (k : Int)
  | 0, h, _ => by omega
  | n + 1, h, hn => by
    rw [lastW]
    by_cases hkn : k = n
    · subst hkn; rw [if_pos hk]
    · rw [if_neg (hn n (by omega) (by omega))]
      exact lastW_at hk (by omega) fun w h1 h2 => hn w h1 (by omega)
theorem getLDV {rows : List (List Int)} {t : Nat} (h : t < rows.length) : rows.getD t [] = rows[t] := by simp [List.getD_eq_getElem?_getD, List.getElem?_eq_getElem h]
/-- No node is with two workers. -/
theorem flat_once : ∀ {dq : List (List Int)} {a : Int} {i j : Nat}, dq.flatten.Nodup → a ∈ dq.getD i [] → a ∈ dq.getD j [] → i = j
  | [], _, i, _, _, h, _ => by simp at h
  | d :: dq, a, 0, 0, _, _, _ => rfl
  | d :: dq, a, 0, j + 1, hn, hi, hj => by
    rw [List.flatten_cons, List.nodup_append] at hn
    have h1 : a ∈ dq.flatten := by
      have hj' : a ∈ dq.getD j [] := by simpa using hj
      rcases Nat.lt_or_ge j dq.length with h | h
      · rw [getLDV h] at hj'
        exact List.mem_flatten.2 ⟨_, List.getElem_mem h, hj'⟩
      · rw [List.getD_eq_getElem?_getD, List.getElem?_eq_none h] at hj'; simp at hj'
    exact absurd rfl (hn.2.2 a (by simpa using hi) a h1)
  | d :: dq, a, i + 1, 0, hn, hi, hj => by
    rw [List.flatten_cons, List.nodup_append] at hn
    have h1 : a ∈ dq.flatten := by
      have hi' : a ∈ dq.getD i [] := by simpa using hi
      rcases Nat.lt_or_ge i dq.length with h | h
      · rw [getLDV h] at hi'
        exact List.mem_flatten.2 ⟨_, List.getElem_mem h, hi'⟩
      · rw [List.getD_eq_getElem?_getD, List.getElem?_eq_none h] at hi'; simp at hi'
    exact absurd rfl (hn.2.2 a (by simpa using hj) a h1)
  | d :: dq, a, i + 1, j + 1, hn, hi, hj => by
    rw [List.flatten_cons, List.nodup_append] at hn
    have := flat_once hn.2.1 (show a ∈ dq.getD i [] by simpa using hi) (show a ∈ dq.getD j [] by simpa using hj)
    omega
theorem mem_flatD {dq : List (List Int)} {a : Int} : a ∈ dq.flatten ↔ ∃ w, w < dq.length ∧ a ∈ dq.getD w [] := by
  constructor
  · intro h
    obtain ⟨l, hl, ha⟩ := List.mem_flatten.1 h
    obtain ⟨w, hw, rfl⟩ := List.getElem_of_mem hl
    exact ⟨w, hw, by rw [getLDV hw]; exact ha⟩
  · rintro ⟨w, hw, ha⟩
    rw [getLDV hw] at ha
    exact List.mem_flatten.2 ⟨_, List.getElem_mem hw, ha⟩
/-- From which deque a worker takes. -/
def fromW (dq : List (List Int)) (w : Nat) : Int := match (List.range dq.length).find? (fun s => decide (dq.getD ((w + s) % dq.length) [] ≠ [])) with
  | some s => (((w + s) % dq.length : Nat) : Int)
  | none => -1
end Go.Proofs.YteagnhdhafiofaaGreat

/- Walks: lists that are searched, compared, joined, sorted; orders. -/
namespace Go.Proofs.YteagnhdhafiofaaGreat
open Go.RowKit

section
variable {h : GH} {Ls : List Heaplet} {w : World}

theorem index_ok (hH : H w h Ls) {av : Value} {xs : List Int} (hA : RdL h Ls av xs) (n : Int) : Rets Tryz.prog 93 #[av, .int .i64 n] w fun v w' => (∃ k : Int, v = .int .i64 k ∧ (0 ≤ k ↔ n ∈ xs)) ∧ H w' h Ls := by
  have hal := hA.sl.lim
  refine rets_enter Tryz.func93 rfl Tryz.ntmps93 (by simp) ?_
  refine WT_seq ?_
  refine WT_region ?_
  refine WL_v rfl (ov_assign rfl) ?_
  refine WL_nil ?_
  refine WT_seq ?_
  refine WT_seq ?_
  refine WT_region ?_
  refine WL_v rfl (ov_move rfl) ?_
  refine WL_v rfl (ov_len rfl hA.sl st_sl_int) ?_
  refine WL_v rfl (ov_move rfl) ?_
  refine WL_nil ?_
  refine WT_block ?_
  refine WT_while (fun s : Nat => [(0, av), (1, .int .i64 n), (6, av), (7, .int .i64 (xs.length : Int)), (8, .int .i64 (s : Int))]) (fun k w => k ≤ xs.length ∧ (∀ j (_ : j < k) (h1 : j < xs.length), xs[j] ≠ n) ∧ H w h Ls) (fun k => xs.length - k) 0 (by repeat (first | exact trivial | refine ⟨rfl, ?_⟩)) ⟨by omega, by omega, hH⟩ ?_
  clear hH
  rintro k w2 ⟨hk, hall, hH1⟩ again
  refine WT_seq ?_
  refine WT_region ?_
  refine WL_v rfl (ov_lss rfl rfl) ?_
  refine WL_nil ?_
  refine WT_seq ?_
  refine WT_cond rfl (fun hc => ?_) (fun hc => ?_)
  · skip
    first | with_reducible replace hc := of_decide_eq_true hc | with_reducible replace hc := bn_T hc | with_reducible replace hc := bb_T hc | skip
    have hkx : k < xs.length := by omega
    refine WT_skip ?_
    refine WT_seq ?_
    refine WT_block ?_
    refine WT_seq ?_
    refine WT_region ?_
    refine WL_v rfl (ov_move rfl) ?_
    refine WL_v rfl (ov_assign rfl) ?_
    refine WL_nil ?_
    refine WT_seq ?_
    refine WT_region ?_
    refine WL_v rfl (ov_move rfl) ?_
    refine WL_v rfl (ov_move rfl) ?_
    refine WL_v rfl (ov_move rfl) ?_
    refine WL_v rfl (ov_index rfl rfl st_sl_int hA.sl hkx) ?_
    refine WL_v rfl (ov_load rfl one_int (hA.cell hH1 hkx)) ?_
    refine WL_v rfl (ov_eql rfl rfl) ?_
    refine WL_nil ?_
    refine WT_cond rfl (fun heq => ?_) (fun heq => ?_)
    · skip
      first | with_reducible replace heq := of_decide_eq_true heq | with_reducible replace heq := bn_T heq | with_reducible replace heq := bb_T heq | skip
      refine WT_seq ?_
      refine WT_region ?_
      refine WL_v rfl (ov_move rfl) ?_
      refine WL_v rfl (ov_assign rfl) ?_
      refine WL_nil ?_
      exact WT_ret1 Tryz.func93 Tryz.results93 rfl ⟨⟨_, rfl, ⟨fun _ => heq ▸ List.getElem_mem hkx, fun _ => by omega⟩⟩, hH1⟩
    first | with_reducible replace heq := of_decide_eq_false heq | with_reducible replace heq := bn_F heq | with_reducible replace heq := bb_F heq | skip
    refine WT_skip ?_
    refine WT_inBlock ?_
    refine WT_region ?_
    refine WL_v rfl (ov_add rfl rfl (by omega)) ?_
    refine WL_v rfl (ov_move rfl) ?_
    refine WL_nil ?_
    refine again (k + 1) _ _ (by omega) (by repeat (first | exact trivial | refine ⟨rfl, ?_⟩)) ⟨by omega, fun j hj h1 => ?_, hH1⟩
    rcases Nat.lt_or_ge j k with h3 | h3
    · exact hall j h3 h1
    · obtain rfl : j = k := by omega
      exact fun hh => heq hh.symm
  first | with_reducible replace hc := of_decide_eq_false hc | with_reducible replace hc := bn_F hc | with_reducible replace hc := bb_F hc | skip
  obtain rfl : k = xs.length := by omega
  refine WT_exit rfl ?_
  refine WT_seq ?_
  refine WT_region ?_
  refine WL_v rfl (ov_assign rfl) ?_
  refine WL_nil ?_
  exact WT_ret1 Tryz.func93 Tryz.results93 rfl ⟨⟨_, rfl, ⟨fun hh => by omega, fun hm => by obtain ⟨j, hj, he⟩ := List.mem_iff_getElem.1 hm; exact absurd he (hall j hj hj)⟩⟩, hH1⟩
theorem contains_ok (hH : H w h Ls) {av : Value} {xs : List Int} (hA : RdL h Ls av xs) (n : Int) : Rets Tryz.prog 70 #[av, .int .i64 n] w fun v w' => v = .bool (decide (n ∈ xs)) ∧ H w' h Ls := by
  refine rets_enter Tryz.func70 rfl Tryz.ntmps70 (by simp) ?_
  refine WT_seq ?_
  refine WT_region ?_
  refine WL_v rfl (ov_assign rfl) ?_
  refine WL_nil ?_
  refine WT_seq ?_
  refine WT_region ?_
  refine WL_v rfl (ov_move rfl) ?_
  refine WL_v rfl (ov_move rfl) ?_
  refine WL_call rfl rfl cf_slices_Index_sl_int_int (index_ok hH hA n) ?_; rintro _ w1 ⟨⟨k, rfl, hk⟩, hH1⟩
  refine WL_v rfl (ov_geq rfl rfl) ?_
  refine WL_v rfl (ov_assign rfl) ?_
  refine WL_nil ?_
  exact WT_ret1 Tryz.func70 Tryz.results70 rfl ⟨congrArg Value.bool (decide_eq_decide.2 hk), hH1⟩
theorem equal_ok (hH : H w h Ls) {av bv : Value} {xs ys : List Int} (hA : RdL h Ls av xs) (hB : RdL h Ls bv ys) : Rets Tryz.prog 82 #[av, bv] w fun v w' => v = .bool (decide (xs = ys)) ∧ H w' h Ls := by
  have hal := hA.sl.lim
  refine rets_enter Tryz.func82 rfl Tryz.ntmps82 (by simp) ?_
  refine WT_seq ?_
  refine WT_region ?_
  refine WL_v rfl (ov_assign rfl) ?_
  refine WL_nil ?_
  refine WT_seq ?_
  refine WT_seq ?_
  refine WT_region ?_
  refine WL_v rfl (ov_move rfl) ?_
  refine WL_v rfl (ov_len rfl hA.sl st_sl_int) ?_
  refine WL_v rfl (ov_move rfl) ?_
  refine WL_v rfl (ov_len rfl hB.sl st_sl_int) ?_
  refine WL_v rfl (ov_neq rfl rfl) ?_
  refine WL_nil ?_
  refine WT_cond rfl (fun hne => ?_) (fun hne => ?_)
  · skip
    first | with_reducible replace hne := of_decide_eq_true hne | with_reducible replace hne := bn_T hne | with_reducible replace hne := bb_T hne | skip
    refine WT_seq ?_
    refine WT_region ?_
    refine WL_v rfl (ov_assign rfl) ?_
    refine WL_nil ?_
    exact WT_ret1 Tryz.func82 Tryz.results82 rfl ⟨congrArg Value.bool (decide_eq_false fun h => by subst h; exact hne rfl).symm, hH⟩
  first | with_reducible replace hne := of_decide_eq_false hne | with_reducible replace hne := bn_F hne | with_reducible replace hne := bb_F hne | skip
  have hlen : xs.length = ys.length := by omega
  refine WT_skip ?_
  refine WT_seq ?_
  refine WT_seq ?_
  refine WT_region ?_
  refine WL_v rfl (ov_move rfl) ?_
  refine WL_v rfl (ov_len rfl hA.sl st_sl_int) ?_
  refine WL_v rfl (ov_move rfl) ?_
  refine WL_nil ?_
  refine WT_block ?_
  refine WT_while (fun s : Nat => [(0, av), (1, bv), (11, av), (12, .int .i64 (xs.length : Int)), (13, .int .i64 (s : Int))]) (fun k w => k ≤ xs.length ∧ (∀ j (_ : j < k) (h1 : j < xs.length) (h2 : j < ys.length), xs[j] = ys[j]) ∧ H w h Ls) (fun k => xs.length - k) 0 (by repeat (first | exact trivial | refine ⟨rfl, ?_⟩)) ⟨by omega, by omega, hH⟩ ?_
  clear hH
  rintro k w2 ⟨hk, hall, hH1⟩ again
  refine WT_seq ?_
  refine WT_region ?_
  refine WL_v rfl (ov_lss rfl rfl) ?_
  refine WL_nil ?_
  refine WT_seq ?_
  refine WT_cond rfl (fun hc => ?_) (fun hc => ?_)
  · skip
    first | with_reducible replace hc := of_decide_eq_true hc | with_reducible replace hc := bn_T hc | with_reducible replace hc := bb_T hc | skip
    have hkx : k < xs.length := by omega
    have hky : k < ys.length := by omega
    refine WT_skip ?_
    refine WT_seq ?_
    refine WT_block ?_
    refine WT_seq ?_
    refine WT_region ?_
    refine WL_v rfl (ov_move rfl) ?_
    refine WL_v rfl (ov_assign rfl) ?_
    refine WL_nil ?_
    refine WT_seq ?_
    refine WT_quiet mixed (by kernel_rfl) hH1 ?_
    clear hH1
    refine WQ_v rfl (fun _ _ => ov_move rfl) ?_
    refine WQ_v rfl (fun _ _ => ov_move rfl) ?_
    refine WQ_v rfl (fun _ _ => ov_index rfl rfl st_sl_int hA.sl hkx) ?_
    refine WQ_v rfl (fun _ hH => ov_load rfl one_int (hA.cell hH hkx)) ?_
    refine WQ_v rfl (fun _ _ => ov_move rfl) ?_
    refine WQ_v rfl (fun _ _ => ov_move rfl) ?_
    refine WQ_v rfl (fun _ _ => ov_index rfl rfl st_sl_int hB.sl hky) ?_
    refine WQ_v rfl (fun _ hH => ov_load rfl one_int (hB.cell hH hky)) ?_
    refine WQ_v rfl (fun _ _ => ov_neq rfl rfl) ?_
    refine WQ_nil ?_
    intro w3 hH1
    refine WT_cond rfl (fun hne => ?_) (fun hne => ?_)
    · skip
      first | with_reducible replace hne := of_decide_eq_true hne | with_reducible replace hne := bn_T hne | with_reducible replace hne := bb_T hne | skip
      refine WT_seq ?_
      refine WT_region ?_
      refine WL_v rfl (ov_assign rfl) ?_
      refine WL_nil ?_
      exact WT_ret1 Tryz.func82 Tryz.results82 rfl ⟨congrArg Value.bool (decide_eq_false fun h => by subst h; exact hne rfl).symm, hH1⟩
    first | with_reducible replace hne := of_decide_eq_false hne | with_reducible replace hne := bn_F hne | with_reducible replace hne := bb_F hne | skip
    refine WT_skip ?_
    refine WT_inBlock ?_
    refine WT_region ?_
    refine WL_v rfl (ov_add rfl rfl (by omega)) ?_
    refine WL_v rfl (ov_move rfl) ?_
    refine WL_nil ?_
    refine again (k + 1) _ _ (by omega) (by repeat (first | exact trivial | refine ⟨rfl, ?_⟩)) ⟨by omega, fun j hj h1 h2 => ?_, hH1⟩
    rcases Nat.lt_or_ge j k with h3 | h3
    · exact hall j h3 h1 h2
    · obtain rfl : j = k := by omega
      exact hne
  first | with_reducible replace hc := of_decide_eq_false hc | with_reducible replace hc := bn_F hc | with_reducible replace hc := bb_F hc | skip
  obtain rfl : k = xs.length := by omega
  refine WT_exit rfl ?_
  refine WT_seq ?_
  refine WT_region ?_
  refine WL_v rfl (ov_assign rfl) ?_
  refine WL_nil ?_
  exact WT_ret1 Tryz.func82 Tryz.results82 rfl ⟨congrArg Value.bool (decide_eq_true (List.ext_getElem hlen fun j h1 h2 => hall j h1 h1 h2)).symm, hH1⟩

theorem grow_ok (hH : H w h Ls) {n : Nat} (hn : n ≤ 1000000000) : Rets Tryz.prog 106 #[.slice none 0 0, .int .i64 (n : Int)] w fun v w' => ∃ X, IRow X 3 v [] ∧ H w' h (X :: Ls) := by
  have hnil : Sl (.slice none 0 0) 0 := (IRow.nil 3).sl
  refine rets_enter Tryz.func106 rfl Tryz.ntmps106 (by simp) ?_
  refine WT_seq ?_
  refine WT_region ?_
  refine WL_v rfl (ov_assign rfl) ?_
  refine WL_nil ?_
  refine WT_seq ?_
  refine WT_seq ?_
  refine WT_region ?_
  refine WL_v rfl (ov_move rfl) ?_
  refine WL_v rfl (ov_F (ov_lss rfl rfl) (by first | exact decide_eq_false (by omega) | exact nb_F (by omega) | exact mb_F (by omega) | exact (by omega) | (simp only [decide_eq_false_iff_not]; omega) | simpa using (by omega))) ?_
  refine WL_nil ?_
  refine WT_condF rfl ?_
  refine WT_skip ?_
  refine WT_seq ?_
  refine WT_seq ?_
  refine WT_region ?_
  refine WL_v rfl (ov_move rfl) ?_
  refine WL_v rfl (ov_move rfl) ?_
  refine WL_v rfl (ov_cap0 rfl st_sl_int) ?_
  refine WL_v rfl (ov_move rfl) ?_
  refine WL_v rfl (ov_len rfl hnil st_sl_int) ?_
  refine WL_v rfl (ov_as (ov_sub rfl rfl (by omega)) (congrArg (Value.int .i64) ((show (0 : Int) - ((0 : Nat) : Int) = 0 by omega)))) ?_
  refine WL_v rfl (ov_as (ov_sub rfl rfl (by omega)) (congrArg (Value.int .i64) ((show (n : Int) - 0 = (n : Int) by omega)))) ?_
  refine WL_v rfl (ov_assign rfl) ?_
  refine WL_nil ?_
  refine WT_seq ?_
  refine WT_region ?_
  refine WL_v rfl (ov_move rfl) ?_
  refine WL_v rfl (ov_gtr rfl rfl) ?_
  refine WL_nil ?_
  refine WT_cond rfl (fun hc => ?_) (fun hc => ?_)
  · skip
    first | with_reducible replace hc := of_decide_eq_true hc | with_reducible replace hc := bn_T hc | with_reducible replace hc := bb_T hc | skip
    have h0 : 0 < n := by omega
    refine WT_region ?_
    refine WL_v rfl (ov_move rfl) ?_
    refine WL_v rfl (ov_move rfl) ?_
    refine WL_v rfl (ov_cap0 rfl st_sl_int) ?_
    refine WL_v rfl (ov_sliceHi (hi := 0) rfl rfl st_sl_int hnil (by omega)) ?_
    refine WL_v rfl (ov_move rfl) ?_
    refine WL_growNil rfl hH rfl rfl st_sl_int Tryz.underlying3 h0 (by omega) (by omega) ?_; rintro X v w2 hX hH2
    refine WL_v rfl (ov_move rfl) ?_
    refine WL_v rfl (ov_len rfl hnil st_sl_int) ?_
    refine WL_v rfl (ov_sliceHi (hi := 0) rfl rfl st_sl_int hX.sl (by omega)) ?_
    refine WL_v rfl (ov_assign rfl) ?_
    refine WL_nil ?_
    refine WT_seq ?_
    refine WT_region ?_
    refine WL_v rfl (ov_move rfl) ?_
    refine WL_v rfl (ov_assign rfl) ?_
    refine WL_nil ?_
    exact WT_ret1 Tryz.func106 Tryz.results106 rfl ⟨X, hX.front (n := 0) (by omega), hH2⟩
  first | with_reducible replace hc := of_decide_eq_false hc | with_reducible replace hc := bn_F hc | with_reducible replace hc := bb_F hc | skip
  refine WT_skip ?_
  refine WT_seq ?_
  refine WT_region ?_
  refine WL_v rfl (ov_move rfl) ?_
  refine WL_v rfl (ov_assign rfl) ?_
  refine WL_nil ?_
  exact WT_ret1 Tryz.func106 Tryz.results106 rfl ⟨[], IRow.nil _, hH.nilIn⟩
theorem take_flat {ls : List (List Int)} {k : Nat} (hk : k < ls.length) : (ls.take (k + 1)).flatten = (ls.take k).flatten ++ ls[k] := by
  rw [List.take_succ_eq_append_getElem hk, List.flatten_append]
  simp
theorem take_flat_le (ls : List (List Int)) (k : Nat) : (ls.take k).flatten.length ≤ ls.flatten.length := by
  have : ls.flatten = (ls.take k).flatten ++ (ls.drop k).flatten := by rw [← List.flatten_append, List.take_append_drop]
  rw [this, List.length_append]
  omega
theorem concat_ok (hH : H w h Ls) {dv : Value} {ls : List (List Int)} (hD : RdLL h Ls dv ls) (hl : ls.flatten.length ≤ 1000000) : Rets Tryz.prog 84 #[dv] w fun v w' => ∃ X, IRow X 3 v ls.flatten ∧ H w' h (X :: Ls) := by
  have hdl := hD.sl.lim
  refine rets_enter Tryz.func84 rfl Tryz.ntmps84 (by simp) ?_
  refine WT_seq ?_
  refine WT_region ?_
  refine WL_v rfl (ov_assign rfl) ?_
  refine WL_nil ?_
  refine WT_seq ?_
  refine WT_region ?_
  refine WL_v rfl (ov_assign rfl) ?_
  refine WL_nil ?_
  refine WT_seq ?_
  refine WT_seq ?_
  refine WT_region ?_
  refine WL_v rfl (ov_move rfl) ?_
  refine WL_v rfl (ov_len rfl hD.sl st_sl_sl_int) ?_
  refine WL_v rfl (ov_move rfl) ?_
  refine WL_nil ?_
  refine WT_block ?_
  refine WT_while (fun s : Nat => [(0, dv), (3, .int .i64 ((ls.take s).flatten.length : Int)), (9, dv), (10, .int .i64 (ls.length : Int)), (11, .int .i64 (s : Int))]) (fun k w => k ≤ ls.length ∧ H w h Ls) (fun k => ls.length - k) 0 (by repeat (first | exact trivial | refine ⟨rfl, ?_⟩)) ⟨by omega, hH⟩ ?_
  clear hH
  rintro k w2 ⟨hk, hH⟩ again
  refine WT_seq ?_
  refine WT_region ?_
  refine WL_v rfl (ov_lss rfl rfl) ?_
  refine WL_nil ?_
  refine WT_seq ?_
  refine WT_cond rfl (fun hc => ?_) (fun hc => ?_)
  · skip
    first | with_reducible replace hc := of_decide_eq_true hc | with_reducible replace hc := bn_T hc | with_reducible replace hc := bb_T hc | skip
    have hkl : k < ls.length := by omega
    obtain ⟨u, h1, h2⟩ := hD.at_ hkl
    have htf := take_flat hkl
    have hle := take_flat_le ls (k + 1)
    have hle2 : (ls.take (k + 1)).flatten.length = (ls.take k).flatten.length + ls[k].length := by rw [htf, List.length_append]
    refine WT_skip ?_
    refine WT_seq ?_
    refine WT_block ?_
    refine WT_seq ?_
    refine WT_region ?_
    refine WL_v rfl (ov_index rfl rfl st_sl_sl_int hD.sl hkl) ?_
    refine WL_v rfl (ov_load rfl one_sl_int (h2 hH)) ?_
    refine WL_v rfl (ov_assign rfl) ?_
    refine WL_nil ?_
    refine WT_seq ?_
    refine WT_region ?_
    refine WL_v rfl (ov_move rfl) ?_
    refine WL_v rfl (ov_move rfl) ?_
    refine WL_v rfl (ov_len rfl h1.sl st_sl_int) ?_
    refine WL_v rfl (ov_as (ov_add rfl rfl (by omega)) (congrArg (Value.int .i64) ((show ((ls.take k).flatten.length : Int) + (ls[k].length : Int) = ((ls.take (k + 1)).flatten.length : Int) by omega)))) ?_
    refine WL_v rfl (ov_assign rfl) ?_
    refine WL_nil ?_
    refine WT_seq ?_
    refine WT_region ?_
    refine WL_v rfl (ov_move rfl) ?_
    refine WL_v rfl (ov_F (ov_lss rfl rfl) (by first | exact decide_eq_false (by omega) | exact nb_F (by omega) | exact mb_F (by omega) | exact (by omega) | (simp only [decide_eq_false_iff_not]; omega) | simpa using (by omega))) ?_
    refine WL_nil ?_
    refine WT_condF rfl ?_
    refine WT_skip ?_
    refine WT_inBlock ?_
    refine WT_region ?_
    refine WL_v rfl (ov_add rfl rfl (by omega)) ?_
    refine WL_v rfl (ov_move rfl) ?_
    refine WL_nil ?_
    refine again (k + 1) _ _ (by omega) (by repeat (first | exact trivial | refine ⟨rfl, ?_⟩)) ⟨by omega, hH⟩
  first | with_reducible replace hc := of_decide_eq_false hc | with_reducible replace hc := bn_F hc | with_reducible replace hc := bb_F hc | skip
  obtain rfl : k = ls.length := by omega
  rw [List.take_length]
  refine WT_exit rfl ?_
  refine WT_seq ?_
  refine WT_region ?_
  refine WL_v rfl (ov_move rfl) ?_
  refine WL_call rfl rfl cf_slices_Grow_sl_int_int (grow_ok hH (n := ls.flatten.length) (by omega)) ?_; rintro v0 w3 ⟨X0, hX0, hH3⟩
  refine WL_v rfl (ov_assign rfl) ?_
  refine WL_nil ?_
  refine WT_seq ?_
  refine WT_seq ?_
  refine WT_region ?_
  refine WL_v rfl (ov_move rfl) ?_
  refine WL_v rfl (ov_len rfl hD.sl st_sl_sl_int) ?_
  refine WL_v rfl (ov_move rfl) ?_
  refine WL_nil ?_
  refine WT_block ?_
  refine WT_while (fun s : Nat × Value => [(0, dv), (6, s.2), (25, dv), (26, .int .i64 (ls.length : Int)), (27, .int .i64 (s.1 : Int))]) (fun s w => s.1 ≤ ls.length ∧ ∃ X, IRow X 3 s.2 (ls.take s.1).flatten ∧ H w h (X :: Ls)) (fun s => ls.length - s.1) (0, v0) (by repeat (first | exact trivial | refine ⟨rfl, ?_⟩)) ⟨by simp, X0, by simpa using hX0, hH3⟩ ?_
  clear hH hH3 hX0 X0 v0
  rintro ⟨k, xv⟩ w4 ⟨hk, X, hX, hH⟩ again
  simp only at hk hX
  refine WT_seq ?_
  refine WT_region ?_
  refine WL_v rfl (ov_lss rfl rfl) ?_
  refine WL_nil ?_
  refine WT_seq ?_
  refine WT_cond rfl (fun hc => ?_) (fun hc => ?_)
  · skip
    first | with_reducible replace hc := of_decide_eq_true hc | with_reducible replace hc := bn_T hc | with_reducible replace hc := bb_T hc | skip
    have hkl : k < ls.length := by simp only at hc; omega
    obtain ⟨u, h1, h2⟩ := hD.at_ hkl
    have htf := take_flat hkl
    have hle := take_flat_le ls (k + 1)
    have hle2 : (ls.take (k + 1)).flatten.length = (ls.take k).flatten.length + ls[k].length := by rw [htf, List.length_append]
    refine WT_skip ?_
    refine WT_seq ?_
    refine WT_block ?_
    refine WT_seq ?_
    refine WT_region ?_
    refine WL_v rfl (ov_index rfl rfl st_sl_sl_int hD.sl hkl) ?_
    refine WL_v rfl (ov_load rfl one_sl_int (h2 hH.drop)) ?_
    refine WL_v rfl (ov_assign rfl) ?_
    refine WL_nil ?_
    refine WT_region ?_
    refine WL_v rfl (ov_move rfl) ?_
    refine WL_v rfl (ov_move rfl) ?_
    refine WL_appR (i := 0) rfl hH rfl rfl st_sl_int rfl hX h1.sl (h1.cell hH.drop) (by omega) (by omega) ?_; rintro X2 xv2 w5 hX2 hH5
    refine WL_v rfl (ov_assign rfl) ?_
    refine WL_nil ?_
    refine WT_inBlock ?_
    refine WT_region ?_
    refine WL_v rfl (ov_add rfl rfl (by omega)) ?_
    refine WL_v rfl (ov_move rfl) ?_
    refine WL_nil ?_
    refine again (k + 1, xv2) _ _ (by simp only; omega) (by repeat (first | exact trivial | refine ⟨rfl, ?_⟩)) ⟨by simp only; omega, X2, by simp only; rw [htf]; exact hX2, hH5⟩
  first | with_reducible replace hc := of_decide_eq_false hc | with_reducible replace hc := bn_F hc | with_reducible replace hc := bb_F hc | skip
  obtain rfl : k = ls.length := by simp only at hc; omega
  refine WT_exit rfl ?_
  refine WT_seq ?_
  refine WT_region ?_
  refine WL_v rfl (ov_move rfl) ?_
  refine WL_v rfl (ov_assign rfl) ?_
  refine WL_nil ?_
  exact WT_ret1 Tryz.func84 Tryz.results84 rfl ⟨X, by rw [List.take_length] at hX; exact hX, hH⟩

/-! Sorting of up to ten. -/
def bits10 : Nat → Nat
  | 0 => 0
  | 1 => 1
  | 2 => 2
  | 3 => 2
  | 4 => 3
  | 5 => 3
  | 6 => 3
  | 7 => 3
  | _ => 4
theorem bits10_le (n : Nat) : bits10 n ≤ 4 := by unfold bits10; split <;> omega
theorem wrapT {n : Nat} (h : n ≤ 10) : IntKind.u64.wrap (n : Int) = (n : Int) ∧ IntKind.u8.wrap (n : Int) = (n : Int) ∧ IntKind.i64.wrap (n : Int) = (n : Int) := by
  have : ∀ k : Fin 11, IntKind.u64.wrap ((k.val : Nat) : Int) = (k.val : Int) ∧ IntKind.u8.wrap ((k.val : Nat) : Int) = (k.val : Int) ∧ IntKind.i64.wrap ((k.val : Nat) : Int) = (k.val : Int) := by decide
  exact this ⟨n, by omega⟩
theorem len64T_ok (hH : H w h Ls) {n : Nat} (hn : n ≤ 10) : Rets Tryz.prog 134 #[.int .u64 (n : Int)] w fun v w' => v = .int .i64 (bits10 n : Int) ∧ H w' h Ls := by
  have hb := bits10_le n
  refine rets_enter Tryz.func134 rfl Tryz.ntmps134 (by simp) ?_
  refine WT_seq ?_
  refine WT_region ?_
  refine WL_v rfl (ov_assign rfl) ?_
  refine WL_nil ?_
  refine WT_seq ?_
  refine WT_seq ?_
  refine WT_region ?_
  refine WL_v rfl (ov_move rfl) ?_
  refine WL_v rfl (ov_F (ov_geq rfl rfl) (by first | exact decide_eq_false (by omega) | exact nb_F (by omega) | exact mb_F (by omega) | exact (by omega) | (simp only [decide_eq_false_iff_not]; omega) | simpa using (by omega))) ?_
  refine WL_nil ?_
  refine WT_condF rfl ?_
  refine WT_skip ?_
  refine WT_seq ?_
  refine WT_seq ?_
  refine WT_region ?_
  refine WL_v rfl (ov_move rfl) ?_
  refine WL_v rfl (ov_F (ov_geq rfl rfl) (by first | exact decide_eq_false (by omega) | exact nb_F (by omega) | exact mb_F (by omega) | exact (by omega) | (simp only [decide_eq_false_iff_not]; omega) | simpa using (by omega))) ?_
  refine WL_nil ?_
  refine WT_condF rfl ?_
  refine WT_skip ?_
  refine WT_seq ?_
  refine WT_seq ?_
  refine WT_region ?_
  refine WL_v rfl (ov_move rfl) ?_
  refine WL_v rfl (ov_F (ov_geq rfl rfl) (by first | exact decide_eq_false (by omega) | exact nb_F (by omega) | exact mb_F (by omega) | exact (by omega) | (simp only [decide_eq_false_iff_not]; omega) | simpa using (by omega))) ?_
  refine WL_nil ?_
  refine WT_condF rfl ?_
  refine WT_skip ?_
  refine WT_seq ?_
  refine WT_region ?_
  refine WL_v rfl (ov_move rfl) ?_
  refine WL_v rfl (ov_move rfl) ?_
  refine WL_v rfl (ov_as (ov_convert rfl (by kernel_rfl) Tryz.underlying5) (congrArg (Value.int .u8) (wrapT hn).2.1)) ?_
  refine WL_v rfl (ov_index0 (r := .int .u8 (bits10 n : Int)) rfl rfl (match n, hn with | 0, _ => fun W => by kernel_rfl | 1, _ => fun W => by kernel_rfl | 2, _ => fun W => by kernel_rfl | 3, _ => fun W => by kernel_rfl | 4, _ => fun W => by kernel_rfl | 5, _ => fun W => by kernel_rfl | 6, _ => fun W => by kernel_rfl | 7, _ => fun W => by kernel_rfl | 8, _ => fun W => by kernel_rfl | 9, _ => fun W => by kernel_rfl | 10, _ => fun W => by kernel_rfl)) ?_
  refine WL_v rfl (ov_as (ov_convert rfl (by kernel_rfl) Tryz.underlying3) (congrArg (Value.int .i64) (wrapT (n := bits10 n) (by omega)).2.2)) ?_
  refine WL_v rfl (ov_add rfl rfl (by omega)) ?_
  refine WL_v rfl (ov_assign rfl) ?_
  refine WL_nil ?_
  exact WT_ret1 Tryz.func134 Tryz.results134 rfl ⟨congrArg (Value.int .i64) (by omega), hH⟩
theorem bitsLenT_ok (hH : H w h Ls) {n : Nat} (hn : n ≤ 10) : Rets Tryz.prog 108 #[.int .u64 (n : Int)] w fun v w' => v = .int .i64 (bits10 n : Int) ∧ H w' h Ls := by
  refine rets_enter Tryz.func108 rfl Tryz.ntmps108 (by simp) ?_
  refine WT_seq ?_
  refine WT_region ?_
  refine WL_v rfl (ov_assign rfl) ?_
  refine WL_nil ?_
  refine WT_seq ?_
  refine WT_condF rfl ?_
  refine WT_skip ?_
  refine WT_seq ?_
  refine WT_region ?_
  refine WL_v rfl (ov_move rfl) ?_
  refine WL_call rfl rfl cf_math_bits_Len64 (len64T_ok hH hn) ?_; rintro _ w1 ⟨rfl, hH1⟩
  refine WL_v rfl (ov_assign rfl) ?_
  refine WL_nil ?_
  exact WT_ret1 Tryz.func108 Tryz.results108 rfl ⟨rfl, hH1⟩
theorem sortT_ok {X : Heaplet} (hH : H w h (X :: Ls)) {v : Value} {xs : List Int} (hX : IRow X 3 v xs) (hl : xs.length ≤ 10) : Rets Tryz.prog 85 #[v] w fun _ w' => ∃ X', IRow X' 3 v (isortL xs) ∧ H w' h (X' :: Ls) := by
  refine rets_enter Tryz.func85 rfl Tryz.ntmps85 (by simp) ?_
  refine WT_seq ?_
  refine WT_region ?_
  refine WL_v rfl (ov_move rfl) ?_
  refine WL_v rfl (ov_len rfl hX.sl st_sl_int) ?_
  refine WL_v rfl (ov_assign rfl) ?_
  refine WL_nil ?_
  refine WT_region ?_
  refine WL_v rfl (ov_move rfl) ?_
  refine WL_v rfl (ov_move rfl) ?_
  refine WL_v rfl (ov_move rfl) ?_
  refine WL_v rfl (ov_as (ov_convert rfl (by kernel_rfl) Tryz.underlying129) (congrArg (Value.int .u64) (wrapT hl).1)) ?_
  refine WL_call rfl rfl cf_math_bits_Len (bitsLenT_ok hH hl) ?_; rintro _ w1 ⟨rfl, hH1⟩
  refine WL_call rfl rfl cf_slices_pdqsortOrdered_int (pdq_ok hH1 hX (by omega)) ?_; rintro _ w2 ⟨X', hX', hH2⟩
  refine WL_nil ?_
  exact WT_end0 Tryz.func85 Tryz.results85 ⟨X', hX', hH2⟩
end
end Go.Proofs.YteagnhdhafiofaaGreat

/- Walks: the draws' reader. -/
namespace Go.Proofs.YteagnhdhafiofaaGreat
open Go.RowKit

/-- The reader of a code: its bytes and how far it is. -/
def rdr (g : Nat) (bv : Value) (p : Nat) : Heaplet := [(g, .cells #[bv, .int .i64 (p : Int)] 87 (0, 0))]

section
variable {h : GH} {Ls : List Heaplet} {w : World}

theorem run_build_rd (a : Option Addr) (n c : Nat) (W : World) : (Instr.build 87 #[(0, .slice a n c)]).run Tryz.prog W = .ok (.agg #[.slice a n c, .int .i64 0]) W := by kernel_rfl
theorem run_build_rd' {v : Value} {n : Nat} (hv : Sl v n) (W : World) : (Instr.build 87 #[(0, v)]).run Tryz.prog W = .ok (.agg #[v, .int .i64 0]) W := by
  obtain ⟨A, c, rfl, _⟩ := hv.form
  exact run_build_rd A n c W

theorem l6Open_ok (hH : H w h Ls) {cv : Value} {bs : List Int} (hB : Bytes h cv bs) : Rets Tryz.prog 36 #[cv] w fun v w' => ∃ g bv bs', v = .pointer (some ⟨g, 0, none⟩) ∧ Bytes h bv bs' ∧ H w' h (rdr g bv 0 :: Ls) := by
  refine rets_enter Tryz.func36 rfl Tryz.ntmps36 (by simp) ?_
  refine WT_seq ?_
  refine WT_region ?_
  refine WL_v rfl (ov_assign rfl) ?_
  refine WL_nil ?_
  refine WT_seq ?_
  refine WT_seq ?_
  refine WT_region ?_
  refine WL_v rfl (ov_move rfl) ?_
  refine WL_v rfl (ov_len rfl hB.sl st_sl_uint8) ?_
  refine WL_v rfl (ov_gtr rfl rfl) ?_
  refine WL_nil ?_
  refine WT_join (ι := Value × List Int) (fun s => [(0, s.1)]) (fun s w => Bytes h s.1 s.2 ∧ H w h Ls) (fun joined => ?_) ?_
  · skip
    refine WT_cond rfl (fun hc => ?_) (fun hc => ?_)
    · skip
      first | with_reducible replace hc := of_decide_eq_true hc | with_reducible replace hc := bn_T hc | with_reducible replace hc := bb_T hc | skip
      refine WT_region ?_
      refine WL_v rfl (ov_move rfl) ?_
      refine WL_v rfl (ov_sliceHi rfl rfl st_sl_uint8 (hi := 2000) hB.sl (by omega)) ?_
      refine WL_v rfl (ov_assign rfl) ?_
      refine WL_nil ?_
      exact joined (_, _) _ _ (by repeat (first | exact trivial | refine ⟨rfl, ?_⟩)) ⟨hB.reslice (Nat.zero_le 2000) (by omega), hH⟩
    first | with_reducible replace hc := of_decide_eq_false hc | with_reducible replace hc := bn_F hc | with_reducible replace hc := bb_F hc | skip
    refine WT_skip ?_
    exact joined (cv, bs) _ _ (by repeat (first | exact trivial | refine ⟨rfl, ?_⟩)) ⟨hB, hH⟩
  rintro ⟨bv, bs'⟩ w1 ⟨hB', hH1⟩
  refine WT_seq ?_
  refine WT_region ?_
  refine WL_v rfl (ov_move rfl) ?_
  refine WL_v rfl (ov_build rfl (run_build_rd' hB'.sl)) ?_
  refine WL_box _ rfl hH1 rfl rfl ?_; rintro g w2 hH2
  refine WL_v rfl (ov_assign rfl) ?_
  refine WL_nil ?_
  exact WT_ret1 Tryz.func36 Tryz.results36 rfl ⟨g, bv, bs', rfl, hB', hH2⟩

/-- A number that the reader gives. -/
def Picked (n : Int) (r : Nat) : Prop := (1 ≤ n → (r : Int) < n) ∧ (n < 1 → r = 0)
theorem u8wrap {x : Int} (h : 0 ≤ x ∧ x < 256) : IntKind.i64.wrap x = x := wrap_in ⟨by omega, by omega⟩

set_option maxHeartbeats 1000000 in
theorem pick_ok {g : Nat} {bv : Value} {p : Nat} {bs : List Int} (hH : H w h (rdr g bv p :: Ls)) (hB : Bytes h bv bs) (hp : p ≤ 1000000000) (n : Int) :
    Rets Tryz.prog 72 #[.pointer (some ⟨g, 0, none⟩), .int .i64 n] w fun v w' => ∃ r : Nat, v = .int .i64 (r : Int) ∧ Picked n r ∧ H w' h (rdr g bv (p + 1) :: Ls) := by
  refine rets_enter Tryz.func72 rfl Tryz.ntmps72 (by simp) ?_
  by_cases hn : n < 1
  · skip
    refine WT_seq ?_
    refine WT_region ?_
    refine WL_v rfl (ov_assign rfl) ?_
    refine WL_nil ?_
    refine WT_seq ?_
    refine WT_region ?_
    refine WL_v rfl (ov_move rfl) ?_
    refine WL_v rfl (ov_move rfl) ?_
    refine WL_v rfl (ov_nilCheck rfl) ?_
    refine WL_v rfl (ov_field rfl fo_spec_l6Rd_1) ?_
    refine WL_v rfl (ov_load rfl one_int (hH.cb 0 rfl 1)) ?_
    refine WL_v rfl (ov_add rfl rfl (by omega)) ?_
    refine WL_v rfl (ov_nilCheck rfl) ?_
    refine WL_v rfl (ov_field rfl fo_spec_l6Rd_1) ?_
    refine WL_store hH rfl rfl (i := 0) (off := 1) rfl rfl (by simp) rfl sz_int ?_; rintro w1 hH1
    refine WL_nil ?_
    refine WT_seq ?_
    refine WT_seq ?_
    refine WT_region ?_
    refine WL_v rfl (ov_move rfl) ?_
    refine WL_v rfl (ov_T (ov_lss rfl rfl) (by first | exact decide_eq_true hn | exact nb_T hn | exact mb_T hn | exact hn | (simp only [decide_eq_true_eq]; omega) | simpa using hn)) ?_
    refine WL_v rfl (ov_move rfl) ?_
    refine WL_guardOff rfl rfl rfl rfl ?_
    refine WL_guardOff rfl rfl rfl rfl ?_
    refine WL_guardOff rfl rfl rfl rfl ?_
    refine WL_guardOff rfl rfl rfl rfl ?_
    refine WL_guardOff rfl rfl rfl rfl ?_
    refine WL_guardOff rfl rfl rfl rfl ?_
    refine WL_v rfl (ov_pickT rfl rfl) ?_
    refine WL_nil ?_
    refine WT_condT rfl ?_
    refine WT_seq ?_
    refine WT_region ?_
    refine WL_v rfl (ov_assign rfl) ?_
    refine WL_nil ?_
    exact WT_ret1 Tryz.func72 Tryz.results72 rfl ⟨0, rfl, ⟨by omega, fun _ => rfl⟩, hH1⟩
  refine WT_seq ?_
  refine WT_region ?_
  refine WL_v rfl (ov_assign rfl) ?_
  refine WL_nil ?_
  refine WT_seq ?_
  refine WT_region ?_
  refine WL_v rfl (ov_move rfl) ?_
  refine WL_v rfl (ov_move rfl) ?_
  refine WL_v rfl (ov_nilCheck rfl) ?_
  refine WL_v rfl (ov_field rfl fo_spec_l6Rd_1) ?_
  refine WL_v rfl (ov_load rfl one_int (hH.cb 0 rfl 1)) ?_
  refine WL_v rfl (ov_add rfl rfl (by omega)) ?_
  refine WL_v rfl (ov_nilCheck rfl) ?_
  refine WL_v rfl (ov_field rfl fo_spec_l6Rd_1) ?_
  refine WL_store hH rfl rfl (i := 0) (off := 1) rfl rfl (by simp) rfl sz_int ?_; rintro w1 hH1
  refine WL_nil ?_
  refine WT_seq ?_
  refine WT_seq ?_
  refine WT_region ?_
  refine WL_v rfl (ov_move rfl) ?_
  refine WL_v rfl (ov_F (ov_lss rfl rfl) (by first | exact decide_eq_false hn | exact nb_F hn | exact mb_F hn | exact hn | (simp only [decide_eq_false_iff_not]; omega) | simpa using hn)) ?_
  refine WL_v rfl (ov_move rfl) ?_
  refine WL_guardOn rfl rfl ?_
  refine WL_v rfl (ov_move rfl) ?_
  refine WL_guardOn rfl rfl ?_
  refine WL_v rfl (ov_nilCheck rfl) ?_
  refine WL_guardOn rfl rfl ?_
  refine WL_v rfl (ov_field rfl fo_spec_l6Rd_0) ?_
  refine WL_guardOn rfl rfl ?_
  refine WL_v rfl (ov_load rfl one_sl_uint8 (hH1.cb 0 rfl 0)) ?_
  refine WL_guardOn rfl rfl ?_
  refine WL_v rfl (ov_len rfl hB.sl st_sl_uint8) ?_
  refine WL_guardOn rfl rfl ?_
  refine WL_v rfl (ov_eql rfl rfl) ?_
  refine WL_v rfl (ov_pickF rfl rfl) ?_
  refine WL_nil ?_
  clear hH
  refine WT_cond rfl (fun hl => ?_) (fun hl => ?_)
  · skip
    first | with_reducible replace hl := of_decide_eq_true hl | with_reducible replace hl := bn_T hl | with_reducible replace hl := bb_T hl | skip
    refine WT_seq ?_
    refine WT_region ?_
    refine WL_v rfl (ov_assign rfl) ?_
    refine WL_nil ?_
    exact WT_ret1 Tryz.func72 Tryz.results72 rfl ⟨0, rfl, ⟨by omega, fun _ => rfl⟩, hH1⟩
  first | with_reducible replace hl := of_decide_eq_false hl | with_reducible replace hl := bn_F hl | with_reducible replace hl := bb_F hl | skip
  have hbl := hB.sl.lim
  have hb0 : 0 < bs.length := by omega
  refine WT_skip ?_
  refine WT_seq ?_
  refine WT_region ?_
  refine WL_v rfl (ov_move rfl) ?_
  refine WL_v rfl (ov_nilCheck rfl) ?_
  refine WL_v rfl (ov_field rfl fo_spec_l6Rd_1) ?_
  refine WL_v rfl (ov_load rfl one_int (hH1.cb 0 rfl 1)) ?_
  refine WL_v rfl (ov_as (ov_sub rfl rfl (by omega)) (congrArg (Value.int .i64) (show (p : Int) + 1 - 1 = (p : Int) by omega))) ?_
  refine WL_v rfl (ov_assign rfl) ?_
  refine WL_nil ?_
  refine WT_seq ?_
  refine WT_seq ?_
  refine WT_region ?_
  refine WL_v rfl (ov_move rfl) ?_
  refine WL_v rfl (ov_move rfl) ?_
  refine WL_v rfl (ov_nilCheck rfl) ?_
  refine WL_v rfl (ov_field rfl fo_spec_l6Rd_0) ?_
  refine WL_v rfl (ov_load rfl one_sl_uint8 (hH1.cb 0 rfl 0)) ?_
  refine WL_v rfl (ov_len rfl hB.sl st_sl_uint8) ?_
  refine WL_v rfl (ov_lss rfl rfl) ?_
  refine WL_nil ?_
  refine WT_cond rfl (fun hk => ?_) (fun hk => ?_)
  · skip
    first | with_reducible replace hk := of_decide_eq_true hk | with_reducible replace hk := bn_T hk | with_reducible replace hk := bb_T hk | skip
    have hkl : p < bs.length := by omega
    have hb := hB.rg bs[p] (List.getElem_mem hkl)
    refine WT_seq ?_
    refine WT_region ?_
    refine WL_v rfl (ov_move rfl) ?_
    refine WL_v rfl (ov_nilCheck rfl) ?_
    refine WL_v rfl (ov_field rfl fo_spec_l6Rd_0) ?_
    refine WL_v rfl (ov_load rfl one_sl_uint8 (hH1.cb 0 rfl 0)) ?_
    refine WL_v rfl (ov_move rfl) ?_
    refine WL_v rfl (ov_index rfl rfl st_sl_uint8 hB.sl hkl) ?_
    refine WL_v rfl (ov_load rfl one_uint8 (hB.cell hH1 hkl)) ?_
    refine WL_v rfl (ov_as (ov_convert rfl (by kernel_rfl) Tryz.underlying3) (congrArg (Value.int .i64) (u8wrap hb))) ?_
    refine WL_v rfl (ov_move rfl) ?_
    refine WL_v rfl (ov_rem rfl rfl (by omega) (by omega)) ?_
    refine WL_v rfl (ov_assign rfl) ?_
    refine WL_nil ?_
    exact WT_ret1 Tryz.func72 Tryz.results72 rfl ⟨(bs[p] % n).toNat, by rw [Int.toNat_of_nonneg (Int.emod_nonneg _ (by omega))], ⟨fun _ => by rw [Int.toNat_of_nonneg (Int.emod_nonneg _ (by omega))]; exact Int.emod_lt_of_pos _ (by omega), by omega⟩, hH1⟩
  first | with_reducible replace hk := of_decide_eq_false hk | with_reducible replace hk := bn_F hk | with_reducible replace hk := bb_F hk | skip
  have hi1 : p % bs.length < bs.length := Nat.mod_lt _ hb0
  have hi2 : (p * 7 + 3) % bs.length < bs.length := Nat.mod_lt _ hb0
  have hb1 := hB.rg bs[p % bs.length] (List.getElem_mem hi1)
  have hb2 := hB.rg bs[(p * 7 + 3) % bs.length] (List.getElem_mem hi2)
  obtain ⟨q, hq, hqp⟩ : ∃ q, p / bs.length = q ∧ q ≤ p := ⟨_, rfl, Nat.div_le_self _ _⟩
  obtain ⟨x1, hx1⟩ := Int.eq_ofNat_of_zero_le hb1.1
  obtain ⟨x2, hx2⟩ := Int.eq_ofNat_of_zero_le hb2.1
  refine WT_skip ?_
  refine WT_seq ?_
  refine WT_quiet mixed (by kernel_rfl) hH1 ?_
  clear hH1
  refine WQ_v rfl (fun _ _ => ov_move rfl) ?_
  refine WQ_v rfl (fun _ _ => ov_nilCheck rfl) ?_
  refine WQ_v rfl (fun _ _ => ov_field rfl fo_spec_l6Rd_0) ?_
  refine WQ_v rfl (fun _ hH => ov_load rfl one_sl_uint8 (hH.cb 0 rfl 0)) ?_
  refine WQ_v rfl (fun _ _ => ov_move rfl) ?_
  refine WQ_v rfl (fun _ _ => ov_move rfl) ?_
  refine WQ_v rfl (fun _ _ => ov_nilCheck rfl) ?_
  refine WQ_v rfl (fun _ _ => ov_field rfl fo_spec_l6Rd_0) ?_
  refine WQ_v rfl (fun _ hH => ov_load rfl one_sl_uint8 (hH.cb 0 rfl 0)) ?_
  refine WQ_v rfl (fun _ _ => ov_len rfl hB.sl st_sl_uint8) ?_
  refine WQ_v rfl (fun _ _ => ov_as (ov_rem rfl rfl (by omega) (by omega)) (congrArg (Value.int .i64) (show (p : Int) % (bs.length : Int) = ((p % bs.length : Nat) : Int) from rfl))) ?_
  refine WQ_v rfl (fun _ _ => ov_index rfl rfl st_sl_uint8 hB.sl hi1) ?_
  refine WQ_v rfl (fun _ hH => ov_load rfl one_uint8 (hB.cell hH hi1)) ?_
  refine WQ_v rfl (fun _ _ => ov_as (ov_convert rfl (by kernel_rfl) Tryz.underlying3) (congrArg (Value.int .i64) ((u8wrap hb1).trans hx1))) ?_
  refine WQ_v rfl (fun _ _ => ov_mul rfl rfl (by omega)) ?_
  refine WQ_v rfl (fun _ _ => ov_move rfl) ?_
  refine WQ_v rfl (fun _ _ => ov_nilCheck rfl) ?_
  refine WQ_v rfl (fun _ _ => ov_field rfl fo_spec_l6Rd_0) ?_
  refine WQ_v rfl (fun _ hH => ov_load rfl one_sl_uint8 (hH.cb 0 rfl 0)) ?_
  refine WQ_v rfl (fun _ _ => ov_move rfl) ?_
  refine WQ_v rfl (fun _ _ => ov_mul rfl rfl (by omega)) ?_
  refine WQ_v rfl (fun _ _ => ov_add rfl rfl (by omega)) ?_
  refine WQ_v rfl (fun _ _ => ov_move rfl) ?_
  refine WQ_v rfl (fun _ _ => ov_nilCheck rfl) ?_
  refine WQ_v rfl (fun _ _ => ov_field rfl fo_spec_l6Rd_0) ?_
  refine WQ_v rfl (fun _ hH => ov_load rfl one_sl_uint8 (hH.cb 0 rfl 0)) ?_
  refine WQ_v rfl (fun _ _ => ov_len rfl hB.sl st_sl_uint8) ?_
  refine WQ_v rfl (fun _ _ => ov_as (ov_rem rfl rfl (by omega) (by omega)) (congrArg (Value.int .i64) (show ((p : Int) * 7 + 3) % (bs.length : Int) = (((p * 7 + 3) % bs.length : Nat) : Int) from rfl))) ?_
  refine WQ_v rfl (fun _ _ => ov_index rfl rfl st_sl_uint8 hB.sl hi2) ?_
  refine WQ_v rfl (fun _ hH => ov_load rfl one_uint8 (hB.cell hH hi2)) ?_
  refine WQ_v rfl (fun _ _ => ov_as (ov_convert rfl (by kernel_rfl) Tryz.underlying3) (congrArg (Value.int .i64) ((u8wrap hb2).trans hx2))) ?_
  refine WQ_v rfl (fun _ _ => ov_mul rfl rfl (by omega)) ?_
  refine WQ_v rfl (fun _ _ => ov_add rfl rfl (by omega)) ?_
  refine WQ_v rfl (fun _ _ => ov_move rfl) ?_
  refine WQ_v rfl (fun _ _ => ov_mul rfl rfl (by omega)) ?_
  refine WQ_v rfl (fun _ _ => ov_add rfl rfl (by omega)) ?_
  refine WQ_v rfl (fun _ _ => ov_move rfl) ?_
  refine WQ_v rfl (fun _ _ => ov_move rfl) ?_
  refine WQ_v rfl (fun _ _ => ov_nilCheck rfl) ?_
  refine WQ_v rfl (fun _ _ => ov_field rfl fo_spec_l6Rd_0) ?_
  refine WQ_v rfl (fun _ hH => ov_load rfl one_sl_uint8 (hH.cb 0 rfl 0)) ?_
  refine WQ_v rfl (fun _ _ => ov_len rfl hB.sl st_sl_uint8) ?_
  refine WQ_v rfl (fun _ _ => ov_as (ov_quo rfl rfl (by omega) (by omega) (by omega)) (congrArg (Value.int .i64) (show (p : Int) / (bs.length : Int) = (q : Int) from hq ▸ rfl))) ?_
  refine WQ_v rfl (fun _ _ => ov_mul rfl rfl (by omega)) ?_
  refine WQ_v rfl (fun _ _ => ov_as (ov_add rfl rfl (by omega)) (congrArg (Value.int .i64) (show (x1 : Int) * 131 + (x2 : Int) * 1117 + (p : Int) * 29 + (q : Int) * 53 = ((x1 * 131 + x2 * 1117 + p * 29 + q * 53 : Nat) : Int) by omega))) ?_
  refine WQ_v rfl (fun _ _ => ov_assign rfl) ?_
  refine WQ_nil ?_
  intro w2 hH1
  refine WT_seq ?_
  refine WT_region ?_
  refine WL_v rfl (ov_move rfl) ?_
  refine WL_v rfl (ov_move rfl) ?_
  generalize hX : x1 * 131 + x2 * 1117 + p * 29 + q * 53 = X
  have hXb : X < 4611686018427387904 := by omega
  refine WL_v rfl (ov_as (ov_quo rfl rfl (by omega) (by omega) (by omega)) (congrArg (Value.int .i64) (show (X : Int) / 64 = ((X / 64 : Nat) : Int) from rfl))) ?_
  refine WL_v rfl (ov_xor rfl rfl hXb (by omega)) ?_
  refine WL_v rfl (ov_assign rfl) ?_
  refine WL_nil ?_
  refine WT_seq ?_
  refine WT_region ?_
  refine WL_v rfl (ov_move rfl) ?_
  refine WL_v rfl (ov_move rfl) ?_
  refine WL_v rfl (ov_rem rfl rfl (by omega) (by omega)) ?_
  refine WL_v rfl (ov_assign rfl) ?_
  refine WL_nil ?_
  exact WT_ret1 Tryz.func72 Tryz.results72 rfl ⟨(((X ^^^ X / 64 : Nat) : Int) % n).toNat, by rw [Int.toNat_of_nonneg (Int.emod_nonneg _ (by omega))], ⟨fun _ => by rw [Int.toNat_of_nonneg (Int.emod_nonneg _ (by omega))]; exact Int.emod_lt_of_pos _ (by omega), by omega⟩, hH1⟩
end
end Go.Proofs.YteagnhdhafiofaaGreat

/- Walks: the draws of rows, nodes and plans. -/
namespace Go.Proofs.YteagnhdhafiofaaGreat
open Go.RowKit

section
variable {h : GH} {Ls : List Heaplet} {w : World}

theorem l91Row_ok {g : Nat} {bv : Value} {p : Nat} {bs : List Int} (hH : H w h (rdr g bv p :: Ls)) (hB : Bytes h bv bs) (hp : p ≤ 1000000) (n : Nat) (hn : n ≤ 12) :
    Rets Tryz.prog 113 #[.pointer (some ⟨g, 0, none⟩), .int .i64 (n : Int)] w fun v w' => ∃ X r p', IRow X 3 v r ∧ r.length = n ∧ p' ≤ p + 100 ∧ H w' h (X :: rdr g bv p' :: Ls) := by
  refine rets_enter Tryz.func113 rfl Tryz.ntmps113 (by simp) ?_
  refine WT_seq ?_
  refine WT_region ?_
  refine WL_v rfl (ov_assign rfl) ?_
  refine WL_nil ?_
  refine WT_seq ?_
  refine WT_region ?_
  refine WL_bsI0 rfl hH run_bs_int0 ?_; rintro X0 ev0 w2 hX0 hH2
  refine WL_v rfl (ov_assign rfl) ?_
  refine WL_nil ?_
  refine WT_seq ?_
  refine WT_seq ?_
  refine WT_region ?_
  refine WL_v rfl (ov_assign rfl) ?_
  refine WL_nil ?_
  refine WT_block ?_
  refine WT_while (fun s : Nat × Value => [(0, .pointer (some ⟨g, 0, none⟩)), (1, .int .i64 (n : Int)), (5, s.2), (6, .int .i64 (s.1 : Int))]) (fun s w => s.1 ≤ n ∧ ∃ X r p', IRow X 3 s.2 r ∧ r.length = s.1 ∧ p' ≤ p + 3 * s.1 ∧ H w h (X :: rdr g bv p' :: Ls)) (fun s => n - s.1) (0, ev0) (by repeat (first | exact trivial | refine ⟨rfl, ?_⟩)) ⟨by omega, X0, [], p, hX0, rfl, by simp only; omega, hH2⟩ ?_
  clear hH hH2 hX0
  rintro ⟨k, sv⟩ w3 ⟨hk, X, r, p', hX, hr, hp', hH⟩ again
  simp only at hk hX hr hp'
  refine WT_seq ?_
  refine WT_seq ?_
  refine WT_region ?_
  refine WL_v rfl (ov_move rfl) ?_
  refine WL_v rfl (ov_move rfl) ?_
  refine WL_v rfl (ov_lss rfl rfl) ?_
  refine WL_nil ?_
  refine WT_cond rfl (fun hc => ?_) (fun hc => ?_)
  · skip
    first | with_reducible replace hc := of_decide_eq_true hc | with_reducible replace hc := bn_T hc | with_reducible replace hc := bb_T hc | skip
    simp only at hc
    have hkn : k < n := by omega
    refine WT_skip ?_
    refine WT_seq ?_
    refine WT_block ?_
    refine WT_region ?_
    refine WL_v rfl (ov_move rfl) ?_
    refine WL_v rfl (ov_move rfl) ?_
    refine WL_call rfl rfl cf_p_spec_l6Rd_pick (pick_ok (hH.pull 1 rfl) hB (by omega) 5) ?_; rintro _ w4 ⟨r1, rfl, hr1, hH4⟩
    refine WL_v rfl (ov_move rfl) ?_
    refine WL_call rfl rfl cf_p_spec_l6Rd_pick (pick_ok hH4 hB (by omega) 1009) ?_; rintro _ w5 ⟨r2, rfl, hr2, hH5⟩
    refine WL_bsIN [(r1 : Int), (r2 : Int)] rfl hH5 rfl (run_bs_int2 _ _) rfl (by omega) ?_; rintro Y yv w6 hY hH6
    refine WL_v rfl (ov_move rfl) ?_
    refine WL_call rfl rfl cf_p_spec_l6Rd_pick (pick_ok (hH6.pull 1 rfl) hB (by omega) 2) ?_; rintro _ w7 ⟨r3, rfl, hr3, hH7⟩
    refine WL_v rfl (ov_index rfl rfl st_sl_int hY.sl (by have := hr3.1 (by omega); simp only [List.length_cons, List.length_nil]; omega)) ?_
    refine WL_v rfl (ov_load rfl one_int (hY.cell hH7 (i := 1) rfl (by have := hr3.1 (by omega); simp only [List.length_cons, List.length_nil]; omega))) ?_
    refine WL_bsI rfl hH7 rfl (run_bs_int _) ?_; rintro Z zv w8 hZ hH8
    refine WL_appI (i := 3) (j := 0) rfl hH8 rfl rfl st_sl_int rfl hX rfl hZ (by simp; omega) (by simp; omega) ?_; rintro X2 sv2 w9 hX2 hH9
    refine WL_v rfl (ov_assign rfl) ?_
    refine WL_nil ?_
    refine WT_inBlock ?_
    refine WT_region ?_
    refine WL_v rfl (ov_move rfl) ?_
    refine WL_v rfl (ov_add rfl rfl (by omega)) ?_
    refine WL_v rfl (ov_assign rfl) ?_
    refine WL_nil ?_
    refine again (k + 1, sv2) _ _ (by simp only; omega) (by repeat (first | exact trivial | refine ⟨rfl, ?_⟩)) ⟨by simp only; omega, X2, _, p' + 1 + 1 + 1, hX2, by simp [hr], by simp only; omega, (hH9.drop.pull 2 rfl).del 2 rfl⟩
  first | with_reducible replace hc := of_decide_eq_false hc | with_reducible replace hc := bn_F hc | with_reducible replace hc := bb_F hc | skip
  simp only at hc
  obtain rfl : k = n := by omega
  by_cases h0 : 0 < k
  case neg =>
    refine WT_exit rfl ?_
    refine WT_seq ?_
    refine WT_seq ?_
    refine WT_region ?_
    refine WL_v rfl (ov_move rfl) ?_
    refine WL_v rfl (ov_F (ov_gtr rfl rfl) (by first | exact decide_eq_false h0 | exact nb_F h0 | exact mb_F h0 | exact h0 | (simp only [decide_eq_false_iff_not]; omega) | simpa using h0)) ?_
    refine WL_v rfl (ov_move rfl) ?_
    refine WL_guardOff rfl rfl rfl rfl ?_
    refine WL_guardOff rfl rfl rfl rfl ?_
    refine WL_guardOff rfl rfl rfl rfl ?_
    refine WL_v rfl (ov_pickF rfl rfl) ?_
    refine WL_nil ?_
    refine WT_condF rfl ?_
    refine WT_skip ?_
    refine WT_seq ?_
    refine WT_region ?_
    refine WL_v rfl (ov_move rfl) ?_
    refine WL_v rfl (ov_assign rfl) ?_
    refine WL_nil ?_
    exact WT_ret1 Tryz.func113 Tryz.results113 rfl ⟨X, r, p', hX, hr, by omega, hH⟩
  refine WT_exit rfl ?_
  refine WT_seq ?_
  refine WT_seq ?_
  refine WT_region ?_
  refine WL_v rfl (ov_move rfl) ?_
  refine WL_v rfl (ov_T (ov_gtr rfl rfl) (by first | exact decide_eq_true h0 | exact nb_T h0 | exact mb_T h0 | exact h0 | (simp only [decide_eq_true_eq]; omega) | simpa using h0)) ?_
  refine WL_v rfl (ov_move rfl) ?_
  refine WL_guardOn rfl rfl ?_
  refine WL_v rfl (ov_move rfl) ?_
  refine WL_guardOn rfl rfl ?_
  refine WL_call rfl rfl cf_p_spec_l6Rd_pick (pick_ok (hH.pull 1 rfl) hB (by omega) 50) ?_; rintro _ w4 ⟨r1, rfl, hr1, hH4⟩
  refine WL_guardOn rfl rfl ?_
  refine WL_v rfl (ov_eql rfl rfl) ?_
  refine WL_v rfl (ov_pickT rfl rfl) ?_
  refine WL_nil ?_
  refine WT_cond rfl (fun h1 => ?_) (fun h1 => ?_)
  · skip
    first | with_reducible replace h1 := of_decide_eq_true h1 | with_reducible replace h1 := bn_T h1 | with_reducible replace h1 := bb_T h1 | skip
    refine WT_region ?_
    refine WL_v rfl (ov_move rfl) ?_
    refine WL_v rfl (ov_move rfl) ?_
    refine WL_v rfl (ov_move rfl) ?_
    refine WL_call rfl rfl cf_p_spec_l6Rd_pick (pick_ok hH4 hB (by omega) k) ?_; rintro _ w5 ⟨r2, rfl, hr2, hH5⟩
    refine WL_bsIN [-1, 1008, 1009] rfl hH5 rfl (run_bs_int3 _ _ _) rfl (by omega) ?_; rintro Y yv w6 hY hH6
    refine WL_v rfl (ov_move rfl) ?_
    refine WL_call rfl rfl cf_p_spec_l6Rd_pick (pick_ok (hH6.pull 1 rfl) hB (by omega) 3) ?_; rintro _ w7 ⟨r3, rfl, hr3, hH7⟩
    refine WL_v rfl (ov_index rfl rfl st_sl_int hY.sl (by have := hr3.1 (by omega); simp only [List.length_cons, List.length_nil]; omega)) ?_
    refine WL_v rfl (ov_load rfl one_int (hY.cell hH7 (i := 1) rfl (by have := hr3.1 (by omega); simp only [List.length_cons, List.length_nil]; omega))) ?_
    refine WL_v rfl (ov_index rfl rfl st_sl_int hX.sl (by have := hr2.1 (by omega); omega)) ?_
    refine WL_storeI hH7 rfl rfl (i := 2) rfl hX (by have := hr2.1 (by omega); omega) sz_int ?_; rintro X2 w8 hX2 hH8
    refine WL_nil ?_
    refine WT_seq ?_
    refine WT_region ?_
    refine WL_v rfl (ov_move rfl) ?_
    refine WL_v rfl (ov_assign rfl) ?_
    refine WL_nil ?_
    exact WT_ret1 Tryz.func113 Tryz.results113 rfl ⟨X2, _, p' + 1 + 1 + 1, hX2, by simp [hr], by omega, (hH8.pull 2 rfl).del 2 rfl⟩
  first | with_reducible replace h1 := of_decide_eq_false h1 | with_reducible replace h1 := bn_F h1 | with_reducible replace h1 := bb_F h1 | skip
  refine WT_skip ?_
  refine WT_seq ?_
  refine WT_region ?_
  refine WL_v rfl (ov_move rfl) ?_
  refine WL_v rfl (ov_assign rfl) ?_
  refine WL_nil ?_
  exact WT_ret1 Tryz.func113 Tryz.results113 rfl ⟨X, r, p' + 1, hX, hr, by omega, hH4.swap⟩

/-- A node that was drawn, as a value of one's own. -/
def ONd (v : Value) (x : Nd) (F R : Heaplet) : Prop := ∃ fv rv, v = .agg [.int .i64 x.kind, fv, rv].toArray ∧ IRow F 3 fv x.frm ∧ IRow R 3 rv x.row

theorem run_build_node' (k : Int) (a b : Option Addr) (n c m d : Nat) (W : World) : (Instr.build 74 #[(0, .int .i64 k), (1, .slice a n c), (2, .slice b m d)]).run Tryz.prog W = .ok (.agg #[.int .i64 k, .slice a n c, .slice b m d]) W := by kernel_rfl
theorem run_build_node {k : Int} {u v : Value} {n m : Nat} (hu : Sl u n) (hv : Sl v m) (W : World) : (Instr.build 74 #[(0, .int .i64 k), (1, u), (2, v)]).run Tryz.prog W = .ok (.agg #[.int .i64 k, u, v]) W := by
  obtain ⟨_, _, rfl, _⟩ := hu.form
  obtain ⟨_, _, rfl, _⟩ := hv.form
  exact run_build_node' k _ _ _ _ _ _ W

theorem l91Node_ok {g : Nat} {bv : Value} {p : Nat} {bs : List Int} (hH : H w h (rdr g bv p :: Ls)) (hB : Bytes h bv bs) (hp : p ≤ 900000) (i n : Nat) (hn : n ≤ 11) :
    Rets Tryz.prog 112 #[.pointer (some ⟨g, 0, none⟩), .int .i64 (i : Int), .int .i64 (n : Int)] w fun v w' => ∃ x F R p', ONd v x F R ∧ p' ≤ p + 200 ∧ H w' h (rdr g bv p' :: F :: R :: Ls) := by
  refine rets_enter Tryz.func112 rfl Tryz.ntmps112 (by simp) ?_
  refine WT_seq ?_
  refine WT_region ?_
  refine WL_alloc #[.int .i64 0, .slice none 0 0, .slice none 0 0] rfl hH zero_impl_Node rfl ?_; rintro ga w1 hH1
  refine WL_nil ?_
  refine WT_seq ?_
  refine WT_region ?_
  refine WL_v rfl (ov_move rfl) ?_
  refine WL_call rfl rfl cf_p_spec_l6Rd_pick (pick_ok (hH1.pull 1 rfl) hB (by omega) 6) ?_; rintro _ w2 ⟨r1, rfl, hr1, hH2⟩
  refine WL_bsI0 rfl hH2 run_bs_int0 ?_; rintro X1 xv1 w3 hX1 hH3
  refine WL_bsI0 rfl hH3 run_bs_int0 ?_; rintro X2 xv2 w4 hX2 hH4
  refine WL_v rfl (ov_build rfl (run_build_node hX1.sl hX2.sl)) ?_
  refine WL_alloc #[.int .i64 0, .slice none 0 0, .slice none 0 0] rfl hH4 zero_impl_Node rfl ?_; rintro gb w5 hH5
  refine WL_storeN hH5 rfl rfl (i := 0) rfl rfl rfl (ones_cons rfl (ones_cons hX1.sl.one (ones_cons hX2.sl.one ones_nil))) sz_impl_Node ?_; rintro w6 hH6
  refine WL_nil ?_
  refine WT_seq ?_
  refine WT_seq ?_
  refine WT_region ?_
  refine WL_v rfl (ov_move rfl) ?_
  refine WL_v rfl (ov_eql rfl rfl) ?_
  refine WL_nil ?_
  replace hH6 := (hH6.pull 3 rfl)
  refine WT_join (ι := Int) (fun _ => [(0, .pointer (some ⟨g, 0, none⟩)), (1, .int .i64 (i : Int)), (2, .int .i64 (n : Int)), (6, .pointer (some ⟨ga, 0, none⟩)), (7, .pointer (some ⟨gb, 0, none⟩))]) (fun k w => H w h (rdr g bv (p + 1) :: [(gb, .cells #[.int .i64 k, xv1, xv2] 74 (0, 0))] :: X2 :: X1 :: [(ga, .cells #[.int .i64 0, .slice none 0 0, .slice none 0 0] 74 (0, 0))] :: Ls)) (fun joined => ?_) ?_
  · skip
    refine WT_cond rfl (fun h0 => ?_) (fun h0 => ?_)
    · skip
      first | with_reducible replace h0 := of_decide_eq_true h0 | with_reducible replace h0 := bn_T h0 | with_reducible replace h0 := bb_T h0 | skip
      refine WT_region ?_
      refine WL_v rfl (ov_field rfl fo_impl_Node_0) ?_
      refine WL_store hH6 rfl rfl (i := 1) (off := 0) rfl rfl (by simp) rfl sz_int ?_; rintro w7 hH7
      refine WL_nil ?_
      exact joined _ _ _ (by repeat (first | exact trivial | refine ⟨rfl, ?_⟩)) hH7
    first | with_reducible replace h0 := of_decide_eq_false h0 | with_reducible replace h0 := bn_F h0 | with_reducible replace h0 := bb_F h0 | skip
    refine WT_skip ?_
    exact joined _ _ _ (by repeat (first | exact trivial | refine ⟨rfl, ?_⟩)) hH6
  clear hH hH1 hH2 hH3 hH4 hH5 hH6
  rintro k w7 hH7
  refine WT_seq ?_
  refine WT_seq ?_
  refine WT_region ?_
  refine WL_v rfl (ov_field rfl fo_impl_Node_0) ?_
  refine WL_v rfl (ov_load rfl one_int (hH7.cb 1 rfl 0)) ?_
  refine WL_v rfl (ov_eql rfl rfl) ?_
  refine WL_nil ?_
  refine WT_join (ι := Value) (fun _ => [(0, .pointer (some ⟨g, 0, none⟩)), (1, .int .i64 (i : Int)), (6, .pointer (some ⟨ga, 0, none⟩)), (7, .pointer (some ⟨gb, 0, none⟩))]) (fun rv w => ∃ R r p', IRow R 3 rv r ∧ p' ≤ p + 1 + 100 ∧ H w h (rdr g bv p' :: [(gb, .cells #[.int .i64 k, xv1, rv] 74 (0, 0))] :: R :: X1 :: [(ga, .cells #[.int .i64 0, .slice none 0 0, .slice none 0 0] 74 (0, 0))] :: Ls)) (fun joined => ?_) ?_
  · skip
    refine WT_cond rfl (fun h0 => ?_) (fun h0 => ?_)
    · skip
      first | with_reducible replace h0 := of_decide_eq_true h0 | with_reducible replace h0 := bn_T h0 | with_reducible replace h0 := bb_T h0 | skip
      refine WT_region ?_
      refine WL_v rfl (ov_move rfl) ?_
      refine WL_v rfl (ov_move rfl) ?_
      refine WL_call rfl rfl cf_spec_l91Row (l91Row_ok hH7 hB (by omega) n (by omega)) ?_; rintro rv w8 ⟨R, r, p', hR, hrl, hp', hH8⟩
      refine WL_v rfl (ov_field rfl fo_impl_Node_2) ?_
      refine WL_store hH8 rfl rfl (i := 2) (off := 2) rfl rfl (by simp) hR.sl.one sz_sl_int ?_; rintro w9 hH9
      refine WL_nil ?_
      exact joined rv _ _ (by repeat (first | exact trivial | refine ⟨rfl, ?_⟩)) ⟨R, r, p', hR, hp', ((hH9.del 3 rfl).pull 2 rfl).pull 2 rfl⟩
    first | with_reducible replace h0 := of_decide_eq_false h0 | with_reducible replace h0 := bn_F h0 | with_reducible replace h0 := bb_F h0 | skip
    refine WT_skip ?_
    exact joined xv2 _ _ (by repeat (first | exact trivial | refine ⟨rfl, ?_⟩)) ⟨X2, [], p + 1, hX2, by omega, hH7⟩
  clear hH7 hX2
  rintro rv w8 ⟨R, r, p1, hR, hp1, hH8⟩
  refine WT_seq ?_
  refine WT_seq ?_
  refine WT_region ?_
  refine WL_v rfl (ov_assign rfl) ?_
  refine WL_nil ?_
  refine WT_block ?_
  refine WT_while (fun s : Nat × Value => [(0, .pointer (some ⟨g, 0, none⟩)), (1, .int .i64 (i : Int)), (6, .pointer (some ⟨ga, 0, none⟩)), (7, .pointer (some ⟨gb, 0, none⟩)), (8, .int .i64 (s.1 : Int))]) (fun s w => s.1 ≤ 2 ∧ ∃ X f p', IRow X 3 s.2 f ∧ f.length = s.1 ∧ p' ≤ p + 1 + 100 + s.1 ∧ H w h (rdr g bv p' :: [(gb, .cells #[.int .i64 k, s.2, rv] 74 (0, 0))] :: R :: X :: [(ga, .cells #[.int .i64 0, .slice none 0 0, .slice none 0 0] 74 (0, 0))] :: Ls)) (fun s => 2 - s.1) (0, xv1) (by repeat (first | exact trivial | refine ⟨rfl, ?_⟩)) ⟨by omega, X1, [], p1, hX1, rfl, by simp only; omega, hH8⟩ ?_
  clear hH8 hX1
  rintro ⟨j, fv⟩ w9 ⟨hj, X, f, p2, hX, hfl, hp2, hH9⟩ again
  simp only at hj hX hfl hp2
  have hkn := kindNeeds_le k
  refine WT_seq ?_
  refine WT_seq ?_
  refine WT_region ?_
  refine WL_v rfl (ov_move rfl) ?_
  refine WL_v rfl (ov_field rfl fo_impl_Node_0) ?_
  refine WL_v rfl (ov_load rfl one_int (hH9.cb 1 rfl 0)) ?_
  refine WL_call rfl rfl cf_spec_KindNeeds (sKindNeeds_ok hH9 k) ?_; rintro _ w10 ⟨rfl, hH10⟩
  refine WL_v rfl (ov_lss rfl rfl) ?_
  refine WL_nil ?_
  refine WT_cond rfl (fun hc => ?_) (fun hc => ?_)
  · skip
    first | with_reducible replace hc := of_decide_eq_true hc | with_reducible replace hc := bn_T hc | with_reducible replace hc := bb_T hc | skip
    simp only at hc
    refine WT_skip ?_
    refine WT_seq ?_
    refine WT_block ?_
    refine WT_mixO (i := 1) [(0, 0), (1, 0), (2, 0), (3, 0), (4, 2), (5, 2), (6, 2), (7, 0), (8, 3)] mixed (by kernel_rfl) hH10 rfl ?_
    clear hH10
    intro w11 hH10 hC
    refine WM_v rfl rfl hC (fun _ _ => ov_field rfl fo_impl_Node_1) ?_
    refine WM_v rfl rfl hC (fun _ ⟨_, hH⟩ => ov_load rfl one_sl_int (hH.cb 1 rfl 1)) ?_
    refine WM_v rfl rfl hC (fun _ _ => ov_move rfl) ?_
    refine WM_v rfl rfl hC (fun _ _ => ov_move rfl) ?_
    refine WM_e rfl ?_
    refine WL_call rfl rfl cf_p_spec_l6Rd_pick (pick_ok hH10 hB (by omega) i) ?_; rintro _ w12 ⟨r1, rfl, hr1, hH12⟩
    replace hC : Cl _ _ _ := Cl.one hH12 (i := 1) rfl
    refine WL_mix (fun _ => hC) ?_
    refine WM_e rfl ?_
    refine WL_bsI rfl hH12 rfl (run_bs_int _) ?_; rintro Y yv w13 hY hH13
    replace hC : Cl _ _ _ := Cl.one hH13 (i := 2) rfl
    refine WL_mix (fun _ => hC) ?_
    refine WM_e rfl ?_
    refine WL_appI (i := 4) (j := 0) rfl hH13 rfl rfl st_sl_int rfl hX rfl hY (by simp; omega) (by simp; omega) ?_; rintro X2 fv2 w14 hX2 hH14
    replace hC : Cl _ _ _ := Cl.one hH14 (i := 2) rfl
    refine WL_mix (fun _ => hC) ?_
    refine WM_v rfl rfl hC (fun _ _ => ov_field rfl fo_impl_Node_1) ?_
    refine WM_e rfl ?_
    refine WL_store hH14 rfl rfl (i := 2) (off := 1) rfl rfl (by simp) hX2.sl.one sz_sl_int ?_; rintro w15 hH15
    refine WL_mix (fun h => absurd rfl h) ?_
    refine WM_nil ?_
    refine WT_inBlock ?_
    refine WT_region ?_
    refine WL_v rfl (ov_move rfl) ?_
    refine WL_v rfl (ov_add rfl rfl (by omega)) ?_
    refine WL_v rfl (ov_assign rfl) ?_
    refine WL_nil ?_
    refine again (j + 1, fv2) _ _ (by simp only; omega) (by repeat (first | exact trivial | refine ⟨rfl, ?_⟩)) ⟨by simp only; omega, X2, _, p2 + 1, hX2, by simp [hfl], by simp only; omega, hH15.drop⟩
  first | with_reducible replace hc := of_decide_eq_false hc | with_reducible replace hc := bn_F hc | with_reducible replace hc := bb_F hc | skip
  refine WT_exit rfl ?_
  refine WT_seq ?_
  refine WT_region ?_
  refine WL_v rfl (ov_loadN [.int .i64 k, fv, rv] rfl agg_impl_Node rfl ((fun j v hj => by rw [show Addr.add ⟨gb, 0, none⟩ j = ⟨gb, j, none⟩ by simp [add_of]]; exact (hH10.cb 1 rfl j).trans (by simpa using hj)))) ?_
  refine WL_storeN hH10 rfl rfl (i := 4) rfl rfl rfl (ones_cons rfl (ones_cons hX.sl.one (ones_cons hR.sl.one ones_nil))) sz_impl_Node ?_; rintro w11 hH11
  refine WL_nil ?_
  have hl : (loadVar 74 ⟨ga, 0, none⟩).run Tryz.prog w11 = .ok (.agg [.int .i64 k, fv, rv].toArray) w11 :=
    run_loadVarN agg_impl_Node rfl fun j v hj => by rw [show Addr.add ⟨ga, 0, none⟩ j = ⟨ga, j, none⟩ by simp [add_of]]; exact (hH11.cb 4 rfl j).trans (by simpa using hj)
  exact WT_retC Tryz.func112 Tryz.results112 rfl hl ⟨⟨k, f, r⟩, X, R, p2, ⟨fv, rv, rfl, hX, hR⟩, by omega, (((hH11.del 4 rfl).del 1 rfl).pull 2 rfl).swap⟩
end
end Go.Proofs.YteagnhdhafiofaaGreat

/- Walks: the draw of a plan. -/
namespace Go.Proofs.YteagnhdhafiofaaGreat
open Go.RowKit

section
variable {h : GH} {Ls : List Heaplet} {w : World}

theorem OAt.new {Is : List Heaplet} {xs : List Value} {x : Nd} {fv rv : Value} {F R : Heaplet} {k : Nat} (hF : IRow F 3 fv x.frm) (hR : IRow R 3 rv x.row) (hil : Is.length = 2 * k) (hxl : xs.length = k * 3) : OAt (Is ++ [F, R]) (xs ++ [.int .i64 x.kind, fv, rv]) k x := by
  refine ⟨fv, rv, F, R, fun j u hj => ?_, ?_, ?_, hF, hR⟩
  · rw [List.getElem?_append_right (by omega), hxl, show k * 3 + j - k * 3 = j by omega]; exact hj
  · rw [List.getElem?_append_right (by omega), hil]; simp
  · rw [List.getElem?_append_right (by omega), hil, show 2 * k + 1 - 2 * k = 1 by omega]; rfl

/-- A plan of one's own with one node more. -/
theorem OPlan.snoc {O' : Heaplet} {Is : List Heaplet} {v' : Value} {p : List Nd} {xs : List Value} {x : Nd} {fv rv : Value} {F R : Heaplet} (hil : Is.length = 2 * p.length) (hxl : xs.length = p.length * 3) (hat : ∀ i (hi : i < p.length), OAt Is xs i p[i])
    (hO : Row O' 74 3 v' (p.length + 1) (xs ++ [.int .i64 x.kind, fv, rv])) (hF : IRow F 3 fv x.frm) (hR : IRow R 3 rv x.row) : OPlan O' (Is ++ [F, R]) v' (p ++ [x]) := by
  refine ⟨by simp [hil]; omega, _, by simpa using hO, fun i hi => ?_⟩
  rw [List.getElem_append]
  split
  · rename_i h1
    exact (hat i h1).mono fun j hj => by rw [List.getElem?_append_left (by rw [hxl]; omega)]
  · rename_i h1
    have : i = p.length := by simp at hi; omega
    subst this
    simpa using OAt.new hF hR hil hxl

theorem OAt.ofSet {Is : List Heaplet} {xs : List Value} {x : Nd} {fv rv : Value} {F R : Heaplet} {k : Nat} (hF : IRow F 3 fv x.frm) (hR : IRow R 3 rv x.row) (hil : 2 * k + 1 < Is.length) (hxl : k * 3 + 3 ≤ xs.length) : OAt ((Is.set (2 * k) F).set (2 * k + 1) R) (splice xs (k * 3) [.int .i64 x.kind, fv, rv]) k x := by
  refine ⟨fv, rv, F, R, fun j u hj => ?_, ?_, ?_, hF, hR⟩
  · have : j < 3 := (List.getElem?_eq_some_iff.1 hj).1
    rw [splice_get (by simpa using hxl), if_neg (by omega), if_pos (by simp only [List.length_cons, List.length_nil]; omega), show k * 3 + j - k * 3 = j by omega]
    exact hj
  · rw [List.getElem?_set, if_neg (by omega), List.getElem?_set, if_pos rfl, if_pos (by omega)]
  · rw [List.getElem?_set, if_pos rfl, if_pos (by simp; omega)]
/-- A node of a plan of one's own is replaced. -/
theorem OPlan.set {O' : Heaplet} {Is : List Heaplet} {v : Value} {p : List Nd} {xs : List Value} {x : Nd} {fv rv : Value} {F R : Heaplet} {k : Nat} (hk : k < p.length) (hil : Is.length = 2 * p.length) (hxl : xs.length = p.length * 3) (hat : ∀ i (hi : i < p.length), OAt Is xs i p[i])
    (hO : Row O' 74 3 v p.length (splice xs (k * 3) [.int .i64 x.kind, fv, rv])) (hF : IRow F 3 fv x.frm) (hR : IRow R 3 rv x.row) : OPlan O' ((Is.set (2 * k) F).set (2 * k + 1) R) v (p.set k x) := by
  refine ⟨by simp [hil], _, by simpa using hO, fun i hi => ?_⟩
  have hi' : i < p.length := by simpa using hi
  rw [List.getElem_set]
  split
  · rename_i h1
    subst h1
    exact OAt.ofSet hF hR (by omega) (by omega)
  · rename_i h1
    obtain ⟨fv', rv', F', R', g1, g2, g3, g4, g5⟩ := hat i hi'
    refine ⟨fv', rv', F', R', fun j u hj => ?_, ?_, ?_, g4, g5⟩
    · have : j < 3 := (List.getElem?_eq_some_iff.1 hj).1
      rw [splice_get (by simp only [List.length_cons, List.length_nil]; omega)]
      simp only [List.length_cons, List.length_nil]
      rcases Nat.lt_or_ge i k with h2 | h2
      · rw [if_pos (by omega)]; exact g1 j u hj
      · rw [if_neg (by omega), if_neg (by omega)]; exact g1 j u hj
    · rw [List.getElem?_set, if_neg (by omega), List.getElem?_set, if_neg (by omega)]; exact g2
    · rw [List.getElem?_set, if_neg (by omega), List.getElem?_set, if_neg (by omega)]; exact g3

theorem run_bs_node' (k : Int) (a b : Option Addr) (n c m d : Nat) (W : World) : (Instr.buildSlice 23 1 #[(0, .agg #[.int .i64 k, .slice a n c, .slice b m d])]).run Tryz.prog W = .ok (.slice (some ⟨W.heap.size, 0, none⟩) 1 1) (W.alloc (.cells [.int .i64 k, .slice a n c, .slice b m d].toArray 74)) := by kernel_rfl
theorem run_bs_node {k : Int} {u v : Value} {n m : Nat} (hu : Sl u n) (hv : Sl v m) (W : World) : (Instr.buildSlice 23 1 #[(0, .agg [.int .i64 k, u, v].toArray)]).run Tryz.prog W = .ok (.slice (some ⟨W.heap.size, 0, none⟩) 1 1) (W.alloc (.cells [.int .i64 k, u, v].toArray 74)) := by
  obtain ⟨_, _, rfl, _⟩ := hu.form
  obtain ⟨_, _, rfl, _⟩ := hv.form
  exact run_bs_node' k _ _ _ _ _ _ W
theorem run_bs_node0 (W : World) : (Instr.buildSlice 23 0 #[]).run Tryz.prog W = .ok (.slice (some ⟨W.heap.size, 0, none⟩) 0 0) (W.alloc (.cells ([] : List Value).toArray 74)) := by kernel_rfl
theorem run_build_from' (k : Int) (a : Option Addr) (n c : Nat) (W : World) : (Instr.build 74 #[(0, .int .i64 k), (1, .slice a n c)]).run Tryz.prog W = .ok (.agg [.int .i64 k, .slice a n c, .slice none 0 0].toArray) W := by kernel_rfl
theorem run_build_from {k : Int} {u : Value} {n : Nat} (hu : Sl u n) (W : World) : (Instr.build 74 #[(0, .int .i64 k), (1, u)]).run Tryz.prog W = .ok (.agg [.int .i64 k, u, .slice none 0 0].toArray) W := by
  obtain ⟨_, _, rfl, _⟩ := hu.form
  exact run_build_from' k _ _ _ W
theorem run_build_row' (k : Int) (a : Option Addr) (n c : Nat) (W : World) : (Instr.build 74 #[(0, .int .i64 k), (2, .slice a n c)]).run Tryz.prog W = .ok (.agg [.int .i64 k, .slice none 0 0, .slice a n c].toArray) W := by kernel_rfl
theorem run_build_row {k : Int} {u : Value} {n : Nat} (hu : Sl u n) (W : World) : (Instr.build 74 #[(0, .int .i64 k), (2, u)]).run Tryz.prog W = .ok (.agg [.int .i64 k, .slice none 0 0, u].toArray) W := by
  obtain ⟨_, _, rfl, _⟩ := hu.form
  exact run_build_row' k _ _ _ W

theorem H.addFR {A F R O : Heaplet} {Is : List Heaplet} (hH : H w h (A :: F :: R :: O :: (Is ++ Ls))) : H w h (A :: O :: ((Is ++ [F, R]) ++ Ls)) := by
  refine hH.perm (.cons _ ?_)
  have h2 : (F :: R :: O :: (Is ++ Ls)).Perm (O :: ([F, R] ++ (Is ++ Ls))) := by
    have : ([F, R] ++ O :: (Is ++ Ls)).Perm (O :: ([F, R] ++ (Is ++ Ls))) := List.perm_middle
    simpa using this
  have h3 : ([F, R] ++ (Is ++ Ls)).Perm ((Is ++ [F, R]) ++ Ls) := by
    rw [← List.append_assoc]
    exact List.perm_append_comm.append_right Ls
  exact h2.trans (.cons _ h3)
/-- Two lists take the places of two others. -/
theorem H.setFR {A F R O : Heaplet} {Is : List Heaplet} {k : Nat} (hH : H w h (F :: R :: A :: O :: (Is ++ Ls))) (hk : 2 * k + 1 < Is.length) : H w h (A :: O :: (((Is.set (2 * k) F).set (2 * k + 1) R) ++ Ls)) := by
  have h1 := hH.inPlace (2 * k + 3) (Y := Is[2 * k]) (by
    rw [show 2 * k + 3 = (2 * k) + 1 + 1 + 1 by omega]
    simp only [List.getElem?_cons_succ]
    rw [List.getElem?_append_left (by omega), List.getElem?_eq_getElem])
  rw [show 2 * k + 3 = (2 * k) + 1 + 1 + 1 by omega] at h1
  simp only [List.set_cons_succ] at h1
  rw [List.set_append_left _ _ (by omega)] at h1
  have h2 := h1.inPlace (2 * k + 3) (Y := Is[2 * k + 1]) (by
    rw [show 2 * k + 3 = (2 * k + 1) + 1 + 1 by omega]
    simp only [List.getElem?_cons_succ]
    rw [List.getElem?_append_left (by simp; omega), List.getElem?_set, if_neg (by omega), List.getElem?_eq_getElem])
  rw [show 2 * k + 3 = (2 * k + 1) + 1 + 1 by omega] at h2
  simp only [List.set_cons_succ] at h2
  rwa [List.set_append_left _ _ (by simp; omega)] at h2

theorem l91Plan_ok {g : Nat} {bv : Value} {p0 : Nat} {bs : List Int} (hH : H w h (rdr g bv p0 :: Ls)) (hB : Bytes h bv bs) (hp : p0 ≤ 100000) :
    Rets Tryz.prog 94 #[.pointer (some ⟨g, 0, none⟩)] w fun v w' => ∃ p O Is p', OPlan O Is v p ∧ p.length ≤ 11 ∧ p' ≤ p0 + 4000 ∧ H w' h (rdr g bv p' :: O :: (Is ++ Ls)) := by
  refine rets_enter Tryz.func94 rfl Tryz.ntmps94 (by simp) ?_
  refine WT_seq ?_
  refine WT_region ?_
  refine WL_v rfl (ov_assign rfl) ?_
  refine WL_nil ?_
  refine WT_seq ?_
  refine WT_region ?_
  refine WL_buildSlice (sz := 3) (parts := []) (vs := []) [] rfl hH rfl run_bs_node0 rfl (by omega) ?_; rintro O0 ov0 w1 hO0 hH1
  refine WL_v rfl (ov_assign rfl) ?_
  refine WL_nil ?_
  refine WT_seq ?_
  refine WT_region ?_
  refine WL_v rfl (ov_move rfl) ?_
  refine WL_call rfl rfl cf_p_spec_l6Rd_pick (pick_ok (hH1.pull 1 rfl) hB (by omega) 4) ?_; rintro _ w2 ⟨wd, rfl, hwd, hH2⟩
  refine WL_v rfl (ov_assign rfl) ?_
  refine WL_nil ?_
  refine WT_seq ?_
  refine WT_region ?_
  refine WL_v rfl (ov_move rfl) ?_
  refine WL_call rfl rfl cf_p_spec_l6Rd_pick (pick_ok hH2 hB (by omega) 8) ?_; rintro _ w3 ⟨r1, rfl, hr1, hH3⟩
  refine WL_v rfl (ov_add rfl rfl (by have := hr1.1 (by omega); omega)) ?_
  refine WL_v rfl (ov_assign rfl) ?_
  refine WL_nil ?_
  refine WT_seq ?_
  refine WT_seq ?_
  refine WT_region ?_
  refine WL_v rfl (ov_move rfl) ?_
  refine WL_call rfl rfl cf_p_spec_l6Rd_pick (pick_ok hH3 hB (by omega) 16) ?_; rintro _ w4 ⟨r2, rfl, hr2, hH4⟩
  refine WL_v rfl (ov_eql rfl rfl) ?_
  refine WL_nil ?_
  have hwd4 := hwd.1 (by omega)
  have hr18 := hr1.1 (by omega)
  refine WT_join (ι := Nat) (fun n => [(0, .pointer (some ⟨g, 0, none⟩)), (3, ov0), (4, .int .i64 (wd : Int)), (5, .int .i64 (n : Int))]) (fun n w => n ≤ 11 ∧ ∃ p', p' ≤ p0 + 10 ∧ H w h (rdr g bv p' :: O0 :: Ls)) (fun joined => ?_) ?_
  · skip
    refine WT_cond rfl (fun h0 => ?_) (fun h0 => ?_)
    · skip
      first | with_reducible replace h0 := of_decide_eq_true h0 | with_reducible replace h0 := bn_T h0 | with_reducible replace h0 := bb_T h0 | skip
      refine WT_region ?_
      refine WL_bsIN [0, 10, 11] rfl hH4 rfl (run_bs_int3 _ _ _) rfl (by omega) ?_; rintro Y yv w5 hY hH5
      refine WL_v rfl (ov_move rfl) ?_
      refine WL_call rfl rfl cf_p_spec_l6Rd_pick (pick_ok (hH5.pull 1 rfl) hB (by omega) 3) ?_; rintro _ w6 ⟨r3, rfl, hr3, hH6⟩
      have hr33 := hr3.1 (by omega)
      obtain ⟨m, hm, hm2⟩ : ∃ m : Nat, m ≤ 11 ∧ ([0, 10, 11] : List Int)[r3]'(by simp only [List.length_cons, List.length_nil]; omega) = (m : Int) := pick_of (P := fun a => ∃ m : Nat, m ≤ 11 ∧ a = (m : Int)) (by simp only [List.length_cons, List.length_nil]; omega) (by
        intro a ha
        simp only [List.mem_cons, List.not_mem_nil, or_false] at ha
        rcases ha with rfl | rfl | rfl
        · exact ⟨0, by omega, rfl⟩
        · exact ⟨10, by omega, rfl⟩
        · exact ⟨11, by omega, rfl⟩)
      refine WL_v rfl (ov_index rfl rfl st_sl_int hY.sl (by simp only [List.length_cons, List.length_nil]; omega)) ?_
      refine WL_v rfl (ov_load rfl one_int (hY.cell hH6 (i := 1) rfl (by simp only [List.length_cons, List.length_nil]; omega))) ?_; rw [hm2]
      refine WL_v rfl (ov_assign rfl) ?_
      refine WL_nil ?_
      exact joined m _ _ (by repeat (first | exact trivial | refine ⟨rfl, ?_⟩)) ⟨hm, _, by omega, hH6.del 1 rfl⟩
    first | with_reducible replace h0 := of_decide_eq_false h0 | with_reducible replace h0 := bn_F h0 | with_reducible replace h0 := bb_F h0 | skip
    refine WT_skip ?_
    exact joined (1 + r1) _ _ ⟨rfl, rfl, rfl, by rw [show ((1 + r1 : Nat) : Int) = 1 + (r1 : Int) by omega]; rfl, trivial⟩ ⟨by omega, _, by omega, hH4⟩
  clear hH hH1 hH2 hH3 hH4
  rintro n w5 ⟨hn, p1, hp1, hH5⟩
  refine WT_seq ?_
  refine WT_seq ?_
  refine WT_region ?_
  refine WL_v rfl (ov_assign rfl) ?_
  refine WL_nil ?_
  refine WT_block ?_
  refine WT_while (fun s : Nat × Value => [(0, .pointer (some ⟨g, 0, none⟩)), (3, s.2), (4, .int .i64 (wd : Int)), (5, .int .i64 (n : Int)), (6, .int .i64 (s.1 : Int))]) (fun s w => s.1 ≤ n ∧ ∃ p O Is p', OPlan O Is s.2 p ∧ p.length = s.1 ∧ p' ≤ p0 + 10 + 200 * s.1 ∧ H w h (rdr g bv p' :: O :: (Is ++ Ls))) (fun s => n - s.1) (0, ov0) (by repeat (first | exact trivial | refine ⟨rfl, ?_⟩)) ⟨by omega, [], O0, [], p1, ⟨rfl, [], hO0, by simp⟩, rfl, by simp only; omega, hH5⟩ ?_
  clear hH5 hO0
  rintro ⟨k, ov⟩ w6 ⟨hk, p, O, Is, p2, hO, hpl, hp2, hH6⟩ again
  simp only at hk hpl hp2 hO
  refine WT_seq ?_
  refine WT_seq ?_
  refine WT_region ?_
  refine WL_v rfl (ov_move rfl) ?_
  refine WL_v rfl (ov_move rfl) ?_
  refine WL_v rfl (ov_lss rfl rfl) ?_
  refine WL_nil ?_
  refine WT_cond rfl (fun hc => ?_) (fun hc => ?_)
  · skip
    first | with_reducible replace hc := of_decide_eq_true hc | with_reducible replace hc := bn_T hc | with_reducible replace hc := bb_T hc | skip
    simp only at hc
    have hkn : k < n := by omega
    obtain ⟨hil, xs, hR3, hat⟩ := hO
    refine WT_skip ?_
    refine WT_seq ?_
    refine WT_block ?_
    refine WT_region ?_
    refine WL_v rfl (ov_move rfl) ?_
    refine WL_v rfl (ov_move rfl) ?_
    refine WL_v rfl (ov_move rfl) ?_
    refine WL_v rfl (ov_move rfl) ?_
    refine WL_call rfl rfl cf_spec_l91Node (l91Node_ok hH6 hB (by omega) k wd (by omega)) ?_; rintro _ w7 ⟨x, F, R, p3, ⟨fv, rv, rfl, hF, hR⟩, hp3, hH7⟩
    refine WL_buildSlice (sz := 3) [.int .i64 x.kind, fv, rv] rfl hH7 rfl (run_bs_node hF.sl hR.sl) rfl (by omega) ?_; rintro Y yv w8 hY hH8
    refine WL_append1 (i := 4) (j := 0) (n := p.length) (m := 1) rfl hH8 rfl rfl st_sl_impl_Node (by omega) rfl hR3 rfl hY (ones_cons rfl (ones_cons hF.sl.one (ones_cons hR.sl.one ones_nil))) (by omega) (by omega) ?_; rintro O2 ov2 w9 hO2 hH9
    refine WL_v rfl (ov_assign rfl) ?_
    refine WL_nil ?_
    refine WT_inBlock ?_
    refine WT_region ?_
    refine WL_v rfl (ov_move rfl) ?_
    refine WL_v rfl (ov_add rfl rfl (by omega)) ?_
    refine WL_v rfl (ov_assign rfl) ?_
    refine WL_nil ?_
    refine again (k + 1, ov2) _ _ (by simp only; omega) (by repeat (first | exact trivial | refine ⟨rfl, ?_⟩)) ⟨by simp only; omega, p ++ [x], O2, Is ++ [F, R], p3, OPlan.snoc hil hR3.len hat hO2 hF hR, by simp [hpl], by simp only; omega, H.addFR hH9.drop⟩
  first | with_reducible replace hc := of_decide_eq_false hc | with_reducible replace hc := bn_F hc | with_reducible replace hc := bb_F hc | skip
  simp only at hc
  obtain rfl : k = n := by omega
  refine WT_exit rfl ?_
  refine WT_seq ?_
  refine WT_seq ?_
  refine WT_region ?_
  refine WL_v rfl (ov_move rfl) ?_
  refine WL_v rfl (ov_gtr rfl rfl) ?_
  refine WL_nil ?_
  refine WT_cond rfl (fun hn1 => ?_) (fun hn1 => ?_)
  · skip
    first | with_reducible replace hn1 := of_decide_eq_true hn1 | with_reducible replace hn1 := bn_T hn1 | with_reducible replace hn1 := bb_T hn1 | skip
    obtain ⟨hil, xs, hR3, hat⟩ := hO
    have hxl := hR3.len
    have ho1 : ∀ {a b c : Value}, (k - 1) * 3 + [a, b, c].length ≤ xs.length := by intro a b c; simp only [List.length_cons, List.length_nil]; omega
    have hkm : ((k - 1 : Nat) : Int) = (k : Int) - 1 := by omega
    refine WT_seq ?_
    refine WT_region ?_
    refine WL_v rfl (ov_move rfl) ?_
    refine WL_call rfl rfl cf_p_spec_l6Rd_pick (pick_ok hH6 hB (by omega) 40) ?_; rintro _ w7 ⟨r3, rfl, hr3, hH7⟩
    refine WL_nil ?_
    refine WT_block ?_
    refine WT_seq ?_
    refine WT_region ?_
    refine WL_v rfl (ov_eql rfl rfl) ?_
    refine WL_v rfl (ov_assign rfl) ?_
    refine WL_nil ?_
    refine WT_cond rfl (fun h0 => ?_) (fun h0 => ?_)
    · skip
      first | with_reducible replace h0 := of_decide_eq_true h0 | with_reducible replace h0 := bn_T h0 | with_reducible replace h0 := bb_T h0 | skip
      refine WT_region ?_
      refine WL_v rfl (ov_move rfl) ?_
      refine WL_v rfl (ov_move rfl) ?_
      refine WL_v rfl (ov_as (ov_sub rfl rfl (by omega)) (congrArg (Value.int .i64) (hkm.symm))) ?_
      refine WL_v rfl (ov_move rfl) ?_
      refine WL_v rfl (ov_as (ov_sub rfl rfl (by omega)) (congrArg (Value.int .i64) (hkm.symm))) ?_
      refine WL_bsI rfl hH7 rfl (run_bs_int _) ?_; rintro F fv w8 hF hH8
      refine WL_v rfl (ov_build rfl (run_build_from hF.sl)) ?_
      refine WL_v rfl (ov_index rfl rfl st_sl_impl_Node hR3.sl (i := k - 1) (by omega)) ?_
      refine WL_storeRowN hH8 rfl rfl (i := 2) rfl hR3 ho1 (by simp) (ones_cons rfl (ones_cons hF.sl.one (ones_cons rfl ones_nil))) sz_impl_Node ?_; rintro O2 w9 hO2 hH9
      refine WL_nil ?_
      refine WT_inBlock ?_
      refine WT_seq ?_
      refine WT_region ?_
      refine WL_v rfl (ov_move rfl) ?_
      refine WL_v rfl (ov_assign rfl) ?_
      refine WL_nil ?_
      exact WT_ret1 Tryz.func94 Tryz.results94 rfl ⟨_, O2, _, _, OPlan.set (k := k - 1) (x := ⟨4, [((k - 1 : Nat) : Int)], []⟩) (by omega) hil hxl hat hO2 hF (IRow.nil _), by simp; omega, by omega, H.setFR (hH9.nilIn.swap) (by omega)⟩
    first | with_reducible replace h0 := of_decide_eq_false h0 | with_reducible replace h0 := bn_F h0 | with_reducible replace h0 := bb_F h0 | skip
    refine WT_seq ?_
    refine WT_region ?_
    refine WL_v rfl (ov_eql rfl rfl) ?_
    refine WL_v rfl (ov_assign rfl) ?_
    refine WL_nil ?_
    refine WT_cond rfl (fun h1 => ?_) (fun h1 => ?_)
    · skip
      first | with_reducible replace h1 := of_decide_eq_true h1 | with_reducible replace h1 := bn_T h1 | with_reducible replace h1 := bb_T h1 | skip
      refine WT_region ?_
      refine WL_v rfl (ov_move rfl) ?_
      refine WL_v rfl (ov_move rfl) ?_
      refine WL_v rfl (ov_as (ov_sub rfl rfl (by omega)) (congrArg (Value.int .i64) (hkm.symm))) ?_
      refine WL_v rfl (ov_move rfl) ?_
      refine WL_v rfl (ov_move rfl) ?_
      refine WL_v rfl (ov_as (ov_add rfl rfl (by omega)) (congrArg (Value.int .i64) ((show (wd : Int) + 1 = ((wd + 1 : Nat) : Int) by omega)))) ?_
      refine WL_call rfl rfl cf_spec_l91Row (l91Row_ok hH7 hB (by omega) (wd + 1) (by omega)) ?_; rintro rv w8 ⟨R, r, p3, hR, hrl, hp3, hH8⟩
      refine WL_v rfl (ov_build rfl (run_build_row hR.sl)) ?_
      refine WL_v rfl (ov_index rfl rfl st_sl_impl_Node hR3.sl (i := k - 1) (by omega)) ?_
      refine WL_storeRowN hH8 rfl rfl (i := 2) rfl hR3 ho1 (by simp) (ones_cons rfl (ones_cons rfl (ones_cons hR.sl.one ones_nil))) sz_impl_Node ?_; rintro O2 w9 hO2 hH9
      refine WL_nil ?_
      refine WT_inBlock ?_
      refine WT_seq ?_
      refine WT_region ?_
      refine WL_v rfl (ov_move rfl) ?_
      refine WL_v rfl (ov_assign rfl) ?_
      refine WL_nil ?_
      exact WT_ret1 Tryz.func94 Tryz.results94 rfl ⟨_, O2, _, _, OPlan.set (k := k - 1) (x := ⟨0, [], r⟩) (by omega) hil hxl hat hO2 (IRow.nil _) hR, by simp; omega, by omega, H.setFR (hH9.nilIn) (by omega)⟩
    first | with_reducible replace h1 := of_decide_eq_false h1 | with_reducible replace h1 := bn_F h1 | with_reducible replace h1 := bb_F h1 | skip
    refine WT_skip ?_
    refine WT_inBlock ?_
    refine WT_seq ?_
    refine WT_region ?_
    refine WL_v rfl (ov_move rfl) ?_
    refine WL_v rfl (ov_assign rfl) ?_
    refine WL_nil ?_
    exact WT_ret1 Tryz.func94 Tryz.results94 rfl ⟨p, O, Is, _, ⟨hil, xs, hR3, hat⟩, by omega, by omega, hH7⟩
  first | with_reducible replace hn1 := of_decide_eq_false hn1 | with_reducible replace hn1 := bn_F hn1 | with_reducible replace hn1 := bb_F hn1 | skip
  refine WT_skip ?_
  refine WT_seq ?_
  refine WT_region ?_
  refine WL_v rfl (ov_move rfl) ?_
  refine WL_v rfl (ov_assign rfl) ?_
  refine WL_nil ?_
  exact WT_ret1 Tryz.func94 Tryz.results94 rfl ⟨p, O, Is, p2, hO, by omega, by omega, hH6⟩

/-- A drawn plan, shared. -/
def Drew (h : GH) (Ls : List Heaplet) (v : Value) (w' : World) : Prop := ∃ h' p, h.Le h' ∧ Plan h' v p ∧ p.length ≤ 11 ∧ H w' h' Ls

theorem drew_of {g : Nat} {bv : Value} {p' : Nat} {O : Heaplet} {Is : List Heaplet} {v : Value} {p : List Nd} (hO : OPlan O Is v p) (hl : p.length ≤ 11) (hH : H w h (rdr g bv p' :: O :: (Is ++ Ls))) : Drew h Ls v w := by
  obtain ⟨h', hle, hH2, hP, _⟩ := hO.freeze hH.drop
  exact ⟨h', p, hle, hP, hl, hH2⟩

end
end Go.Proofs.YteagnhdhafiofaaGreat

/- Walks: the draw of a plan and a node. -/
namespace Go.Proofs.YteagnhdhafiofaaGreat
open Go.RowKit

section
variable {h : GH} {Ls : List Heaplet} {w : World}

/-- A drawn plan and a number, shared. -/
def DrewAt (h : GH) (Ls : List Heaplet) (v : Value) (w' : World) : Prop := ∃ pv a, v = .tuple #[pv, .int .i64 a] ∧ -1 ≤ a ∧ a ≤ 11 ∧ Drew h Ls pv w'
end
end Go.Proofs.YteagnhdhafiofaaGreat

/- Plain laws: rounds of workers over what is ready. -/
namespace Go.Proofs.YteagnhdhafiofaaGreat

/-- Different nodes, each with all that it needs. -/
structure Closed (p : List Nd) (D : List Int) : Prop where
  nd : D.Nodup
  rg : ∀ d ∈ D, 0 ≤ d ∧ d < (p.length : Int)
  cl : ∀ d ∈ D, ∀ f ∈ (p.getD d.toNat default).frm, f ∈ D
/-- What is done behind some rounds. -/
def roundAt (p : List Nd) (k : Nat) : Nat → List Int
  | 0 => []
  | n + 1 => roundAt p k n ++ ((readyL p (roundAt p k n)).map fun (j : Nat) => (j : Int)).take k
theorem Closed.nil (p : List Nd) : Closed p [] := ⟨by simp, by simp, by simp⟩
theorem Closed.next {p : List Nd} {D : List Int} (h : Closed p D) (k : Nat) : Closed p (D ++ ((readyL p D).map fun (j : Nat) => (j : Int)).take k) := by
  have hm : ∀ d ∈ ((readyL p D).map fun (j : Nat) => (j : Int)).take k, ∃ i : Nat, d = (i : Int) ∧ i < p.length ∧ (i : Int) ∉ D ∧ ∀ f ∈ (p.getD i default).frm, f ∈ D := fun d hd => by
    obtain ⟨i, hi, rfl⟩ := List.mem_map.1 (List.mem_of_mem_take hd)
    exact ⟨i, rfl, mem_readyL.1 hi⟩
  refine ⟨List.nodup_append.2 ⟨h.nd, ?_, ?_⟩, fun d hd => ?_, fun d hd f hf => ?_⟩
  · have h1 : ((readyL p D).map fun (j : Nat) => (j : Int)).Nodup := List.Pairwise.map _ (fun a b (hab : a ≠ b) => show (a : Int) ≠ (b : Int) by omega) (readyL_nodup p D)
    exact h1.sublist (List.take_sublist _ _)
  · intro a ha b hb hab
    obtain ⟨i, rfl, _, h3, _⟩ := hm b hb
    exact h3 (hab ▸ ha)
  · rcases List.mem_append.1 hd with hd | hd
    · exact h.rg d hd
    · obtain ⟨i, rfl, h1, _⟩ := hm d hd; omega
  · rcases List.mem_append.1 hd with hd | hd
    · exact List.mem_append_left _ (h.cl d hd f hf)
    · obtain ⟨i, rfl, _, _, h4⟩ := hm d hd
      exact List.mem_append_left _ (h4 f hf)
theorem Closed.round (p : List Nd) (k n : Nat) : Closed p (roundAt p k n) := by
  induction n with
  | zero => exact Closed.nil p
  | succ n ih => exact ih.next k
theorem Closed.nats {p : List Nd} {D : List Int} (h : Closed p D) : (D.map Int.toNat).Nodup := List.pairwise_map.2 (h.nd.imp_of_mem fun ha hb hab he => hab (by have := h.rg _ ha; have := h.rg _ hb; omega))
theorem Closed.len {p : List Nd} {D : List Int} (h : Closed p D) : D.length ≤ p.length := by
  have := h.nats.length_le_of_subset (l₂ := List.range p.length) fun q hq => by
    obtain ⟨d, hd, rfl⟩ := List.mem_map.1 hq
    have := h.rg d hd
    exact List.mem_range.2 (by omega)
  simpa using this
theorem Closed.all {p : List Nd} {D : List Int} (h : Closed p D) (hl : p.length ≤ D.length) {i : Nat} (hi : i < p.length) : (i : Int) ∈ D := by
  rcases Classical.em ((i : Int) ∈ D) with h1 | h1
  · exact h1
  · exfalso
    have h2 : ((i :: D.map Int.toNat) : List Nat).Nodup := List.nodup_cons.2 ⟨fun hm => by
      obtain ⟨d, hd, he⟩ := List.mem_map.1 hm
      have := h.rg d hd
      exact h1 (by rw [show (i : Int) = d by omega]; exact hd), h.nats⟩
    have h3 := h2.length_le_of_subset (l₂ := List.range p.length) fun q hq => by
      rcases List.mem_cons.1 hq with rfl | hq
      · exact List.mem_range.2 hi
      · obtain ⟨d, hd, rfl⟩ := List.mem_map.1 hq
        have := h.rg d hd
        exact List.mem_range.2 (by omega)
    simp at h3
    omega
/-- Someone is ready while not all are done. -/
theorem Closed.some {p : List Nd} (hv : planOk p = true) {D : List Int} (_h : Closed p D) (hl : D.length < p.length) : readyL p D ≠ [] := by
  have h1 : ∃ i, i < p.length ∧ (i : Int) ∉ D := by
    rcases Classical.em (∃ i, i < p.length ∧ (i : Int) ∉ D) with h1 | h1
    · exact h1
    · exfalso
      have h2 := (List.nodup_range (n := p.length)).length_le_of_subset (l₂ := D.map Int.toNat) fun q hq => by
        have hq' := List.mem_range.1 hq
        rcases Classical.em ((q : Int) ∈ D) with h3 | h3
        · exact List.mem_map.2 ⟨_, h3, by omega⟩
        · exact absurd ⟨q, hq', h3⟩ h1
      simp at h2
      omega
  obtain ⟨i, hi, hiD⟩ := h1
  induction i using Nat.strongRecOn with
  | _ i ih =>
    rcases Classical.em (∀ f ∈ (p.getD i default).frm, f ∈ D) with h2 | h2
    · exact List.ne_nil_of_mem (mem_readyL.2 ⟨hi, hiD, h2⟩)
    · obtain ⟨f, h3⟩ := Classical.not_forall.1 h2
      obtain ⟨hf, h4⟩ := Classical.not_imp.1 h3
      have h5 := frm_pos hv hi f hf
      exact ih f.toNat (by omega) (by omega) (by rw [show (f.toNat : Int) = f by omega]; exact h4)
theorem roundAt_lt {p : List Nd} (hv : planOk p = true) {k n : Nat} (hk : 1 ≤ k) (hl : (roundAt p k n).length < p.length) : (roundAt p k n).length < (roundAt p k (n + 1)).length := by
  have h1 := (Closed.round p k n).some hv hl
  have h2 : 0 < (readyL p (roundAt p k n)).length := List.length_pos_iff.2 h1
  rw [roundAt, List.length_append, List.length_take, List.length_map]
  omega
theorem roundAt_le (p : List Nd) (k n : Nat) : (roundAt p k n).length ≤ n * k := by
  induction n with
  | zero => simp [roundAt]
  | succ n ih =>
    rw [roundAt, List.length_append, List.length_take, Nat.succ_mul]
    omega
/-- Each done node's level is less than the rounds. -/
theorem roundAt_lev {p : List Nd} (hv : planOk p = true) (k n : Nat) : ∀ d ∈ roundAt p k n, lev p d.toNat < (n : Int) := by
  induction n with
  | zero => intro d hd; simp [roundAt] at hd
  | succ n ih =>
    intro d hd
    rcases List.mem_append.1 hd with hd | hd
    · have := ih d hd; omega
    · obtain ⟨i, hi, rfl⟩ := List.mem_map.1 (List.mem_of_mem_take hd)
      obtain ⟨h1, h2, h3⟩ := mem_readyL.1 hi
      rw [Int.toNat_natCast]
      rcases (show 0 < lev p i ∨ lev p i ≤ 0 by omega) with h4 | h4
      · obtain ⟨f, _, hf, he⟩ := lev_down hv h1 h4
        have := ih _ (h3 _ hf)
        rw [Int.toNat_natCast] at this
        omega
      · omega
/-- All are done in a number of rounds, and not earlier. -/
def Rounds (p : List Nd) (k n : Nat) : Prop := p.length ≤ (roundAt p k n).length ∧ ∀ j, j < n → (roundAt p k j).length < p.length
theorem Rounds.uniq {p : List Nd} {k n m : Nat} (h1 : Rounds p k n) (h2 : Rounds p k m) : n = m := by
  rcases Nat.lt_trichotomy n m with h | h | h
  · have := h2.2 n h; have := h1.1; omega
  · exact h
  · have := h1.2 m h; have := h2.1; omega
theorem Rounds.le {p : List Nd} (hv : planOk p = true) {k n : Nat} (hk : 1 ≤ k) (h : Rounds p k n) : n ≤ p.length := by
  have h1 : ∀ j, j ≤ n → j ≤ (roundAt p k j).length := by
    intro j
    induction j with
    | zero => intro _; omega
    | succ j ih =>
      intro hj
      have h2 := ih (by omega)
      have h3 := roundAt_lt hv hk (h.2 j (by omega))
      omega
  have := h1 n (Nat.le_refl _)
  have := (Closed.round p k n).len
  omega
theorem Rounds.mul {p : List Nd} {k n : Nat} (h : Rounds p k n) : p.length ≤ n * k := Nat.le_trans h.1 (roundAt_le p k n)
theorem Rounds.lev {p : List Nd} (hv : planOk p = true) {k n : Nat} (h : Rounds p k n) : levCount p ≤ (n : Int) := by
  rcases (show 0 < levCount p ∨ levCount p ≤ 0 by omega) with h1 | h1
  · obtain ⟨i, hi, he⟩ := lev_some hv 0 (levCount p - 1) (by omega) (by omega)
    have h2 := (Closed.round p k n).all h.1 hi
    have := roundAt_lev hv k n _ h2
    rw [Int.toNat_natCast] at this
    omega
  · omega
end Go.Proofs.YteagnhdhafiofaaGreat

/- Walks: the rounds. -/
namespace Go.Proofs.YteagnhdhafiofaaGreat
open Go.RowKit

section
variable {h : GH} {Ls : List Heaplet} {w : World}

theorem IRow.hi {X : Heaplet} {e : TypeId} {v : Value} {xs : List Int} {n : Nat} (hX : IRow X e v xs) (hn : n ≤ xs.length) : IRow X e (reslice v 0 n 1) (xs.take n) := by
  have h1 := Row.reslice hX (lo := 0) (hi := n) (by omega) hn
  unfold IRow
  rw [List.length_take, Nat.min_eq_left hn, List.map_take]
  simpa using h1

theorem workersFit_ok (hH : H w h Ls) (n : Int) : Rets Tryz.prog 44 #[.int .i64 n] w fun v w' => v = .bool (decide (1 ≤ n ∧ n ≤ 4)) ∧ H w' h Ls := by
  refine rets_enter Tryz.func44 rfl Tryz.ntmps44 (by simp) ?_
  by_cases h1 : 1 ≤ n
  case neg =>
    refine WT_seq ?_
    refine WT_region ?_
    refine WL_v rfl (ov_assign rfl) ?_
    refine WL_nil ?_
    refine WT_seq ?_
    refine WT_region ?_
    refine WL_v rfl (ov_move rfl) ?_
    refine WL_v rfl (ov_F (ov_geq rfl rfl) (by first | exact decide_eq_false h1 | exact nb_F h1 | exact mb_F h1 | exact h1 | (simp only [decide_eq_false_iff_not]; omega) | simpa using h1)) ?_
    refine WL_v rfl (ov_move rfl) ?_
    refine WL_guardOff rfl rfl rfl rfl ?_
    refine WL_guardOff rfl rfl rfl rfl ?_
    refine WL_v rfl (ov_pickF rfl rfl) ?_
    refine WL_v rfl (ov_assign rfl) ?_
    refine WL_nil ?_
    exact WT_ret1 Tryz.func44 Tryz.results44 rfl ⟨by rw [decide_eq_false (fun hh => h1 hh.1)], hH⟩
  refine WT_seq ?_
  refine WT_region ?_
  refine WL_v rfl (ov_assign rfl) ?_
  refine WL_nil ?_
  refine WT_seq ?_
  refine WT_region ?_
  refine WL_v rfl (ov_move rfl) ?_
  refine WL_v rfl (ov_T (ov_geq rfl rfl) (by first | exact decide_eq_true h1 | exact nb_T h1 | exact mb_T h1 | exact h1 | (simp only [decide_eq_true_eq]; omega) | simpa using h1)) ?_
  refine WL_v rfl (ov_move rfl) ?_
  refine WL_guardOn rfl rfl ?_
  refine WL_v rfl (ov_move rfl) ?_
  refine WL_guardOn rfl rfl ?_
  refine WL_v rfl (ov_leq rfl rfl) ?_
  refine WL_v rfl (ov_pickT rfl rfl) ?_
  refine WL_v rfl (ov_assign rfl) ?_
  refine WL_nil ?_
  exact WT_ret1 Tryz.func44 Tryz.results44 rfl ⟨congrArg Value.bool (decide_eq_decide.2 (by omega)), hH⟩

/-- The rounds may be counted. -/
def turnsOk (p : List Nd) (n : Int) : Bool := planOk p && decide (1 ≤ n ∧ n ≤ 4)
/-- What the rounds are. -/
def TurnsV (p : List Nd) (n : Int) (v : Value) : Prop := (turnsOk p n = false ∧ v = .tuple #[.int .i64 0, .bool false]) ∨ ∃ k r : Nat, n = (k : Int) ∧ turnsOk p n = true ∧ Rounds p k r ∧ v = .tuple #[.int .i64 (r : Int), .bool true]

end
end Go.Proofs.YteagnhdhafiofaaGreat

/- Walks: a crew is valid. -/
namespace Go.Proofs.YteagnhdhafiofaaGreat
open Go.RowKit

/-- A crew that is read. -/
structure RdCr (h : GH) (Ls : List Heaplet) (dv cv nv rv : Value) (c : Cr) : Prop where
  dq : RdLL h Ls dv c.dq
  ct : RdL h Ls cv c.ct
  dn : RdL h Ls nv c.dn
  rw : RdLL h Ls rv c.rw
/-- It is small enough. -/
structure CrLim (c : Cr) : Prop where
  dq : c.dq.length ≤ 2000000
  dd : c.dq.flatten.length ≤ 10000000
  ct : c.ct.length ≤ 10000000
  dn : c.dn.length ≤ 10000000
  rw : c.rw.length ≤ 10000000
  rr : ∀ i (hi : i < c.rw.length), c.rw[i].length ≤ 10000000
abbrev crV (dv cv nv rv : Value) : Value := .agg #[dv, cv, nv, rv]
theorem RdCr.up {h : GH} {Ls : List Heaplet} {X : Heaplet} {dv cv nv rv : Value} {c : Cr} (hC : RdCr h Ls dv cv nv rv c) : RdCr h (X :: Ls) dv cv nv rv c := ⟨hC.dq.up, hC.ct.up, hC.dn.up, hC.rw.up⟩

theorem run_build_cp (a b : Option Addr) (n m c d : Nat) (W : World) : (Instr.build 65 #[(0, .slice a n c), (1, .slice b m d)]).run Tryz.prog W = .ok (.agg #[.slice a n c, .slice b m d]) W := by kernel_rfl
theorem run_build_pc (a1 a2 a3 a4 a5 a6 : Option Addr) (n1 n2 n3 n4 n5 n6 c1 c2 c3 c4 c5 c6 : Nat) (W : World) :
    (Instr.build 67 #[(0, .agg #[.slice a1 n1 c1, .slice a2 n2 c2]), (1, .agg #[.slice a3 n3 c3, .slice a4 n4 c4, .slice a5 n5 c5, .slice a6 n6 c6])]).run Tryz.prog W = .ok (.agg #[.slice a1 n1 c1, .slice a2 n2 c2, .slice a3 n3 c3, .slice a4 n4 c4, .slice a5 n5 c5, .slice a6 n6 c6]) W := by kernel_rfl
theorem zero_pc (W : World) : (zeroValue 67).run Tryz.prog W = .ok (.agg #[.slice none 0 0, .slice none 0 0, .slice none 0 0, .slice none 0 0, .slice none 0 0, .slice none 0 0]) W := by kernel_rfl

section
variable {h : GH} {Ls : List Heaplet} {w : World}

theorem Sl.cells1 {v : Value} {n : Nat} (hS : Sl v n) : v.cells = #[v] := by
  obtain ⟨A, c, rfl, _⟩ := hS.form
  rfl

theorem orderBegins_ok (hH : H w h Ls) {pv dv : Value} {p : List Nd} {dn : List Int} (hP : Plan h pv p) (hv : planOk p = true) (hD : RdL h Ls dv dn) : Rets Tryz.prog 45 #[pv, dv] w fun v w' => v = .bool (orderB p dn) ∧ H w' h Ls := by
  have hlen := PlanOk.len hv
  have hlim := hD.sl.lim
  have hno : ∀ k, k < dn.length → ordAt p dn k = false → orderB p dn = false := fun k hk hf => by
    cases ho : orderB p dn with
    | false => rfl
    | true => rw [(orderB_iff p dn).1 ho k hk] at hf; cases hf
  refine rets_enter Tryz.func45 rfl Tryz.ntmps45 (by simp) ?_
  refine WT_seq ?_
  refine WT_region ?_
  refine WL_v rfl (ov_assign rfl) ?_
  refine WL_nil ?_
  refine WT_seq ?_
  refine WT_region ?_
  refine WL_alloc #[.bool false, .bool false, .bool false, .bool false, .bool false, .bool false, .bool false, .bool false, .bool false, .bool false] rfl hH zero_10bool rfl ?_; rintro s w1 hH1
  refine WL_nil ?_
  refine WT_seq ?_
  refine WT_seq ?_
  refine WT_region ?_
  refine WL_v rfl (ov_move rfl) ?_
  refine WL_v rfl (ov_len rfl hD.sl st_sl_int) ?_
  refine WL_v rfl (ov_move rfl) ?_
  refine WL_nil ?_
  refine WT_block ?_
  replace hH1 : H w1 h (sbox s (fun _ => false) :: Ls) := hH1
  refine WT_while (fun k : Nat => [(0, pv), (5, ptr s), (8, dv), (9, .int .i64 (dn.length : Int)), (10, .int .i64 (k : Int))]) (fun k w => k ≤ dn.length ∧ (∀ i, i < k → ordAt p dn i = true) ∧ ∃ S : Nat → Bool, (∀ u : Nat, S u = true ↔ (u : Int) ∈ dn.take k) ∧ H w h (sbox s S :: Ls)) (fun k => dn.length - k) 0 (by repeat (first | exact trivial | refine ⟨rfl, ?_⟩)) ⟨by omega, by omega, _, by simp, hH1⟩ ?_
  clear hH hH1
  rintro k w2 ⟨hk, hall, S, hS, hH⟩ again
  refine WT_seq ?_
  refine WT_region ?_
  refine WL_v rfl (ov_lss rfl rfl) ?_
  refine WL_nil ?_
  refine WT_seq ?_
  refine WT_cond rfl (fun hc => ?_) (fun hc => ?_)
  · skip
    first | with_reducible replace hc := of_decide_eq_true hc | with_reducible replace hc := bn_T hc | with_reducible replace hc := bb_T hc | skip
    have hkd : k < dn.length := by omega
    have hgk := getDI' hkd
    have hiff := ordAt_iff p dn k
    rw [hgk] at hiff
    by_cases hin : 0 ≤ dn[k] ∧ dn[k] < (p.length : Int)
    · skip
      obtain ⟨u, hu⟩ := Int.eq_ofNat_of_zero_le hin.1
      have hup : u < p.length := by omega
      have hcell : ∀ {w}, H w h (sbox s S :: Ls) → w.cell? ((⟨s, 0, none⟩ : Addr).add (u * 1)) = some (.bool (S u)) := fun {w} hH => by
        rw [hH.cbA 0 rfl 0 u, sbox_get (by omega)]
      obtain ⟨fv, rv, hf, hrr, hnc⟩ := hP.node hup
      have hN := PlanOk.node hv hup
      have hni := fun {w : World} {Ls : List Heaplet} (hH : H w h Ls) => isNode_ok hH hP.sl dn[k]
      rw [decide_eq_true hin] at hni
      by_cases hs : S u = true
      · skip
        refine WT_skip ?_
        refine WT_seq ?_
        refine WT_block ?_
        refine WT_seq ?_
        refine WT_region ?_
        refine WL_v rfl (ov_index rfl rfl st_sl_int hD.sl hkd) ?_
        refine WL_v rfl (ov_load rfl one_int (hD.cell hH.drop hkd)) ?_
        refine WL_v rfl (ov_assign rfl) ?_
        refine WL_nil ?_
        refine WT_seq ?_
        refine WT_seq ?_
        refine WT_region ?_
        refine WL_v rfl (ov_move rfl) ?_
        refine WL_v rfl (ov_move rfl) ?_
        refine WL_call rfl rfl cf_impl_isNode (hni hH) ?_; rintro _ w3 ⟨rfl, hH3⟩
        refine WL_v rfl (ov_not rfl) ?_
        refine WL_v rfl (ov_move rfl) ?_
        refine WL_guardOn rfl rfl ?_
        refine WL_v rfl (ov_move rfl) ?_
        refine WL_guardOn rfl rfl ?_
        rw [hu]; refine WL_v rfl (ov_idxA rfl rfl arr_10bool (by omega)) ?_
        refine WL_guardOn rfl rfl ?_
        refine WL_v rfl (ov_load rfl one_bool (hcell hH3)) ?_; rw [hs]
        refine WL_v rfl (ov_pickF rfl rfl) ?_
        refine WL_v rfl (ov_move rfl) ?_
        refine WL_guardOff rfl rfl rfl rfl ?_
        refine WL_guardOff rfl rfl rfl rfl ?_
        refine WL_guardOff rfl rfl rfl rfl ?_
        refine WL_guardOff rfl rfl rfl rfl ?_
        refine WL_guardOff rfl rfl rfl rfl ?_
        refine WL_guardOff rfl rfl rfl rfl ?_
        refine WL_guardOff rfl rfl rfl rfl ?_
        refine WL_v rfl (ov_pickT rfl rfl) ?_
        refine WL_nil ?_
        refine WT_condT rfl ?_
        refine WT_seq ?_
        refine WT_region ?_
        refine WL_v rfl (ov_assign rfl) ?_
        refine WL_nil ?_
        exact WT_ret1 Tryz.func45 Tryz.results45 rfl ⟨by rw [hno k hkd (by
          cases ho : ordAt p dn k with
          | false => rfl
          | true => exact absurd (by rw [hu]; exact (hS u).1 hs) (hiff.1 ho).2.1)], hH3.drop⟩
      · skip
        have hs' : S u = false := by simpa using hs
        have hai := fun {w : World} (hH : H w h (sbox s S :: Ls)) => allIn_ok (i := 0) (s := s) (S := S) hH (hf.rdl _) rfl (fun x hx => by have := hN.frm x hx; omega)
        have hall2 : (p[u].frm.all fun f => S f.toNat) = p[u].frm.all fun f => decide (f ∈ dn.take k) := by
          rw [Bool.eq_iff_iff, List.all_eq_true, List.all_eq_true]
          have key : ∀ x ∈ p[u].frm, (S x.toNat = true ↔ x ∈ dn.take k) := fun x hx => by
            have := hN.frm x hx
            rw [hS, Int.toNat_of_nonneg this.1]
          exact ⟨fun hh x hx => decide_eq_true ((key x hx).1 (hh x hx)), fun hh x hx => (key x hx).2 (of_decide_eq_true (hh x hx))⟩
        have hpu : (p.getD dn[k].toNat default) = p[u] := by rw [hu, Int.toNat_natCast, getD_of hup]
        refine WT_skip ?_
        refine WT_seq ?_
        refine WT_block ?_
        refine WT_seq ?_
        refine WT_region ?_
        refine WL_v rfl (ov_index rfl rfl st_sl_int hD.sl hkd) ?_
        refine WL_v rfl (ov_load rfl one_int (hD.cell hH.drop hkd)) ?_
        refine WL_v rfl (ov_assign rfl) ?_
        refine WL_nil ?_
        refine WT_seq ?_
        refine WT_seq ?_
        refine WT_region ?_
        refine WL_v rfl (ov_move rfl) ?_
        refine WL_v rfl (ov_move rfl) ?_
        refine WL_call rfl rfl cf_impl_isNode (hni hH) ?_; rintro _ w3 ⟨rfl, hH3⟩
        refine WL_v rfl (ov_not rfl) ?_
        refine WL_v rfl (ov_move rfl) ?_
        refine WL_guardOn rfl rfl ?_
        refine WL_v rfl (ov_move rfl) ?_
        refine WL_guardOn rfl rfl ?_
        rw [hu]; refine WL_v rfl (ov_idxA rfl rfl arr_10bool (by omega)) ?_
        refine WL_guardOn rfl rfl ?_
        refine WL_v rfl (ov_load rfl one_bool (hcell hH3)) ?_; rw [hs']
        refine WL_v rfl (ov_pickF rfl rfl) ?_
        refine WL_v rfl (ov_move rfl) ?_
        refine WL_guardOn rfl rfl ?_
        refine WL_v rfl (ov_move rfl) ?_
        refine WL_guardOn rfl rfl ?_
        refine WL_v rfl (ov_move rfl) ?_
        refine WL_guardOn rfl rfl ?_
        refine WL_v rfl (ov_index rfl rfl st_sl_impl_Node hP.sl hup) ?_
        refine WL_guardOn rfl rfl ?_
        refine WL_v rfl (ov_field rfl fo_impl_Node_1) ?_
        refine WL_guardOn rfl rfl ?_
        refine WL_v rfl (ov_load rfl one_sl_int (hnc _ _ hH3 1 fv rfl)) ?_
        refine WL_guardOn rfl rfl ?_
        refine WL_call rfl rfl cf_impl_allIn (hai hH3) ?_; rintro _ w4 ⟨rfl, hH4⟩
        refine WL_guardOn rfl rfl ?_
        refine WL_v rfl (ov_not rfl) ?_
        refine WL_v rfl (ov_pickF rfl rfl) ?_
        refine WL_nil ?_
        refine WT_cond rfl (fun hb => ?_) (fun hb => ?_)
        · skip
          first | with_reducible replace hb := of_decide_eq_true hb | with_reducible replace hb := bn_T hb | with_reducible replace hb := bb_T hb | skip
          have hb' : (p[u].frm.all fun f => S f.toNat) = false := by simpa using hb
          refine WT_seq ?_
          refine WT_region ?_
          refine WL_v rfl (ov_assign rfl) ?_
          refine WL_nil ?_
          exact WT_ret1 Tryz.func45 Tryz.results45 rfl ⟨by rw [hno k hkd (by
            cases ho : ordAt p dn k with
            | false => rfl
            | true =>
              rw [hall2] at hb'
              have := (hiff.1 ho).2.2
              rw [hpu] at this
              rw [List.all_eq_true.2 (fun x hx => decide_eq_true (this x hx))] at hb'
              cases hb')], hH4.drop⟩
        first | with_reducible replace hb := of_decide_eq_false hb | with_reducible replace hb := bn_F hb | with_reducible replace hb := bb_F hb | skip
        have hb' : (p[u].frm.all fun f => S f.toNat) = true := by simpa using hb
        have hok : ordAt p dn k = true := hiff.2 ⟨hin, fun hm => hs ((hS u).2 (by rw [← hu]; exact hm)), fun f hf2 => by
          rw [hpu] at hf2
          rw [hall2] at hb'
          exact of_decide_eq_true (List.all_eq_true.1 hb' f hf2)⟩
        refine WT_skip ?_
        refine WT_region ?_
        refine WL_v rfl (ov_move rfl) ?_
        refine WL_v rfl (ov_idxA rfl rfl arr_10bool (by omega)) ?_
        refine WL_store hH4 rfl rfl (i := 0) (off := 0 + u) rfl (addA s 0 u) (by simp; omega) rfl sz_bool ?_; rintro w5 hH5; rw [sbox_set] at hH5
        refine WL_nil ?_
        refine WT_inBlock ?_
        refine WT_region ?_
        refine WL_v rfl (ov_add rfl rfl (by omega)) ?_
        refine WL_v rfl (ov_move rfl) ?_
        refine WL_nil ?_
        refine again (k + 1) _ _ (by omega) (by repeat (first | exact trivial | refine ⟨rfl, ?_⟩)) ⟨by omega, fun i hi => ?_, _, fun a => ?_, hH5⟩
        · rcases Nat.lt_or_ge i k with h1 | h1
          · exact hall i h1
          · obtain rfl : i = k := by omega
            exact hok
        · rw [List.take_succ_eq_append_getElem hkd, hu, List.mem_append, List.mem_singleton]
          by_cases ha : a = u
          · subst ha; simp
          · have : ¬ (a : Int) = (u : Int) := by omega
            simp [ha, this, hS]
    · skip
      have hni := fun {w : World} {Ls : List Heaplet} (hH : H w h Ls) => isNode_ok hH hP.sl dn[k]
      rw [decide_eq_false hin] at hni
      refine WT_skip ?_
      refine WT_seq ?_
      refine WT_block ?_
      refine WT_seq ?_
      refine WT_region ?_
      refine WL_v rfl (ov_index rfl rfl st_sl_int hD.sl hkd) ?_
      refine WL_v rfl (ov_load rfl one_int (hD.cell hH.drop hkd)) ?_
      refine WL_v rfl (ov_assign rfl) ?_
      refine WL_nil ?_
      refine WT_seq ?_
      refine WT_seq ?_
      refine WT_region ?_
      refine WL_v rfl (ov_move rfl) ?_
      refine WL_v rfl (ov_move rfl) ?_
      refine WL_call rfl rfl cf_impl_isNode (hni hH) ?_; rintro _ w3 ⟨rfl, hH3⟩
      refine WL_v rfl (ov_not rfl) ?_
      refine WL_v rfl (ov_move rfl) ?_
      refine WL_guardOff rfl rfl rfl rfl ?_
      refine WL_guardOff rfl rfl rfl rfl ?_
      refine WL_guardOff rfl rfl rfl rfl ?_
      refine WL_v rfl (ov_pickT rfl rfl) ?_
      refine WL_v rfl (ov_move rfl) ?_
      refine WL_guardOff rfl rfl rfl rfl ?_
      refine WL_guardOff rfl rfl rfl rfl ?_
      refine WL_guardOff rfl rfl rfl rfl ?_
      refine WL_guardOff rfl rfl rfl rfl ?_
      refine WL_guardOff rfl rfl rfl rfl ?_
      refine WL_guardOff rfl rfl rfl rfl ?_
      refine WL_guardOff rfl rfl rfl rfl ?_
      refine WL_v rfl (ov_pickT rfl rfl) ?_
      refine WL_nil ?_
      refine WT_condT rfl ?_
      refine WT_seq ?_
      refine WT_region ?_
      refine WL_v rfl (ov_assign rfl) ?_
      refine WL_nil ?_
      exact WT_ret1 Tryz.func45 Tryz.results45 rfl ⟨by rw [hno k hkd (by
        cases ho : ordAt p dn k with
        | false => rfl
        | true => exact absurd (hiff.1 ho).1 hin)], hH3.drop⟩
  first | with_reducible replace hc := of_decide_eq_false hc | with_reducible replace hc := bn_F hc | with_reducible replace hc := bb_F hc | skip
  obtain rfl : k = dn.length := by omega
  refine WT_exit rfl ?_
  refine WT_seq ?_
  refine WT_region ?_
  refine WL_v rfl (ov_assign rfl) ?_
  refine WL_nil ?_
  exact WT_ret1 Tryz.func45 Tryz.results45 rfl ⟨by rw [(orderB_iff p dn).2 hall], hH.drop⟩
end
end Go.Proofs.YteagnhdhafiofaaGreat

/- Walks: counts, deques and rows of a crew fit. -/
namespace Go.Proofs.YteagnhdhafiofaaGreat
open Go.RowKit

section
variable {h : GH} {Ls : List Heaplet} {w : World}

theorem countsDone_yes (hH : H w h Ls) {pv cv : Value} {p : List Nd} {c : List Int} (hP : Plan h pv p) (hC : RdL h Ls cv c) (hcl : c.length ≤ 1000000000) (a : Int) (hok : doneOk p c a = true) : Rets Tryz.prog 81 #[pv, cv, .int .i64 a] w fun v w' => ∃ X Y xv yv, v = .tuple #[xv, yv, .bool true] ∧ IRow X 3 xv (doneC p c a) ∧ IRow Y 3 yv (toI (doneR p c a)) ∧ H w' h (X :: Y :: Ls) :=
  (countsDone_ok hH hP hC hcl a).mono fun v w' hh => by
    obtain ⟨X, Y, xv, yv, h1, h2, h3, h4⟩ := hh
    rw [hok] at h1
    rw [doneCo, if_pos hok] at h2
    rw [doneRo, if_pos hok] at h3
    exact ⟨X, Y, xv, yv, h1, h2, h3, h4⟩

/-- A crew with its plan, in a box. -/
abbrev cpbox (b : Nat) (pv vv dv cv nv rv : Value) : Heaplet := [(b, .cells #[pv, vv, dv, cv, nv, rv] 67 (0, 0))]

theorem countsL_cnt (p : List Nd) : countsL p = cntL p [] := by
  unfold countsL cntL
  exact List.map_congr_left fun u _ => by rw [cntB_nil]

theorem countsFit_ok (hH : H w h Ls) {pv vv dv cv nv rv : Value} {p : List Nd} {c : Cr} (hP : Plan h pv p) (hv : planOk p = true) (ho : orderB p c.dn = true) (hC : RdCr h Ls dv cv nv rv c) : Rets Tryz.prog 46 #[.agg #[pv, vv, dv, cv, nv, rv]] w fun v w' => v = .bool (decide (cntL p c.dn = c.ct)) ∧ H w' h Ls := by
  have hlen := PlanOk.len hv
  have hol := nodup_lenI (order_nodup ho) (fun a ha => order_mem ho ha)
  refine rets_enter Tryz.func46 rfl Tryz.ntmps46 (by simp) ?_
  refine WT_seq ?_
  refine WT_region ?_
  refine WL_box _ rfl hH rfl rfl ?_; rintro b w1 hH1
  refine WL_v rfl (ov_assign rfl) ?_
  refine WL_nil ?_
  refine WT_seq ?_
  refine WT_region ?_
  refine WL_v rfl (ov_field rfl fo_impl_plannedCrew_0) ?_
  refine WL_v rfl (ov_field rfl fo_impl_crewPlan_0) ?_
  refine WL_v rfl (ov_load rfl one_sl_impl_Node (hH1.cb 0 rfl 0)) ?_
  refine WL_call rfl rfl cf_impl_CountsOf (countsOf_ok hH1 hP) ?_; rintro v0 w2 ⟨X0, hX0, hH2⟩
  refine WL_v rfl (ov_assign rfl) ?_
  refine WL_nil ?_
  refine WT_seq ?_
  refine WT_seq ?_
  refine WT_region ?_
  refine WL_v rfl (ov_field rfl fo_impl_plannedCrew_1) ?_
  refine WL_v rfl (ov_field rfl fo_impl_Crew_2) ?_
  refine WL_v rfl (ov_load rfl one_sl_int (hH2.cb 1 rfl 4)) ?_
  refine WL_v rfl (ov_len rfl hC.dn.sl st_sl_int) ?_
  refine WL_v rfl (ov_move rfl) ?_
  refine WL_nil ?_
  refine WT_block ?_
  rw [countsOf, if_pos hv, countsL_cnt] at hX0
  refine WT_while (fun s : Nat × Value => [(1, ptr b), (3, s.2), (15, nv), (16, .int .i64 (c.dn.length : Int)), (17, .int .i64 (s.1 : Int))]) (fun s w => s.1 ≤ c.dn.length ∧ ∃ X, IRow X 3 s.2 (cntL p (c.dn.take s.1)) ∧ H w h (X :: cpbox b pv vv dv cv nv rv :: Ls)) (fun s => c.dn.length - s.1) (0, v0) (by repeat (first | exact trivial | refine ⟨rfl, ?_⟩)) ⟨by simp, X0, by simpa using hX0, hH2⟩ ?_
  clear hH hH1 hH2 hX0 X0 v0
  rintro ⟨k, xv⟩ w3 ⟨hk, X, hX, hH⟩ again
  simp only at hk hX
  refine WT_seq ?_
  refine WT_region ?_
  refine WL_v rfl (ov_lss rfl rfl) ?_
  refine WL_nil ?_
  refine WT_seq ?_
  refine WT_cond rfl (fun hc => ?_) (fun hc => ?_)
  · skip
    first | with_reducible replace hc := of_decide_eq_true hc | with_reducible replace hc := bn_T hc | with_reducible replace hc := bb_T hc | skip
    have hkd : k < c.dn.length := by simp only at hc; omega
    obtain ⟨h1, h2⟩ := ord_step hv hkd ((orderB_iff p c.dn).1 ho k hkd)
    refine WT_skip ?_
    refine WT_seq ?_
    refine WT_block ?_
    refine WT_seq ?_
    refine WT_region ?_
    refine WL_v rfl (ov_index rfl rfl st_sl_int hC.dn.sl hkd) ?_
    refine WL_v rfl (ov_load rfl one_int (hC.dn.cell hH.drop.drop hkd)) ?_
    refine WL_v rfl (ov_assign rfl) ?_
    refine WL_nil ?_
    refine WT_seq ?_
    refine WT_region ?_
    refine WL_v rfl (ov_field rfl fo_impl_plannedCrew_0) ?_
    refine WL_v rfl (ov_field rfl fo_impl_crewPlan_0) ?_
    refine WL_v rfl (ov_load rfl one_sl_impl_Node (hH.cb 1 rfl 0)) ?_
    refine WL_v rfl (ov_move rfl) ?_
    refine WL_v rfl (ov_move rfl) ?_
    refine WL_call rfl rfl cf_impl_CountsDone (countsDone_yes hH hP (hX.rdl (i := 0) rfl) (by rw [cntL_len]; omega) _ h1) ?_; rintro _ w4 ⟨X2, Y2, xv2, yv2, rfl, hX2, hY2, hH4⟩
    refine WL_v rfl (ov_move rfl) ?_
    refine WL_v rfl (ov_extract rfl rfl) ?_
    refine WL_v rfl (ov_extract rfl rfl) ?_
    refine WL_v rfl (ov_extract rfl rfl) ?_
    refine WL_v rfl (ov_assign rfl) ?_
    refine WL_v rfl (ov_assign rfl) ?_
    refine WL_v rfl (ov_assign rfl) ?_
    refine WL_nil ?_
    refine WT_seq ?_
    refine WT_seq ?_
    refine WT_region ?_
    refine WL_v rfl (ov_move rfl) ?_
    refine WL_v rfl (ov_not rfl) ?_
    refine WL_nil ?_
    refine WT_condF rfl ?_
    refine WT_skip ?_
    refine WT_region ?_
    refine WL_v rfl (ov_move rfl) ?_
    refine WL_v rfl (ov_assign rfl) ?_
    refine WL_nil ?_
    refine WT_inBlock ?_
    refine WT_region ?_
    refine WL_v rfl (ov_add rfl rfl (by omega)) ?_
    refine WL_v rfl (ov_move rfl) ?_
    refine WL_nil ?_
    rw [h2] at hX2
    refine again (k + 1, xv2) _ _ (by simp only; omega) (by repeat (first | exact trivial | refine ⟨rfl, ?_⟩)) ⟨by simp only; omega, X2, hX2, (hH4.del 2 rfl).del 1 rfl⟩
  first | with_reducible replace hc := of_decide_eq_false hc | with_reducible replace hc := bn_F hc | with_reducible replace hc := bb_F hc | skip
  obtain rfl : k = c.dn.length := by simp only at hc; omega
  rw [List.take_length] at hX
  refine WT_exit rfl ?_
  refine WT_seq ?_
  refine WT_region ?_
  refine WL_v rfl (ov_move rfl) ?_
  refine WL_v rfl (ov_field rfl fo_impl_plannedCrew_1) ?_
  refine WL_v rfl (ov_field rfl fo_impl_Crew_1) ?_
  refine WL_v rfl (ov_load rfl one_sl_int (hH.cb 1 rfl 3)) ?_
  refine WL_call rfl rfl cf_slices_Equal_sl_int_int (equal_ok hH (hX.rdl (i := 0) rfl) hC.ct.up.up) ?_; rintro _ w4 ⟨rfl, hH4⟩
  refine WL_v rfl (ov_assign rfl) ?_
  refine WL_nil ?_
  exact WT_ret1 Tryz.func46 Tryz.results46 rfl ⟨rfl, hH4.drop.drop⟩

theorem readyI_of {p : List Nd} (hv : planOk p = true) (D : List Int) : readyOf p D = readyI p D := by
  rw [readyOf, if_pos hv]; rfl

theorem dequesFit_ok (hH : H w h Ls) {pv vv dv cv nv rv : Value} {p : List Nd} {c : Cr} (hP : Plan h pv p) (hv : planOk p = true) (hl : CrLim c) (hC : RdCr h Ls dv cv nv rv c) : Rets Tryz.prog 47 #[.agg #[pv, vv, dv, cv, nv, rv]] w fun v w' => v = .bool (dequesB p c) ∧ H w' h Ls := by
  have hlen := PlanOk.len hv
  have hrl := readyI_len_le p c.dn
  have hdl := hl.dd
  have hdq := hl.dq
  have hdn := hl.dn
  refine rets_enter Tryz.func47 rfl Tryz.ntmps47 (by simp) ?_
  refine WT_seq ?_
  refine WT_region ?_
  refine WL_box _ rfl hH rfl rfl ?_; rintro b w1 hH1
  refine WL_v rfl (ov_assign rfl) ?_
  refine WL_nil ?_
  refine WT_seq ?_
  refine WT_region ?_
  refine WL_v rfl (ov_field rfl fo_impl_plannedCrew_0) ?_
  refine WL_v rfl (ov_field rfl fo_impl_crewPlan_0) ?_
  refine WL_v rfl (ov_load rfl one_sl_impl_Node (hH1.cb 0 rfl 0)) ?_
  refine WL_v rfl (ov_field rfl fo_impl_plannedCrew_1) ?_
  refine WL_v rfl (ov_field rfl fo_impl_Crew_2) ?_
  refine WL_v rfl (ov_load rfl one_sl_int (hH1.cb 0 rfl 4)) ?_
  refine WL_call rfl rfl cf_impl_ReadyOf (readyOf_ok hH1 hP hC.dn.up (by omega)) ?_; rintro rdv w2 ⟨R, hR, hH2⟩
  refine WL_v rfl (ov_assign rfl) ?_
  refine WL_nil ?_
  refine WT_seq ?_
  refine WT_region ?_
  refine WL_v rfl (ov_assign rfl) ?_
  refine WL_nil ?_
  refine WT_seq ?_
  refine WT_seq ?_
  refine WT_region ?_
  refine WL_v rfl (ov_field rfl fo_impl_plannedCrew_1) ?_
  refine WL_v rfl (ov_field rfl fo_impl_Crew_0) ?_
  refine WL_v rfl (ov_load rfl one_sl_sl_int (hH2.cb 1 rfl 2)) ?_
  refine WL_v rfl (ov_len rfl hC.dq.sl st_sl_sl_int) ?_
  refine WL_v rfl (ov_move rfl) ?_
  refine WL_nil ?_
  refine WT_block ?_
  rw [readyI_of hv] at hR
  refine WT_while (fun s : Nat => [(1, ptr b), (3, rdv), (4, .int .i64 ((c.dq.take s).flatten.length : Int)), (17, dv), (18, .int .i64 (c.dq.length : Int)), (19, .int .i64 (s : Int))]) (fun s w => s ≤ c.dq.length ∧ (c.dq.take s).flatten.length ≤ (readyI p c.dn).length ∧ H w h (R :: cpbox b pv vv dv cv nv rv :: Ls)) (fun s => c.dq.length - s) 0 (by repeat (first | exact trivial | refine ⟨rfl, ?_⟩)) ⟨by omega, by simp, hH2⟩ ?_
  clear hH hH1 hH2
  rintro k w3 ⟨hk, hkr, hH⟩ again
  refine WT_seq ?_
  refine WT_region ?_
  refine WL_v rfl (ov_lss rfl rfl) ?_
  refine WL_nil ?_
  refine WT_seq ?_
  refine WT_cond rfl (fun hc => ?_) (fun hc => ?_)
  · skip
    first | with_reducible replace hc := of_decide_eq_true hc | with_reducible replace hc := bn_T hc | with_reducible replace hc := bb_T hc | skip
    have hkd : k < c.dq.length := by omega
    obtain ⟨u, h1, h2⟩ := hC.dq.at_ hkd
    have htf := take_flat hkd
    have hle := take_flat_le c.dq (k + 1)
    have hle2 : (c.dq.take (k + 1)).flatten.length = (c.dq.take k).flatten.length + c.dq[k].length := by rw [htf, List.length_append]
    refine WT_skip ?_
    refine WT_seq ?_
    refine WT_block ?_
    refine WT_seq ?_
    refine WT_region ?_
    refine WL_v rfl (ov_index rfl rfl st_sl_sl_int hC.dq.sl hkd) ?_
    refine WL_v rfl (ov_load rfl one_sl_int (h2 hH.drop.drop)) ?_
    refine WL_v rfl (ov_assign rfl) ?_
    refine WL_nil ?_
    refine WT_seq ?_
    refine WT_region ?_
    refine WL_v rfl (ov_move rfl) ?_
    refine WL_v rfl (ov_move rfl) ?_
    refine WL_v rfl (ov_len rfl h1.sl st_sl_int) ?_
    refine WL_v rfl (ov_as (ov_add rfl rfl (by omega)) (congrArg (Value.int .i64) ((show ((c.dq.take k).flatten.length : Int) + (c.dq[k].length : Int) = ((c.dq.take (k + 1)).flatten.length : Int) by omega)))) ?_
    refine WL_v rfl (ov_assign rfl) ?_
    refine WL_nil ?_
    refine WT_seq ?_
    refine WT_region ?_
    refine WL_v rfl (ov_move rfl) ?_
    refine WL_v rfl (ov_move rfl) ?_
    refine WL_v rfl (ov_len rfl hR.sl st_sl_int) ?_
    refine WL_v rfl (ov_gtr rfl rfl) ?_
    refine WL_nil ?_
    refine WT_cond rfl (fun hgt => ?_) (fun hgt => ?_)
    · skip
      first | with_reducible replace hgt := of_decide_eq_true hgt | with_reducible replace hgt := bn_T hgt | with_reducible replace hgt := bb_T hgt | skip
      refine WT_seq ?_
      refine WT_region ?_
      refine WL_v rfl (ov_assign rfl) ?_
      refine WL_nil ?_
      exact WT_ret1 Tryz.func47 Tryz.results47 rfl ⟨congrArg Value.bool (by
        unfold dequesB
        refine (decide_eq_false fun he => ?_).symm
        have := congrArg List.length he
        rw [isort_len] at this
        omega), hH.drop.drop⟩
    first | with_reducible replace hgt := of_decide_eq_false hgt | with_reducible replace hgt := bn_F hgt | with_reducible replace hgt := bb_F hgt | skip
    refine WT_skip ?_
    refine WT_inBlock ?_
    refine WT_region ?_
    refine WL_v rfl (ov_add rfl rfl (by omega)) ?_
    refine WL_v rfl (ov_move rfl) ?_
    refine WL_nil ?_
    refine again (k + 1) _ _ (by omega) (by repeat (first | exact trivial | refine ⟨rfl, ?_⟩)) ⟨by omega, by omega, hH⟩
  first | with_reducible replace hc := of_decide_eq_false hc | with_reducible replace hc := bn_F hc | with_reducible replace hc := bb_F hc | skip
  obtain rfl : k = c.dq.length := by omega
  rw [List.take_length] at hkr
  refine WT_exit rfl ?_
  refine WT_seq ?_
  refine WT_region ?_
  refine WL_v rfl (ov_field rfl fo_impl_plannedCrew_1) ?_
  refine WL_v rfl (ov_field rfl fo_impl_Crew_0) ?_
  refine WL_v rfl (ov_load rfl one_sl_sl_int (hH.cb 1 rfl 2)) ?_
  refine WL_call rfl rfl cf_slices_Concat_sl_int_int (concat_ok hH hC.dq.up.up (by omega)) ?_; rintro av w4 ⟨A, hA, hH4⟩
  refine WL_v rfl (ov_assign rfl) ?_
  refine WL_nil ?_
  refine WT_seq ?_
  refine WT_region ?_
  refine WL_v rfl (ov_move rfl) ?_
  refine WL_call rfl rfl cf_slices_Sort_sl_int_int (sortT_ok hH4 hA (by omega)) ?_; rintro _ w5 ⟨A2, hA2, hH5⟩
  refine WL_nil ?_
  refine WT_seq ?_
  refine WT_region ?_
  refine WL_v rfl (ov_move rfl) ?_
  refine WL_v rfl (ov_move rfl) ?_
  refine WL_call rfl rfl cf_slices_Equal_sl_int_int (equal_ok hH5 (hA2.rdl (i := 0) rfl) (hR.rdl (i := 1) rfl)) ?_; rintro _ w6 ⟨rfl, hH6⟩
  refine WL_v rfl (ov_assign rfl) ?_
  refine WL_nil ?_
  exact WT_ret1 Tryz.func47 Tryz.results47 rfl ⟨rfl, hH6.drop.drop.drop⟩

theorem isDone_ok (hH : H w h Ls) {pv vv dv cv nv rv : Value} {c : Cr} (hC : RdCr h Ls dv cv nv rv c) (a : Int) : Rets Tryz.prog 86 #[.agg #[pv, vv, dv, cv, nv, rv], .int .i64 a] w fun v w' => v = .bool (decide (a ∈ c.dn)) ∧ H w' h Ls := by
  refine rets_enter Tryz.func86 rfl Tryz.ntmps86 (by simp) ?_
  refine WT_seq ?_
  refine WT_region ?_
  refine WL_box _ rfl hH rfl rfl ?_; rintro b w1 hH1
  refine WL_v rfl (ov_assign rfl) ?_
  refine WL_nil ?_
  refine WT_seq ?_
  refine WT_region ?_
  refine WL_v rfl (ov_field rfl fo_impl_plannedCrew_1) ?_
  refine WL_v rfl (ov_field rfl fo_impl_Crew_2) ?_
  refine WL_v rfl (ov_load rfl one_sl_int (hH1.cb 0 rfl 4)) ?_
  refine WL_v rfl (ov_move rfl) ?_
  refine WL_call rfl rfl cf_slices_Contains_sl_int_int (contains_ok hH1 hC.dn.up a) ?_; rintro _ w2 ⟨rfl, hH2⟩
  refine WL_v rfl (ov_assign rfl) ?_
  refine WL_nil ?_
  exact WT_ret1 Tryz.func86 Tryz.results86 rfl ⟨rfl, hH2.drop⟩

theorem rowsFit_ok (hH : H w h Ls) {pv vv dv cv nv rv : Value} {p : List Nd} {c : Cr} (hP : Plan h pv p) (hv : planOk p = true) (hV : RdLL h Ls vv (valsL p)) (hl : CrLim c) (hC : RdCr h Ls dv cv nv rv c) : Rets Tryz.prog 48 #[.agg #[pv, vv, dv, cv, nv, rv]] w fun v w' => v = .bool (decide (c.rw.length = p.length) && rowsB p c) ∧ H w' h Ls := by
  have hlen := PlanOk.len hv
  have hrl := hl.rw
  have hvl : (valsL p).length = p.length := valsTo_len p p.length
  have hbad : ∀ k, k < p.length → rowWant p c.dn k ≠ c.rw.getD k [] → rowsB p c = false := fun k hk hne => by
    cases hb : rowsB p c with
    | false => rfl
    | true => exact absurd (of_decide_eq_true (List.all_eq_true.1 hb k (List.mem_range.2 hk))) hne
  refine rets_enter Tryz.func48 rfl Tryz.ntmps48 (by simp) ?_
  refine WT_seq ?_
  refine WT_region ?_
  refine WL_box _ rfl hH rfl rfl ?_; rintro b w1 hH1
  refine WL_v rfl (ov_assign rfl) ?_
  refine WL_nil ?_
  refine WT_seq ?_
  refine WT_seq ?_
  refine WT_region ?_
  refine WL_v rfl (ov_field rfl fo_impl_plannedCrew_1) ?_
  refine WL_v rfl (ov_field rfl fo_impl_Crew_3) ?_
  refine WL_v rfl (ov_load rfl one_sl_sl_int (hH1.cb 0 rfl 5)) ?_
  refine WL_v rfl (ov_len rfl hC.rw.sl st_sl_sl_int) ?_
  refine WL_v rfl (ov_field rfl fo_impl_plannedCrew_0) ?_
  refine WL_v rfl (ov_field rfl fo_impl_crewPlan_0) ?_
  refine WL_v rfl (ov_load rfl one_sl_impl_Node (hH1.cb 0 rfl 0)) ?_
  refine WL_v rfl (ov_len rfl hP.sl st_sl_impl_Node) ?_
  refine WL_v rfl (ov_neq rfl rfl) ?_
  refine WL_nil ?_
  refine WT_cond rfl (fun hne => ?_) (fun hne => ?_)
  · skip
    first | with_reducible replace hne := of_decide_eq_true hne | with_reducible replace hne := bn_T hne | with_reducible replace hne := bb_T hne | skip
    refine WT_seq ?_
    refine WT_region ?_
    refine WL_v rfl (ov_assign rfl) ?_
    refine WL_nil ?_
    exact WT_ret1 Tryz.func48 Tryz.results48 rfl ⟨congrArg Value.bool (by rw [decide_eq_false (by omega), Bool.false_and]), hH1.drop⟩
  first | with_reducible replace hne := of_decide_eq_false hne | with_reducible replace hne := bn_F hne | with_reducible replace hne := bb_F hne | skip
  have hrp : c.rw.length = p.length := by omega
  rw [decide_eq_true hrp, Bool.true_and]
  refine WT_skip ?_
  refine WT_seq ?_
  refine WT_seq ?_
  refine WT_region ?_
  refine WL_v rfl (ov_field rfl fo_impl_plannedCrew_1) ?_
  refine WL_v rfl (ov_field rfl fo_impl_Crew_3) ?_
  refine WL_v rfl (ov_load rfl one_sl_sl_int (hH1.cb 0 rfl 5)) ?_
  refine WL_v rfl (ov_len rfl hC.rw.sl st_sl_sl_int) ?_
  refine WL_v rfl (ov_move rfl) ?_
  refine WL_nil ?_
  refine WT_block ?_
  refine WT_while (fun s : Nat => [(1, ptr b), (16, rv), (17, .int .i64 (c.rw.length : Int)), (18, .int .i64 (s : Int))]) (fun s w => s ≤ c.rw.length ∧ (∀ i, i < s → rowWant p c.dn i = c.rw.getD i []) ∧ H w h (cpbox b pv vv dv cv nv rv :: Ls)) (fun s => c.rw.length - s) 0 (by repeat (first | exact trivial | refine ⟨rfl, ?_⟩)) ⟨by omega, by omega, hH1⟩ ?_
  clear hH hH1
  rintro k w3 ⟨hk, hall, hH⟩ again
  refine WT_seq ?_
  refine WT_region ?_
  refine WL_v rfl (ov_lss rfl rfl) ?_
  refine WL_nil ?_
  refine WT_seq ?_
  refine WT_cond rfl (fun hc => ?_) (fun hc => ?_)
  · skip
    first | with_reducible replace hc := of_decide_eq_true hc | with_reducible replace hc := bn_T hc | with_reducible replace hc := bb_T hc | skip
    have hkr : k < c.rw.length := by omega
    have hkv : k < (valsL p).length := by omega
    obtain ⟨u, h1, h2⟩ := hC.rw.at_ hkr
    obtain ⟨u2, g1, g2⟩ := hV.at_ hkv
    have hgr : c.rw.getD k [] = c.rw[k] := getLD hkr
    have hgv : (valsL p).getD k [] = (valsL p)[k] := getLD hkv
    refine WT_skip ?_
    refine WT_seq ?_
    refine WT_block ?_
    refine WT_seq ?_
    refine WT_region ?_
    refine WL_v rfl (ov_move rfl) ?_
    refine WL_v rfl (ov_index rfl rfl st_sl_sl_int hC.rw.sl hkr) ?_
    refine WL_v rfl (ov_load rfl one_sl_int (h2 hH.drop)) ?_
    refine WL_v rfl (ov_assign rfl) ?_
    refine WL_v rfl (ov_assign rfl) ?_
    refine WL_nil ?_
    refine WT_seq ?_
    refine WT_region ?_
    refine WL_v rfl (ov_loadN [pv, vv, dv, cv, nv, rv] rfl agg_impl_plannedCrew rfl ((fun j v hj => by rw [show Addr.add ⟨b, 0, none⟩ j = ⟨b, j, none⟩ by simp [add_of]]; exact (hH.cb 0 rfl j).trans (by simpa using hj)))) ?_
    refine WL_v rfl (ov_move rfl) ?_
    refine WL_call rfl rfl cf_impl_plannedCrew_isDone (isDone_ok hH hC.up _) ?_; rintro _ w4 ⟨rfl, hH4⟩
    refine WL_nil ?_
    refine WT_cond rfl (fun hin => ?_) (fun hin => ?_)
    · skip
      first | with_reducible replace hin := of_decide_eq_true hin | with_reducible replace hin := bn_T hin | with_reducible replace hin := bb_T hin | skip
      have hw : rowWant p c.dn k = (valsL p)[k] := by rw [rowWant, if_pos hin, hgv]
      refine WT_seq ?_
      refine WT_region ?_
      refine WL_v rfl (ov_move rfl) ?_
      refine WL_v rfl (ov_field rfl fo_impl_plannedCrew_0) ?_
      refine WL_v rfl (ov_field rfl fo_impl_crewPlan_1) ?_
      refine WL_v rfl (ov_load rfl one_sl_sl_int (hH4.cb 0 rfl 1)) ?_
      refine WL_v rfl (ov_move rfl) ?_
      refine WL_v rfl (ov_index rfl rfl st_sl_sl_int hV.sl hkv) ?_
      refine WL_v rfl (ov_load rfl one_sl_int (g2 hH4.drop)) ?_
      refine WL_call rfl rfl cf_slices_Equal_sl_int_int (equal_ok hH4 h1.up g1.up) ?_; rintro _ w5 ⟨rfl, hH5⟩
      refine WL_v rfl (ov_not rfl) ?_
      refine WL_nil ?_
      refine WT_cond rfl (fun hq => ?_) (fun hq => ?_)
      · skip
        first | with_reducible replace hq := of_decide_eq_true hq | with_reducible replace hq := bn_T hq | with_reducible replace hq := bb_T hq | skip
        have hq' : c.rw[k] ≠ (valsL p)[k] := by simpa using hq
        refine WT_seq ?_
        refine WT_region ?_
        refine WL_v rfl (ov_assign rfl) ?_
        refine WL_nil ?_
        exact WT_ret1 Tryz.func48 Tryz.results48 rfl ⟨by rw [hbad k (by omega) (by rw [hw, hgr]; exact fun hh => hq' hh.symm)], hH5.drop⟩
      first | with_reducible replace hq := of_decide_eq_false hq | with_reducible replace hq := bn_F hq | with_reducible replace hq := bb_F hq | skip
      have hq' : c.rw[k] = (valsL p)[k] := by simpa using hq
      refine WT_skip ?_
      refine WT_inBlock ?_
      refine WT_region ?_
      refine WL_v rfl (ov_add rfl rfl (by omega)) ?_
      refine WL_v rfl (ov_move rfl) ?_
      refine WL_nil ?_
      refine again (k + 1) _ _ (by omega) (by repeat (first | exact trivial | refine ⟨rfl, ?_⟩)) ⟨by omega, fun i hi => ?_, hH5⟩
      rcases Nat.lt_or_ge i k with h3 | h3
      · exact hall i h3
      · obtain rfl : i = k := by omega
        rw [hw, hgr, hq']
    first | with_reducible replace hin := of_decide_eq_false hin | with_reducible replace hin := bn_F hin | with_reducible replace hin := bb_F hin | skip
    have hw : rowWant p c.dn k = [] := by rw [rowWant, if_neg hin]
    refine WT_seq ?_
    refine WT_region ?_
    refine WL_v rfl (ov_move rfl) ?_
    refine WL_v rfl (ov_len rfl h1.sl st_sl_int) ?_
    refine WL_v rfl (ov_neq rfl rfl) ?_
    refine WL_nil ?_
    refine WT_cond rfl (fun hq => ?_) (fun hq => ?_)
    · skip
      first | with_reducible replace hq := of_decide_eq_true hq | with_reducible replace hq := bn_T hq | with_reducible replace hq := bb_T hq | skip
      refine WT_seq ?_
      refine WT_region ?_
      refine WL_v rfl (ov_assign rfl) ?_
      refine WL_nil ?_
      exact WT_ret1 Tryz.func48 Tryz.results48 rfl ⟨by rw [hbad k (by omega) (by rw [hw, hgr]; exact fun hh => by rw [← hh] at hq; simp at hq)], hH4.drop⟩
    first | with_reducible replace hq := of_decide_eq_false hq | with_reducible replace hq := bn_F hq | with_reducible replace hq := bb_F hq | skip
    refine WT_skip ?_
    refine WT_inBlock ?_
    refine WT_region ?_
    refine WL_v rfl (ov_add rfl rfl (by omega)) ?_
    refine WL_v rfl (ov_move rfl) ?_
    refine WL_nil ?_
    refine again (k + 1) _ _ (by omega) (by repeat (first | exact trivial | refine ⟨rfl, ?_⟩)) ⟨by omega, fun i hi => ?_, hH4⟩
    rcases Nat.lt_or_ge i k with h3 | h3
    · exact hall i h3
    · obtain rfl : i = k := by omega
      rw [hw, hgr]
      exact (List.eq_nil_of_length_eq_zero (by omega)).symm
  first | with_reducible replace hc := of_decide_eq_false hc | with_reducible replace hc := bn_F hc | with_reducible replace hc := bb_F hc | skip
  obtain rfl : k = c.rw.length := by omega
  refine WT_exit rfl ?_
  refine WT_seq ?_
  refine WT_region ?_
  refine WL_v rfl (ov_assign rfl) ?_
  refine WL_nil ?_
  exact WT_ret1 Tryz.func48 Tryz.results48 rfl ⟨congrArg Value.bool (by
    unfold rowsB
    exact (List.all_eq_true.2 fun i hi => decide_eq_true (hall i (by rw [hrp]; exact List.mem_range.1 hi))).symm), hH.drop⟩
end
end Go.Proofs.YteagnhdhafiofaaGreat

/- Walks: a crew is valid, whole. -/
namespace Go.Proofs.YteagnhdhafiofaaGreat
open Go.RowKit

section
variable {h : GH} {Ls : List Heaplet} {w : World}

/-- A crew in a box. -/
abbrev crbox (b : Nat) (dv cv nv rv : Value) : Heaplet := [(b, .cells #[dv, cv, nv, rv] 27 (0, 0))]
theorem RdL.ups {v : Value} {xs : List Int} (hA : RdL h Ls v xs) : ∀ A : List Heaplet, RdL h (A ++ Ls) v xs
  | [] => hA
  | _ :: A => (hA.ups A).up
theorem RdLL.ups {v : Value} {ls : List (List Int)} (hA : RdLL h Ls v ls) : ∀ A : List Heaplet, RdLL h (A ++ Ls) v ls
  | [] => hA
  | _ :: A => (hA.ups A).up
theorem RdCr.ups {dv cv nv rv : Value} {c : Cr} (hC : RdCr h Ls dv cv nv rv c) (A : List Heaplet) : RdCr h (A ++ Ls) dv cv nv rv c := ⟨hC.dq.ups A, hC.ct.ups A, hC.dn.ups A, hC.rw.ups A⟩
theorem H.behind {O X : Heaplet} {Is Ms : List Heaplet} (hH : H w h (O :: (Is ++ X :: Ms))) : H w h (X :: O :: (Is ++ Ms)) := by
  refine hH.perm ?_
  have : (X :: ((O :: Is) ++ Ms)).Perm ((O :: Is) ++ X :: Ms) := List.perm_middle.symm
  simpa using this.symm

theorem dequesFit_bool (p : List Nd) (c : Cr) : crewOk p c = (planOk p && decide (1 ≤ c.dq.length ∧ c.dq.length ≤ 4) && orderB p c.dn && decide (cntL p c.dn = c.ct) && decide (c.rw.length = p.length) && dequesB p c && rowsB p c) := rfl

set_option maxHeartbeats 1000000 in
theorem crewValid_ok (hH : H w h Ls) {pv dv cv nv rv : Value} {p : List Nd} {c : Cr} (hP : Plan h pv p) (hl : CrLim c) (hC : RdCr h Ls dv cv nv rv c) : Rets Tryz.prog 15 #[pv, crV dv cv nv rv] w fun v w' => v = .bool (crewOk p c) ∧ H w' h Ls := by
  obtain ⟨A1, c1, rfl, _⟩ := hP.sl.form
  obtain ⟨A2, c2, rfl, _⟩ := hC.dq.sl.form
  obtain ⟨A3, c3, rfl, _⟩ := hC.ct.sl.form
  obtain ⟨A4, c4, rfl, _⟩ := hC.dn.sl.form
  obtain ⟨A5, c5, rfl, _⟩ := hC.rw.sl.form
  rw [dequesFit_bool]
  refine rets_enter Tryz.func15 rfl Tryz.ntmps15 (by simp) ?_
  refine WT_seq ?_
  refine WT_region ?_
  refine WL_box _ rfl hH rfl rfl ?_; rintro b w1 hH1; replace hH1 : H w1 h (crbox b (.slice A2 c.dq.length c2) (.slice A3 c.ct.length c3) (.slice A4 c.dn.length c4) (.slice A5 c.rw.length c5) :: Ls) := hH1
  refine WL_v rfl (ov_assign rfl) ?_
  refine WL_nil ?_
  refine WT_seq ?_
  refine WT_region ?_
  refine WL_v rfl (ov_move rfl) ?_
  by_cases hv : planOk p = true
  · skip
    rw [hv]
    refine WL_call rfl rfl cf_impl_ValuesOf (valuesOf_yes hH1 hP hv) ?_; rintro _ w2 ⟨ov, O, Is, rfl, hO, hH2⟩; replace hH2 := H.behind hH2
    refine WL_v rfl (ov_move rfl) ?_
    refine WL_v rfl (ov_extract rfl rfl) ?_
    refine WL_v rfl (ov_extract rfl rfl) ?_
    refine WL_v rfl (ov_assign rfl) ?_
    refine WL_v rfl (ov_assign rfl) ?_
    refine WL_nil ?_
    refine WT_seq ?_
    refine WT_seq ?_
    refine WT_region ?_
    refine WL_v rfl (ov_move rfl) ?_
    refine WL_v rfl (ov_not rfl) ?_
    refine WL_v rfl (ov_move rfl) ?_
    obtain ⟨A6, c6, rfl, _⟩ := hO.sl.form
    have hV' : ∀ {X Y : Heaplet}, RdLL h (X :: Y :: O :: (Is ++ Ls)) _ (valsL p) := fun {X Y} => hO.rdll (LAt.cons (Ms := Ls)).skip1.skip1
    have hC' : ∀ {X Y : Heaplet}, RdCr h (X :: Y :: O :: (Is ++ Ls)) _ _ _ _ c := fun {X Y} => (hC.ups Is).up.up.up
    have hC1 : ∀ {X : Heaplet}, RdCr h (X :: O :: (Is ++ Ls)) _ _ _ _ c := fun {X} => (hC.ups Is).up.up
    by_cases hw : 1 ≤ c.dq.length ∧ c.dq.length ≤ 4
    · skip
      rw [decide_eq_true hw]
      have hwf := fun {w : World} {Ls : List Heaplet} (hH : H w h Ls) => workersFit_ok hH (c.dq.length : Int)
      rw [decide_eq_true (show 1 ≤ (c.dq.length : Int) ∧ (c.dq.length : Int) ≤ 4 by omega)] at hwf
      have hob := fun {w : World} {X : Heaplet} (hH : H w h (X :: O :: (Is ++ Ls))) => orderBegins_ok hH hP hv hC1.dn
      by_cases ho : orderB p c.dn = true
      · skip
        rw [ho] at hob ⊢
        refine WL_guardOn rfl rfl ?_
        refine WL_v rfl (ov_field rfl fo_impl_Crew_0) ?_
        refine WL_guardOn rfl rfl ?_
        refine WL_v rfl (ov_load rfl one_sl_sl_int (hH2.cb 0 rfl 0)) ?_
        refine WL_guardOn rfl rfl ?_
        refine WL_v rfl (ov_len rfl hC.dq.sl st_sl_sl_int) ?_
        refine WL_guardOn rfl rfl ?_
        refine WL_call rfl rfl cf_impl_workersFit (hwf hH2) ?_; rintro _ w3 ⟨rfl, hH3⟩
        refine WL_guardOn rfl rfl ?_
        refine WL_v rfl (ov_not rfl) ?_
        refine WL_v rfl (ov_pickF rfl rfl) ?_
        refine WL_v rfl (ov_move rfl) ?_
        refine WL_guardOn rfl rfl ?_
        refine WL_v rfl (ov_move rfl) ?_
        refine WL_guardOn rfl rfl ?_
        refine WL_v rfl (ov_field rfl fo_impl_Crew_2) ?_
        refine WL_guardOn rfl rfl ?_
        refine WL_v rfl (ov_load rfl one_sl_int (hH3.cb 0 rfl 2)) ?_
        refine WL_guardOn rfl rfl ?_
        refine WL_call rfl rfl cf_impl_orderBegins (hob hH3) ?_; rintro _ w4 ⟨rfl, hH4⟩
        refine WL_guardOn rfl rfl ?_
        refine WL_v rfl (ov_not rfl) ?_
        refine WL_v rfl (ov_pickF rfl rfl) ?_
        refine WL_nil ?_
        refine WT_condF rfl ?_
        refine WT_skip ?_
        refine WT_seq ?_
        refine WT_region ?_
        refine WL_v rfl (ov_move rfl) ?_
        refine WL_v rfl (ov_move rfl) ?_
        refine WL_v rfl (ov_build rfl (run_build_cp _ _ _ _ _ _)) ?_
        refine WL_v rfl (ov_loadN [.slice A2 c.dq.length c2, .slice A3 c.ct.length c3, .slice A4 c.dn.length c4, .slice A5 c.rw.length c5] rfl agg_impl_Crew rfl ((fun j v hj => by rw [show Addr.add ⟨b, 0, none⟩ j = ⟨b, j, none⟩ by simp [add_of]]; exact (hH4.cb 0 rfl j).trans (by simpa using hj)))) ?_
        refine WL_v rfl (ov_build rfl (run_build_pc _ _ _ _ _ _ _ _ _ _ _ _ _ _ _ _ _ _)) ?_
        refine WL_alloc _ rfl hH4 zero_pc rfl ?_; rintro g w5 hH5
        refine WL_storeN hH5 rfl rfl (i := 0) rfl rfl rfl (ones_cons rfl (ones_cons rfl (ones_cons rfl (ones_cons rfl (ones_cons rfl (ones_cons rfl ones_nil)))))) sz_impl_plannedCrew ?_; rintro w6 hH6
        refine WL_nil ?_
        refine WT_seq ?_
        refine WT_region ?_
        have hload : ∀ {w : World} {Ms : List Heaplet}, H w h (cpbox g (.slice A1 p.length c1) (.slice A6 (valsL p).length c6) (.slice A2 c.dq.length c2) (.slice A3 c.ct.length c3) (.slice A4 c.dn.length c4) (.slice A5 c.rw.length c5) :: Ms) → ∀ j v, [Value.slice A1 p.length c1, .slice A6 (valsL p).length c6, .slice A2 c.dq.length c2, .slice A3 c.ct.length c3, .slice A4 c.dn.length c4, .slice A5 c.rw.length c5][j]? = some v → w.cell? (Addr.add ⟨g, 0, none⟩ j) = some v := fun hH j v hj => by
          rw [show Addr.add ⟨g, 0, none⟩ j = ⟨g, j, none⟩ by simp [add_of]]
          exact (hH.cb 0 rfl j).trans (by simpa using hj)
        have hcf := fun {w : World} {X Y : Heaplet} (hH : H w h (X :: Y :: O :: (Is ++ Ls))) => countsFit_ok (vv := .slice A6 (valsL p).length c6) hH hP hv ho hC'
        have hdf := fun {w : World} {X Y : Heaplet} (hH : H w h (X :: Y :: O :: (Is ++ Ls))) => dequesFit_ok (vv := .slice A6 (valsL p).length c6) hH hP hv hl hC'
        have hrf := fun {w : World} {X Y : Heaplet} (hH : H w h (X :: Y :: O :: (Is ++ Ls))) => rowsFit_ok hH hP hv hV' hl hC'
        by_cases h1 : cntL p c.dn = c.ct
        · skip
          rw [decide_eq_true h1] at hcf ⊢
          by_cases h2 : dequesB p c = true
          · skip
            rw [h2] at hdf ⊢
            refine WL_v rfl (ov_loadN [.slice A1 p.length c1, .slice A6 (valsL p).length c6, .slice A2 c.dq.length c2, .slice A3 c.ct.length c3, .slice A4 c.dn.length c4, .slice A5 c.rw.length c5] rfl agg_impl_plannedCrew rfl ((hload hH6))) ?_
            refine WL_call rfl rfl cf_impl_plannedCrew_countsFit (hcf hH6) ?_; rintro _ w7 ⟨rfl, hH7⟩
            refine WL_v rfl (ov_move rfl) ?_
            refine WL_guardOn rfl rfl ?_
            refine WL_v rfl (ov_loadN [.slice A1 p.length c1, .slice A6 (valsL p).length c6, .slice A2 c.dq.length c2, .slice A3 c.ct.length c3, .slice A4 c.dn.length c4, .slice A5 c.rw.length c5] rfl agg_impl_plannedCrew rfl ((hload hH7))) ?_
            refine WL_guardOn rfl rfl ?_
            refine WL_call rfl rfl cf_impl_plannedCrew_dequesFit (hdf hH7) ?_; rintro _ w8 ⟨rfl, hH8⟩
            refine WL_v rfl (ov_pickT rfl rfl) ?_
            refine WL_v rfl (ov_move rfl) ?_
            refine WL_guardOn rfl rfl ?_
            refine WL_v rfl (ov_loadN [.slice A1 p.length c1, .slice A6 (valsL p).length c6, .slice A2 c.dq.length c2, .slice A3 c.ct.length c3, .slice A4 c.dn.length c4, .slice A5 c.rw.length c5] rfl agg_impl_plannedCrew rfl ((hload hH8))) ?_
            refine WL_guardOn rfl rfl ?_
            refine WL_call rfl rfl cf_impl_plannedCrew_rowsFit (hrf hH8) ?_; rintro _ w9 ⟨rfl, hH9⟩
            refine WL_v rfl (ov_pickT rfl rfl) ?_
            refine WL_v rfl (ov_assign rfl) ?_
            refine WL_nil ?_
            exact WT_ret1 Tryz.func15 Tryz.results15 rfl ⟨congrArg Value.bool (by simp), hH9.drop.drop.drop.drops Is⟩
          · skip
            have h2' : dequesB p c = false := by simpa using h2
            rw [h2'] at hdf ⊢
            refine WL_v rfl (ov_loadN [.slice A1 p.length c1, .slice A6 (valsL p).length c6, .slice A2 c.dq.length c2, .slice A3 c.ct.length c3, .slice A4 c.dn.length c4, .slice A5 c.rw.length c5] rfl agg_impl_plannedCrew rfl ((hload hH6))) ?_
            refine WL_call rfl rfl cf_impl_plannedCrew_countsFit (hcf hH6) ?_; rintro _ w7 ⟨rfl, hH7⟩
            refine WL_v rfl (ov_move rfl) ?_
            refine WL_guardOn rfl rfl ?_
            refine WL_v rfl (ov_loadN [.slice A1 p.length c1, .slice A6 (valsL p).length c6, .slice A2 c.dq.length c2, .slice A3 c.ct.length c3, .slice A4 c.dn.length c4, .slice A5 c.rw.length c5] rfl agg_impl_plannedCrew rfl ((hload hH7))) ?_
            refine WL_guardOn rfl rfl ?_
            refine WL_call rfl rfl cf_impl_plannedCrew_dequesFit (hdf hH7) ?_; rintro _ w8 ⟨rfl, hH8⟩
            refine WL_v rfl (ov_pickT rfl rfl) ?_
            refine WL_v rfl (ov_move rfl) ?_
            refine WL_guardOff rfl rfl rfl rfl ?_
            refine WL_guardOff rfl rfl rfl rfl ?_
            refine WL_v rfl (ov_pickF rfl rfl) ?_
            refine WL_v rfl (ov_assign rfl) ?_
            refine WL_nil ?_
            exact WT_ret1 Tryz.func15 Tryz.results15 rfl ⟨congrArg Value.bool (by simp), hH8.drop.drop.drop.drops Is⟩
        · skip
          rw [decide_eq_false h1] at hcf ⊢
          refine WL_v rfl (ov_loadN [.slice A1 p.length c1, .slice A6 (valsL p).length c6, .slice A2 c.dq.length c2, .slice A3 c.ct.length c3, .slice A4 c.dn.length c4, .slice A5 c.rw.length c5] rfl agg_impl_plannedCrew rfl ((hload hH6))) ?_
          refine WL_call rfl rfl cf_impl_plannedCrew_countsFit (hcf hH6) ?_; rintro _ w7 ⟨rfl, hH7⟩
          refine WL_v rfl (ov_move rfl) ?_
          refine WL_guardOff rfl rfl rfl rfl ?_
          refine WL_guardOff rfl rfl rfl rfl ?_
          refine WL_v rfl (ov_pickF rfl rfl) ?_
          refine WL_v rfl (ov_move rfl) ?_
          refine WL_guardOff rfl rfl rfl rfl ?_
          refine WL_guardOff rfl rfl rfl rfl ?_
          refine WL_v rfl (ov_pickF rfl rfl) ?_
          refine WL_v rfl (ov_assign rfl) ?_
          refine WL_nil ?_
          exact WT_ret1 Tryz.func15 Tryz.results15 rfl ⟨congrArg Value.bool (by simp), hH7.drop.drop.drop.drops Is⟩
      · skip
        have ho' : orderB p c.dn = false := by simpa using ho
        rw [ho'] at hob ⊢
        refine WL_guardOn rfl rfl ?_
        refine WL_v rfl (ov_field rfl fo_impl_Crew_0) ?_
        refine WL_guardOn rfl rfl ?_
        refine WL_v rfl (ov_load rfl one_sl_sl_int (hH2.cb 0 rfl 0)) ?_
        refine WL_guardOn rfl rfl ?_
        refine WL_v rfl (ov_len rfl hC.dq.sl st_sl_sl_int) ?_
        refine WL_guardOn rfl rfl ?_
        refine WL_call rfl rfl cf_impl_workersFit (hwf hH2) ?_; rintro _ w3 ⟨rfl, hH3⟩
        refine WL_guardOn rfl rfl ?_
        refine WL_v rfl (ov_not rfl) ?_
        refine WL_v rfl (ov_pickF rfl rfl) ?_
        refine WL_v rfl (ov_move rfl) ?_
        refine WL_guardOn rfl rfl ?_
        refine WL_v rfl (ov_move rfl) ?_
        refine WL_guardOn rfl rfl ?_
        refine WL_v rfl (ov_field rfl fo_impl_Crew_2) ?_
        refine WL_guardOn rfl rfl ?_
        refine WL_v rfl (ov_load rfl one_sl_int (hH3.cb 0 rfl 2)) ?_
        refine WL_guardOn rfl rfl ?_
        refine WL_call rfl rfl cf_impl_orderBegins (hob hH3) ?_; rintro _ w4 ⟨rfl, hH4⟩
        refine WL_guardOn rfl rfl ?_
        refine WL_v rfl (ov_not rfl) ?_
        refine WL_v rfl (ov_pickF rfl rfl) ?_
        refine WL_nil ?_
        refine WT_condT rfl ?_
        refine WT_seq ?_
        refine WT_region ?_
        refine WL_v rfl (ov_assign rfl) ?_
        refine WL_nil ?_
        exact WT_ret1 Tryz.func15 Tryz.results15 rfl ⟨congrArg Value.bool (by simp), hH4.drop.drop.drops Is⟩
    · skip
      rw [decide_eq_false hw]
      have hwf := fun {w : World} {Ls : List Heaplet} (hH : H w h Ls) => workersFit_ok hH (c.dq.length : Int)
      rw [decide_eq_false (show ¬ (1 ≤ (c.dq.length : Int) ∧ (c.dq.length : Int) ≤ 4) by omega)] at hwf
      refine WL_guardOn rfl rfl ?_
      refine WL_v rfl (ov_field rfl fo_impl_Crew_0) ?_
      refine WL_guardOn rfl rfl ?_
      refine WL_v rfl (ov_load rfl one_sl_sl_int (hH2.cb 0 rfl 0)) ?_
      refine WL_guardOn rfl rfl ?_
      refine WL_v rfl (ov_len rfl hC.dq.sl st_sl_sl_int) ?_
      refine WL_guardOn rfl rfl ?_
      refine WL_call rfl rfl cf_impl_workersFit (hwf hH2) ?_; rintro _ w3 ⟨rfl, hH3⟩
      refine WL_guardOn rfl rfl ?_
      refine WL_v rfl (ov_not rfl) ?_
      refine WL_v rfl (ov_pickF rfl rfl) ?_
      refine WL_v rfl (ov_move rfl) ?_
      refine WL_guardOff rfl rfl rfl rfl ?_
      refine WL_guardOff rfl rfl rfl rfl ?_
      refine WL_guardOff rfl rfl rfl rfl ?_
      refine WL_guardOff rfl rfl rfl rfl ?_
      refine WL_guardOff rfl rfl rfl rfl ?_
      refine WL_v rfl (ov_pickT rfl rfl) ?_
      refine WL_nil ?_
      refine WT_condT rfl ?_
      refine WT_seq ?_
      refine WT_region ?_
      refine WL_v rfl (ov_assign rfl) ?_
      refine WL_nil ?_
      exact WT_ret1 Tryz.func15 Tryz.results15 rfl ⟨congrArg Value.bool (by simp), hH3.drop.drop.drops Is⟩
  · skip
    have hv' : planOk p = false := by simpa using hv
    rw [hv']
    refine WL_call rfl rfl cf_impl_ValuesOf (valuesOf_no hH1 hP hv') ?_; rintro _ w2 ⟨rfl, hH2⟩
    refine WL_v rfl (ov_move rfl) ?_
    refine WL_v rfl (ov_extract rfl rfl) ?_
    refine WL_v rfl (ov_extract rfl rfl) ?_
    refine WL_v rfl (ov_assign rfl) ?_
    refine WL_v rfl (ov_assign rfl) ?_
    refine WL_nil ?_
    refine WT_seq ?_
    refine WT_seq ?_
    refine WT_region ?_
    refine WL_v rfl (ov_move rfl) ?_
    refine WL_v rfl (ov_not rfl) ?_
    refine WL_v rfl (ov_move rfl) ?_
    refine WL_guardOff rfl rfl rfl rfl ?_
    refine WL_guardOff rfl rfl rfl rfl ?_
    refine WL_guardOff rfl rfl rfl rfl ?_
    refine WL_guardOff rfl rfl rfl rfl ?_
    refine WL_guardOff rfl rfl rfl rfl ?_
    refine WL_v rfl (ov_pickT rfl rfl) ?_
    refine WL_v rfl (ov_move rfl) ?_
    refine WL_guardOff rfl rfl rfl rfl ?_
    refine WL_guardOff rfl rfl rfl rfl ?_
    refine WL_guardOff rfl rfl rfl rfl ?_
    refine WL_guardOff rfl rfl rfl rfl ?_
    refine WL_guardOff rfl rfl rfl rfl ?_
    refine WL_v rfl (ov_pickT rfl rfl) ?_
    refine WL_nil ?_
    refine WT_condT rfl ?_
    refine WT_seq ?_
    refine WT_region ?_
    refine WL_v rfl (ov_assign rfl) ?_
    refine WL_nil ?_
    exact WT_ret1 Tryz.func15 Tryz.results15 rfl ⟨congrArg Value.bool (by simp), hH2.drop⟩
end
end Go.Proofs.YteagnhdhafiofaaGreat

/- Walks: the reference's counts. -/
namespace Go.Proofs.YteagnhdhafiofaaGreat
open Go.RowKit

section
variable {h : GH} {Ls : List Heaplet} {w : World}

theorem ints_takeK {v : Value} {xs : List Int} {k : Nat} (hI : Ints h v xs) (hk : k ≤ xs.length) : Ints h (reslice v 0 k 1) (xs.take k) := by
  have := hI.reslice (lo := 0) (hi := k) (by omega) hk
  simpa using this

theorem l11Counts_ok (hH : H w h Ls) {pv : Value} {p : List Nd} (hP : Plan h pv p) (hv : planOk p = true) : Rets Tryz.prog 90 #[pv] w fun v w' => ∃ X, IRow X 3 v (countsL p) ∧ H w' h (X :: Ls) := by
  have hlen := PlanOk.len hv
  have hcl := countsL_len p
  refine rets_enter Tryz.func90 rfl Tryz.ntmps90 (by simp) ?_
  refine WT_seq ?_
  refine WT_region ?_
  refine WL_v rfl (ov_assign rfl) ?_
  refine WL_nil ?_
  refine WT_seq ?_
  refine WT_region ?_
  refine WL_bsI0 rfl hH run_bs_int0 ?_; rintro X0 sv0 w1 hX0 hH1
  refine WL_v rfl (ov_assign rfl) ?_
  refine WL_nil ?_
  refine WT_seq ?_
  refine WT_seq ?_
  refine WT_region ?_
  refine WL_v rfl (ov_assign rfl) ?_
  refine WL_nil ?_
  refine WT_block ?_
  refine WT_while (fun s : Nat × Value => [(0, pv), (3, s.2), (4, .int .i64 (s.1 : Int))]) (fun s w => s.1 ≤ p.length ∧ ∃ X, IRow X 3 s.2 ((countsL p).take s.1) ∧ H w h (X :: Ls)) (fun s => p.length - s.1) (0, sv0) (by repeat (first | exact trivial | refine ⟨rfl, ?_⟩)) ⟨by omega, X0, hX0, hH1⟩ ?_
  clear hH hH1 hX0
  rintro ⟨k, sv⟩ w2 ⟨hk, X, hX, hH⟩ again
  simp only at hk hX
  refine WT_seq ?_
  refine WT_seq ?_
  refine WT_region ?_
  refine WL_v rfl (ov_move rfl) ?_
  refine WL_v rfl (ov_move rfl) ?_
  refine WL_v rfl (ov_len rfl hP.sl st_sl_impl_Node) ?_
  refine WL_v rfl (ov_lss rfl rfl) ?_
  refine WL_nil ?_
  refine WT_cond rfl (fun hc => ?_) (fun hc => ?_)
  · skip
    first | with_reducible replace hc := of_decide_eq_true hc | with_reducible replace hc := bn_T hc | with_reducible replace hc := bb_T hc | skip
    simp only at hc
    have hkp : k < p.length := by omega
    obtain ⟨fv, rv, hf, hr, hcell⟩ := hP.node hkp
    have hN := PlanOk.node hv hkp
    have hf2 := NodeOk.len2 hN
    refine WT_skip ?_
    refine WT_seq ?_
    refine WT_block ?_
    refine WT_seq ?_
    refine WT_region ?_
    refine WL_v rfl (ov_assign rfl) ?_
    refine WL_nil ?_
    refine WT_seq ?_
    refine WT_seq ?_
    refine WT_region ?_
    refine WL_v rfl (ov_assign rfl) ?_
    refine WL_nil ?_
    refine WT_block ?_
    refine WT_while (fun s : Nat => [(0, pv), (3, sv), (4, .int .i64 (k : Int)), (5, .int .i64 ((needTo (p[k].frm.take s)).length : Int)), (6, .int .i64 (s : Int))]) (fun j w => j ≤ p[k].frm.length ∧ H w h (X :: Ls)) (fun j => p[k].frm.length - j) 0 (by repeat (first | exact trivial | refine ⟨rfl, ?_⟩)) ⟨by omega, hH⟩ ?_
    clear hH
    rintro j w3 ⟨hj, hH⟩ again2
    have hnl := needTo_len (p[k].frm.take j)
    rw [List.length_take] at hnl
    refine WT_seq ?_
    refine WT_seq ?_
    refine WT_region ?_
    refine WL_v rfl (ov_move rfl) ?_
    refine WL_v rfl (ov_move rfl) ?_
    refine WL_v rfl (ov_move rfl) ?_
    refine WL_v rfl (ov_index rfl rfl st_sl_impl_Node hP.sl hkp) ?_
    refine WL_v rfl (ov_field rfl fo_impl_Node_1) ?_
    refine WL_v rfl (ov_load rfl one_sl_int (hcell _ _ hH 1 _ rfl)) ?_
    refine WL_v rfl (ov_len rfl hf.sl st_sl_int) ?_
    refine WL_v rfl (ov_lss rfl rfl) ?_
    refine WL_nil ?_
    refine WT_cond rfl (fun hc2 => ?_) (fun hc2 => ?_)
    · skip
      first | with_reducible replace hc2 := of_decide_eq_true hc2 | with_reducible replace hc2 := bn_T hc2 | with_reducible replace hc2 := bb_T hc2 | skip
      have hjl : j < p[k].frm.length := by omega
      have htk : p[k].frm.take (j + 1) = p[k].frm.take j ++ [p[k].frm[j]] := by rw [List.take_succ_eq_append_getElem hjl]
      have hfj := hN.frm _ (List.getElem_mem hjl)
      have hmem : p[k].frm[j].toNat ∈ needTo (p[k].frm.take j) ↔ p[k].frm[j] ∈ p[k].frm.take j := by
        rw [mem_needTo' fun f h => (hN.frm f (List.mem_of_mem_take h)).1, show (p[k].frm[j].toNat : Int) = p[k].frm[j] by omega]
      refine WT_skip ?_
      refine WT_seq ?_
      refine WT_block ?_
      refine WT_seq ?_
      refine WT_quiet mixed (by kernel_rfl) hH ?_
      clear hH
      refine WQ_v rfl (fun _ _ => ov_move rfl) ?_
      refine WQ_v rfl (fun _ _ => ov_move rfl) ?_
      refine WQ_v rfl (fun _ _ => ov_index rfl rfl st_sl_impl_Node hP.sl hkp) ?_
      refine WQ_v rfl (fun _ _ => ov_field rfl fo_impl_Node_1) ?_
      refine WQ_v rfl (fun _ hH => ov_load rfl one_sl_int (hcell _ _ hH 1 _ rfl)) ?_
      refine WQ_v rfl (fun _ _ => ov_move rfl) ?_
      refine WQ_v rfl (fun _ _ => ov_sliceHi rfl rfl st_sl_int hf.sl (by omega)) ?_
      refine WQ_v rfl (fun _ _ => ov_move rfl) ?_
      refine WQ_v rfl (fun _ _ => ov_move rfl) ?_
      refine WQ_v rfl (fun _ _ => ov_index rfl rfl st_sl_impl_Node hP.sl hkp) ?_
      refine WQ_v rfl (fun _ _ => ov_field rfl fo_impl_Node_1) ?_
      refine WQ_v rfl (fun _ hH => ov_load rfl one_sl_int (hcell _ _ hH 1 _ rfl)) ?_
      refine WQ_v rfl (fun _ _ => ov_move rfl) ?_
      refine WQ_v rfl (fun _ _ => ov_index rfl rfl st_sl_int hf.sl hjl) ?_
      refine WQ_v rfl (fun _ hH => ov_load rfl one_int (hf.cell hH hjl)) ?_
      refine WQ_call rfl rfl cf_spec_l3Has (fun _ hH => l3HasR_ok hH ((ints_takeK hf (Nat.le_of_lt hjl)).rdl _) _) ?_
      refine WQ_v rfl (fun _ _ => ov_not rfl) ?_
      refine WQ_nil ?_
      intro w4 hH
      refine WT_cond rfl (fun hin => ?_) (fun hin => ?_)
      · skip
        first | with_reducible replace hin := of_decide_eq_true hin | with_reducible replace hin := bn_T hin | with_reducible replace hin := bb_T hin | skip
        have hin' : p[k].frm[j] ∉ p[k].frm.take j := by simpa using hin
        have hv5 : ((needTo (p[k].frm.take j)).length : Int) + 1 = ((needTo (p[k].frm.take (j + 1))).length : Int) := by
          rw [htk, needTo_snoc, addN, if_neg (fun hh => hin' (hmem.1 hh)), List.length_append, List.length_singleton]; omega
        refine WT_region ?_
        refine WL_v rfl (ov_move rfl) ?_
        refine WL_v rfl (ov_as (ov_add rfl rfl (by omega)) (congrArg (Value.int .i64) (hv5))) ?_
        refine WL_v rfl (ov_assign rfl) ?_
        refine WL_nil ?_
        refine WT_inBlock ?_
        refine WT_region ?_
        refine WL_v rfl (ov_move rfl) ?_
        refine WL_v rfl (ov_add rfl rfl (by omega)) ?_
        refine WL_v rfl (ov_assign rfl) ?_
        refine WL_nil ?_
        refine again2 (j + 1) _ _ (by omega) (by repeat (first | exact trivial | refine ⟨rfl, ?_⟩)) ⟨by omega, hH⟩
      first | with_reducible replace hin := of_decide_eq_false hin | with_reducible replace hin := bn_F hin | with_reducible replace hin := bb_F hin | skip
      have hin' : p[k].frm[j] ∈ p[k].frm.take j := by simpa using hin
      have hv5 : needTo (p[k].frm.take (j + 1)) = needTo (p[k].frm.take j) := by rw [htk, needTo_snoc, addN, if_pos (hmem.2 hin')]
      refine WT_skip ?_
      refine WT_inBlock ?_
      refine WT_region ?_
      refine WL_v rfl (ov_move rfl) ?_
      refine WL_v rfl (ov_add rfl rfl (by omega)) ?_
      refine WL_v rfl (ov_assign rfl) ?_
      refine WL_nil ?_
      refine again2 (j + 1) _ _ (by omega) (by rw [hv5]; exact (by repeat (first | exact trivial | refine ⟨rfl, ?_⟩))) ⟨by omega, hH⟩
    first | with_reducible replace hc2 := of_decide_eq_false hc2 | with_reducible replace hc2 := bn_F hc2 | with_reducible replace hc2 := bb_F hc2 | skip
    obtain rfl : j = p[k].frm.length := by omega
    rw [List.take_length]
    have hkc : k < (countsL p).length := by omega
    have hst : (countsL p).take (k + 1) = (countsL p).take k ++ [((needTo p[k].frm).length : Int)] := by
      rw [List.take_succ_eq_append_getElem hkc, countsL_get, getD_of hkp]
    refine WT_exit rfl ?_
    refine WT_region ?_
    refine WL_v rfl (ov_move rfl) ?_
    refine WL_v rfl (ov_move rfl) ?_
    refine WL_bsI rfl hH rfl (run_bs_int _) ?_; rintro Y yv w4 hY hH4
    refine WL_appI (i := 1) (j := 0) rfl hH4 rfl rfl st_sl_int rfl hX rfl hY (by simp only [List.length_take, List.length_cons, List.length_nil]; omega) (by simp only [List.length_take, List.length_cons, List.length_nil]; omega) ?_; rintro X2 sv2 w5 hX2 hH5
    refine WL_v rfl (ov_assign rfl) ?_
    refine WL_nil ?_
    refine WT_inBlock ?_
    refine WT_region ?_
    refine WL_v rfl (ov_move rfl) ?_
    refine WL_v rfl (ov_add rfl rfl (by omega)) ?_
    refine WL_v rfl (ov_assign rfl) ?_
    refine WL_nil ?_
    refine again (k + 1, sv2) _ _ (by simp only; omega) (by repeat (first | exact trivial | refine ⟨rfl, ?_⟩)) ⟨by simp only; omega, X2, by simp only; rw [hst]; exact hX2, hH5.drop⟩
  first | with_reducible replace hc := of_decide_eq_false hc | with_reducible replace hc := bn_F hc | with_reducible replace hc := bb_F hc | skip
  simp only at hc
  obtain rfl : k = p.length := by omega
  rw [List.take_of_length_le (by omega)] at hX
  refine WT_exit rfl ?_
  refine WT_seq ?_
  refine WT_region ?_
  refine WL_v rfl (ov_move rfl) ?_
  refine WL_v rfl (ov_assign rfl) ?_
  refine WL_nil ?_
  exact WT_ret1 Tryz.func90 Tryz.results90 rfl ⟨X, hX, hH⟩

theorem l11Done_ok (hH : H w h Ls) {pv cv : Value} {p : List Nd} {c : List Int} (hP : Plan h pv p) (hv : planOk p = true) (hC : RdL h Ls cv c) (hcl : c.length = p.length) (hrg : ∀ u, -1000000 ≤ c.getD u 0 ∧ c.getD u 0 ≤ 1000000) (a : Int) : Rets Tryz.prog 91 #[pv, cv, .int .i64 a] w fun v w' => ∃ X Y xv yv, v = .tuple #[xv, yv] ∧ IRow X 3 xv (doneC p c a) ∧ IRow Y 3 yv (toI (doneR p c a)) ∧ H w' h (X :: Y :: Ls) := by
  have hlen := PlanOk.len hv
  have hdl := doneC_len p c a
  refine rets_enter Tryz.func91 rfl Tryz.ntmps91 (by simp) ?_
  refine WT_seq ?_
  refine WT_region ?_
  refine WL_v rfl (ov_assign rfl) ?_
  refine WL_v rfl (ov_assign rfl) ?_
  refine WL_nil ?_
  refine WT_seq ?_
  refine WT_region ?_
  refine WL_bsI0 rfl hH run_bs_int0 ?_; rintro X0 ev w1 hX0 hH1
  refine WL_v rfl (ov_move rfl) ?_
  refine WL_appR (i := 0) (xs := []) rfl hH1 rfl rfl st_sl_int rfl hX0 hC.sl (hC.cell hH1.drop) (by simp only [List.length_nil]; omega) (by simp only [List.length_nil]; omega) ?_; rintro X1 xv w2 hX1 hH2
  refine WL_v rfl (ov_assign rfl) ?_
  refine WL_nil ?_
  refine WT_seq ?_
  refine WT_region ?_
  refine WL_bsI0 rfl hH2 run_bs_int0 ?_; rintro Y0 yv0 w3 hY0 hH3
  refine WL_v rfl (ov_assign rfl) ?_
  refine WL_nil ?_
  refine WT_seq ?_
  refine WT_seq ?_
  refine WT_region ?_
  refine WL_v rfl (ov_assign rfl) ?_
  refine WL_nil ?_
  refine WT_block ?_
  refine WT_while (fun s : Nat × Value => [(0, pv), (2, .int .i64 a), (8, xv), (9, s.2), (10, .int .i64 (s.1 : Int))]) (fun s w => s.1 ≤ p.length ∧ ∃ X Y, IRow X 3 xv ((doneC p c a).take s.1 ++ c.drop s.1) ∧ IRow Y 3 s.2 (toI ((List.range s.1).filter fun i => decide (a ∈ (p.getD i default).frm) && decide (c.getD i 0 = 1))) ∧ H w h (Y :: X :: Ls)) (fun s => p.length - s.1) (0, yv0) (by repeat (first | exact trivial | refine ⟨rfl, ?_⟩)) ⟨by omega, X1, Y0, by simpa using hX1, hY0, hH3⟩ ?_
  clear hH hH1 hH2 hH3 hX0 hX1 hY0
  rintro ⟨k, yv⟩ w4 ⟨hk, X, Y, hX, hY, hH⟩ again
  simp only at hk hX hY
  have hfl := List.length_filter_le (fun i => decide (a ∈ (p.getD i default).frm) && decide (c.getD i 0 = 1)) (List.range k)
  rw [List.length_range] at hfl
  refine WT_seq ?_
  refine WT_seq ?_
  refine WT_region ?_
  refine WL_v rfl (ov_move rfl) ?_
  refine WL_v rfl (ov_move rfl) ?_
  refine WL_v rfl (ov_len rfl hP.sl st_sl_impl_Node) ?_
  refine WL_v rfl (ov_lss rfl rfl) ?_
  refine WL_nil ?_
  refine WT_cond rfl (fun hc => ?_) (fun hc => ?_)
  · skip
    first | with_reducible replace hc := of_decide_eq_true hc | with_reducible replace hc := bn_T hc | with_reducible replace hc := bb_T hc | skip
    simp only at hc
    have hkp : k < p.length := by omega
    obtain ⟨fv, rv, hf, hr, hcell⟩ := hP.node hkp
    have htl : ((doneC p c a).take k).length = k := by rw [List.length_take]; omega
    have hkc : k < c.length := by omega
    have hdk : k < (doneC p c a).length := by omega
    have hdc : c.drop k = c[k] :: c.drop (k + 1) := List.drop_eq_getElem_cons hkc
    have htk : (doneC p c a).take (k + 1) = (doneC p c a).take k ++ [(doneC p c a)[k]] := List.take_succ_eq_append_getElem hdk
    have hval : (doneC p c a)[k] = c[k] - (if a ∈ p[k].frm then 1 else 0) := by rw [doneC_get, getD_elem hkc, getD_of hkp]
    have hck := hrg k
    rw [getD_elem hkc] at hck
    rw [hdc] at hX
    have hkl : k < ((doneC p c a).take k ++ c[k] :: c.drop (k + 1)).length := by rw [List.length_append, htl, List.length_cons]; omega
    have hgk := getElem_mid ((doneC p c a).take k) (c.drop (k + 1)) c[k] k htl hkl
    refine WT_skip ?_
    refine WT_seq ?_
    refine WT_block ?_
    refine WT_seq ?_
    refine WT_region ?_
    refine WL_v rfl (ov_move rfl) ?_
    refine WL_v rfl (ov_move rfl) ?_
    refine WL_v rfl (ov_index rfl rfl st_sl_impl_Node hP.sl hkp) ?_
    refine WL_v rfl (ov_field rfl fo_impl_Node_1) ?_
    refine WL_v rfl (ov_load rfl one_sl_int (hcell _ _ hH 1 _ rfl)) ?_
    refine WL_v rfl (ov_move rfl) ?_
    refine WL_call rfl rfl cf_spec_l3Has (l3HasR_ok hH (hf.rdl _) a) ?_; rintro _ w5 ⟨rfl, hH5⟩
    refine WL_nil ?_
    refine WT_cond rfl (fun hin => ?_) (fun hin => ?_)
    · skip
      first | with_reducible replace hin := of_decide_eq_true hin | with_reducible replace hin := bn_T hin | with_reducible replace hin := bb_T hin | skip
      rw [if_pos hin] at hval
      refine WT_seq ?_
      refine WT_region ?_
      refine WL_v rfl (ov_move rfl) ?_
      refine WL_v rfl (ov_move rfl) ?_
      refine WL_v rfl (ov_move rfl) ?_
      refine WL_v rfl (ov_move rfl) ?_
      refine WL_v rfl (ov_index rfl rfl st_sl_int hX.sl hkl) ?_
      refine WL_v rfl (ov_load rfl one_int (hX.cell hH5 (i := 1) rfl hkl)) ?_; rw [hgk]
      refine WL_v rfl (ov_sub rfl rfl (by omega)) ?_
      refine WL_v rfl (ov_index rfl rfl st_sl_int hX.sl hkl) ?_
      refine WL_storeI hH5 rfl rfl (i := 1) rfl hX hkl sz_int ?_; rintro X2 w6 hX2 hH6
      refine WL_nil ?_
      refine WT_seq ?_
      refine WT_region ?_
      refine WL_v rfl (ov_move rfl) ?_
      refine WL_v rfl (ov_move rfl) ?_
      rw [set_mid _ _ _ _ _ htl] at hX2
      have hkl2 : k < ((doneC p c a).take k ++ (c[k] - 1) :: c.drop (k + 1)).length := by rw [List.length_append, htl, List.length_cons]; omega
      have hgk2 := getElem_mid ((doneC p c a).take k) (c.drop (k + 1)) (c[k] - 1) k htl hkl2
      have hX3 : IRow X2 3 xv ((doneC p c a).take (k + 1) ++ c.drop (k + 1)) := by rw [htk, hval]; simpa using hX2
      refine WL_v rfl (ov_index rfl rfl st_sl_int hX2.sl hkl2) ?_
      refine WL_v rfl (ov_load rfl one_int (hX2.cell hH6 (i := 1) rfl hkl2)) ?_; rw [hgk2]
      refine WL_v rfl (ov_eql rfl rfl) ?_
      refine WL_nil ?_
      refine WT_cond rfl (fun h0 => ?_) (fun h0 => ?_)
      · skip
        first | with_reducible replace h0 := of_decide_eq_true h0 | with_reducible replace h0 := bn_T h0 | with_reducible replace h0 := bb_T h0 | skip
        refine WT_region ?_
        refine WL_v rfl (ov_move rfl) ?_
        refine WL_v rfl (ov_move rfl) ?_
        refine WL_bsI rfl hH6 rfl (run_bs_int _) ?_; rintro Z zv w7 hZ hH7
        refine WL_appI (i := 1) (j := 0) rfl hH7 rfl rfl st_sl_int rfl hY rfl hZ (by simp only [toI_len, List.length_cons, List.length_nil]; omega) (by simp only [toI_len, List.length_cons, List.length_nil]; omega) ?_; rintro Y2 yv2 w8 hY2 hH8
        refine WL_v rfl (ov_assign rfl) ?_
        refine WL_nil ?_
        refine WT_inBlock ?_
        refine WT_region ?_
        refine WL_v rfl (ov_move rfl) ?_
        refine WL_v rfl (ov_add rfl rfl (by omega)) ?_
        refine WL_v rfl (ov_assign rfl) ?_
        refine WL_nil ?_
        refine again (k + 1, yv2) _ _ (by simp only; omega) (by repeat (first | exact trivial | refine ⟨rfl, ?_⟩)) ⟨by simp only; omega, X2, Y2, hX3, by simp only; rw [List.range_succ, List.filter_append, List.filter_cons, if_pos (by rw [getD_of hkp, getD_elem hkc, decide_eq_true hin, decide_eq_true (by omega)]; rfl), List.filter_nil, toI_snoc]; exact hY2, hH8.drop⟩
      first | with_reducible replace h0 := of_decide_eq_false h0 | with_reducible replace h0 := bn_F h0 | with_reducible replace h0 := bb_F h0 | skip
      refine WT_skip ?_
      refine WT_inBlock ?_
      refine WT_region ?_
      refine WL_v rfl (ov_move rfl) ?_
      refine WL_v rfl (ov_add rfl rfl (by omega)) ?_
      refine WL_v rfl (ov_assign rfl) ?_
      refine WL_nil ?_
      refine again (k + 1, yv) _ _ (by simp only; omega) (by repeat (first | exact trivial | refine ⟨rfl, ?_⟩)) ⟨by simp only; omega, X2, Y, hX3, by simp only; rw [List.range_succ, List.filter_append, List.filter_cons, if_neg (by rw [getD_elem hkc, decide_eq_false (p := c[k] = 1) (by omega), Bool.and_false]; simp), List.filter_nil, List.append_nil]; exact hY, hH6⟩
    first | with_reducible replace hin := of_decide_eq_false hin | with_reducible replace hin := bn_F hin | with_reducible replace hin := bb_F hin | skip
    rw [if_neg hin, Int.sub_zero] at hval
    have hX3 : IRow X 3 xv ((doneC p c a).take (k + 1) ++ c.drop (k + 1)) := by rw [htk, hval]; simpa using hX
    refine WT_skip ?_
    refine WT_inBlock ?_
    refine WT_region ?_
    refine WL_v rfl (ov_move rfl) ?_
    refine WL_v rfl (ov_add rfl rfl (by omega)) ?_
    refine WL_v rfl (ov_assign rfl) ?_
    refine WL_nil ?_
    refine again (k + 1, yv) _ _ (by simp only; omega) (by repeat (first | exact trivial | refine ⟨rfl, ?_⟩)) ⟨by simp only; omega, X, Y, hX3, by simp only; rw [List.range_succ, List.filter_append, List.filter_cons, if_neg (by rw [getD_of hkp, decide_eq_false hin, Bool.false_and]; simp), List.filter_nil, List.append_nil]; exact hY, hH5⟩
  first | with_reducible replace hc := of_decide_eq_false hc | with_reducible replace hc := bn_F hc | with_reducible replace hc := bb_F hc | skip
  simp only at hc
  obtain rfl : k = p.length := by omega
  rw [List.take_of_length_le (by omega), List.drop_eq_nil_of_le (by omega), List.append_nil] at hX
  refine WT_exit rfl ?_
  refine WT_seq ?_
  refine WT_region ?_
  refine WL_v rfl (ov_move rfl) ?_
  refine WL_v rfl (ov_move rfl) ?_
  refine WL_v rfl (ov_assign rfl) ?_
  refine WL_v rfl (ov_assign rfl) ?_
  refine WL_nil ?_
  exact WT_ret2 Tryz.func91 Tryz.results91 rfl rfl ⟨X, Y, xv, yv, rfl, hX, hY, hH.swap⟩

end
end Go.Proofs.YteagnhdhafiofaaGreat
