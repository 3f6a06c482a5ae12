/- Walks: what is left of a crew's work; who has a node; who takes from whom. -/
import Derived.Test.YteagnhdhafiofaaBf5
namespace Go.Proofs.Yteagnhdhafiofaa
open Go.RowKit

def crewLeft (p : List Nd) (c : Cr) : Int := if crewOk p c = true then (p.length : Int) - (c.dn.length : Int) else -1
def crewAt (p : List Nd) (c : Cr) (a : Int) : Int := if crewOk p c = true then lastW c.dq a c.dq.length else -1

section
variable {h : GH} {Ls : List Heaplet} {w : World}

theorem crewLeft_ok (hH : H w h Ls) {pv dv cv nv rv : Value} {p : List Nd} {c : Cr} (hP : Plan h pv p) (hl : CrLim c) (hC : RdCr h Ls dv cv nv rv c) : Rets Try.prog 9 #[pv, crV dv cv nv rv] w fun v w' => v = .int .i64 (crewLeft p c) ∧ H w' h Ls := by
  have hln := hl.dn
  have hlp := hP.sl
  have hcv := fun {w : World} {X : Heaplet} (hH : H w h (X :: Ls)) => crewValid_ok hH hP hl hC.up
  obtain ⟨A2, c2, rfl, _⟩ := hC.dq.sl.form
  obtain ⟨A3, c3, rfl, _⟩ := hC.ct.sl.form
  obtain ⟨A4, c4, rfl, _⟩ := hC.dn.sl.form
  obtain ⟨A5, c5, rfl, _⟩ := hC.rw.sl.form
  refine rets_enter Try.func9 rfl Try.ntmps9 (by simp) ?_
  refine WT_seq ?_
  refine WT_region ?_
  refine WL_box _ rfl hH rfl rfl ?_; rintro b w1 hH1; replace hH1 : H w1 h (crbox b (.slice A2 c.dq.length c2) (.slice A3 c.ct.length c3) (.slice A4 c.dn.length c4) (.slice A5 c.rw.length c5) :: Ls) := hH1
  refine WL_v rfl (ov_assign rfl) ?_
  refine WL_nil ?_
  refine WT_seq ?_
  refine WT_seq ?_
  refine WT_region ?_
  refine WL_v rfl (ov_move rfl) ?_
  by_cases hv : crewOk p c = true
  · skip
    rw [crewLeft, if_pos hv]
    rw [hv] at hcv
    have hlen := PlanOk.len ((crewOk_iff p c).1 hv).plan
    refine WL_v rfl (ov_loadN [.slice A2 c.dq.length c2, .slice A3 c.ct.length c3, .slice A4 c.dn.length c4, .slice A5 c.rw.length c5] rfl agg_impl_Crew rfl ((loadCrew (i := 0) rfl hH1))) ?_
    refine WL_call rfl rfl cf_impl_CrewValid (hcv hH1) ?_; rintro _ w2 ⟨rfl, hH2⟩
    refine WL_v rfl (ov_not rfl) ?_
    refine WL_nil ?_
    refine WT_condF rfl ?_
    refine WT_skip ?_
    refine WT_seq ?_
    refine WT_region ?_
    refine WL_v rfl (ov_move rfl) ?_
    refine WL_v rfl (ov_len rfl hlp st_sl_impl_Node) ?_
    refine WL_v rfl (ov_field rfl fo_impl_Crew_2) ?_
    refine WL_v rfl (ov_load rfl one_sl_int (hH2.cb 0 rfl 2)) ?_
    refine WL_v rfl (ov_len rfl hC.dn.sl st_sl_int) ?_
    refine WL_v rfl (ov_sub rfl rfl (by omega)) ?_
    refine WL_v rfl (ov_assign rfl) ?_
    refine WL_nil ?_
    exact WT_ret1 Try.func9 Try.results9 rfl ⟨rfl, hH2.drop⟩
  · skip
    rw [crewLeft, if_neg hv]
    have hv' : crewOk p c = false := by simpa using hv
    rw [hv'] at hcv
    refine WL_v rfl (ov_loadN [.slice A2 c.dq.length c2, .slice A3 c.ct.length c3, .slice A4 c.dn.length c4, .slice A5 c.rw.length c5] rfl agg_impl_Crew rfl ((loadCrew (i := 0) rfl hH1))) ?_
    refine WL_call rfl rfl cf_impl_CrewValid (hcv hH1) ?_; rintro _ w2 ⟨rfl, hH2⟩
    refine WL_v rfl (ov_not rfl) ?_
    refine WL_nil ?_
    refine WT_condT rfl ?_
    refine WT_seq ?_
    refine WT_region ?_
    refine WL_v rfl (ov_assign rfl) ?_
    refine WL_nil ?_
    exact WT_ret1 Try.func9 Try.results9 rfl ⟨rfl, hH2.drop⟩

end
end Go.Proofs.Yteagnhdhafiofaa

/- Plain: laws of valid crews. No program in sight. -/
namespace Go.Proofs.Yteagnhdhafiofaa

theorem CrewOk.dn_le {p : List Nd} {c : Cr} (h : CrewOk p c) : c.dn.length ≤ p.length := nodup_lenI (order_nodup h.ord) (fun _ ha => order_mem h.ord ha)
theorem CrewOk.both {p : List Nd} {c : Cr} (h : CrewOk p c) : (c.dn ++ readyI p c.dn).Nodup := by
  refine List.nodup_append.2 ⟨order_nodup h.ord, readyI_nodup p c.dn, fun a ha b hb he => ?_⟩
  subst he
  exact (mem_readyI.1 hb).2.1 ha
theorem CrewOk.sum_le {p : List Nd} {c : Cr} (h : CrewOk p c) : c.dn.length + (readyI p c.dn).length ≤ p.length := by
  have := nodup_lenI h.both (n := p.length) fun a ha => by
    rcases List.mem_append.1 ha with ha | ha
    · exact order_mem h.ord ha
    · exact (mem_readyI.1 ha).1
  rw [List.length_append] at this
  exact this
/-- If nothing is ready all is done. -/
theorem CrewOk.all {p : List Nd} {c : Cr} (h : CrewOk p c) : readyI p c.dn = [] ↔ c.dn.length = p.length := by
  constructor
  · intro hr
    have hall : ∀ n, ∀ i, i < n → i < p.length → (i : Int) ∈ c.dn := by
      intro n
      induction n with
      | zero => intro i hi; omega
      | succ n ih =>
        intro i hi hip
        by_cases hm : (i : Int) ∈ c.dn
        · exact hm
        · have : (i : Int) ∈ readyI p c.dn := mem_readyI.2 ⟨by omega, hm, fun f hf => by
            rw [Int.toNat_natCast] at hf
            have hfp := frm_pos h.plan hip f hf
            have := ih f.toNat (by omega) (by omega)
            rw [Int.toNat_of_nonneg hfp.1] at this
            exact this⟩
          rw [hr] at this
          simp at this
    have h1 : ((List.range p.length).map fun (j : Nat) => (j : Int)).Nodup := List.pairwise_map.2 (List.nodup_range.imp fun hab => by omega)
    have h2 := h1.length_le_of_subset (l₂ := c.dn) fun a ha => by
      obtain ⟨i, hi, rfl⟩ := List.mem_map.1 ha
      exact hall p.length i (List.mem_range.1 hi) (List.mem_range.1 hi)
    rw [List.length_map, List.length_range] at h2
    have := h.dn_le
    omega
  · intro hl
    have := h.sum_le
    exact List.eq_nil_of_length_eq_zero (by omega)
theorem lastW_spec (dq : List (List Int)) (a : Int) : ∀ n, (lastW dq a n = -1 ∧ ∀ w, w < n → a ∉ dq.getD w []) ∨ ∃ w, w < n ∧ lastW dq a n = (w : Int) ∧ a ∈ dq.getD w []
  | 0 => .inl ⟨rfl, fun w hw => by omega⟩
  | n + 1 => by
    rw [lastW]
    by_cases hm : a ∈ dq.getD n []
    · rw [if_pos hm]
      exact .inr ⟨n, by omega, rfl, hm⟩
    · rw [if_neg hm]
      rcases lastW_spec dq a n with ⟨h1, h2⟩ | ⟨w, h1, h2, h3⟩
      · refine .inl ⟨h1, fun w hw => ?_⟩
        rcases Nat.lt_or_ge w n with h | h
        · exact h2 w h
        · obtain rfl : w = n := by omega
          exact hm
      · exact .inr ⟨w, by omega, h2, h3⟩
theorem lastW_neg {dq : List (List Int)} {a : Int} : lastW dq a dq.length = -1 ↔ a ∉ dq.flatten := by
  rw [mem_flatD]
  rcases lastW_spec dq a dq.length with ⟨h1, h2⟩ | ⟨w, h1, h2, h3⟩
  · rw [h1]
    exact ⟨fun _ ⟨w, hw, ha⟩ => h2 w hw ha, fun _ => rfl⟩
  · rw [h2]
    exact ⟨fun h => by omega, fun h => absurd ⟨w, h1, h3⟩ h⟩
/-- Every deque is come to. -/
theorem turn_all {dq : List (List Int)} {k : Nat} (hk : k < dq.length) (h : ∀ j, j < dq.length → dq.getD ((k + j) % dq.length) [] = []) : dq.flatten = [] := by
  have h1 : ∀ i, i < dq.length → dq.getD i [] = [] := fun i hi => by
    rcases Nat.lt_or_ge i k with h2 | h2
    · have := h (i + dq.length - k) (by omega)
      rw [show k + (i + dq.length - k) = i + dq.length by omega, Nat.add_mod_right, Nat.mod_eq_of_lt hi] at this
      exact this
    · have := h (i - k) (by omega)
      rw [show k + (i - k) = i by omega, Nat.mod_eq_of_lt hi] at this
      exact this
  refine List.eq_nil_iff_forall_not_mem.2 fun a ha => ?_
  obtain ⟨w, hw, hm⟩ := mem_flatD.1 ha
  rw [h1 w hw] at hm
  simp at hm
theorem zeros_all {p : List Nd} {c : Cr} (h : CrewOk p c) {z : Int} : z ∈ ((List.range c.ct.length).filter fun i => decide (c.ct.getD i 0 = 0)).map (fun (j : Nat) => (j : Int)) ↔ z ∈ c.dn ∨ z ∈ readyI p c.dn := by
  rw [← h.ct, cntL_len]
  constructor
  · intro hz
    obtain ⟨i, hi, rfl⟩ := List.mem_map.1 hz
    obtain ⟨h1, h2⟩ := List.mem_filter.1 hi
    have hip := List.mem_range.1 h1
    have h3 := of_decide_eq_true h2
    rw [cntL_getD hip] at h3
    have h4 := (cntB_zero h.plan (D := c.dn) hip).1 (by omega)
    by_cases hm : (i : Int) ∈ c.dn
    · exact .inl hm
    · exact .inr (mem_readyI.2 ⟨by omega, hm, by rw [Int.toNat_natCast]; exact h4⟩)
  · intro hz
    have hrg : 0 ≤ z ∧ z < (p.length : Int) := by
      rcases hz with hz | hz
      · exact order_mem h.ord hz
      · exact (mem_readyI.1 hz).1
    have hnd : ∀ f ∈ (p.getD z.toNat default).frm, f ∈ c.dn := by
      rcases hz with hz | hz
      · exact order_needs h.ord hz
      · exact (mem_readyI.1 hz).2.2
    obtain ⟨i, hi⟩ := Int.eq_ofNat_of_zero_le hrg.1
    subst hi
    rw [Int.toNat_natCast] at hnd
    have hip : i < p.length := by omega
    refine List.mem_map.2 ⟨i, List.mem_filter.2 ⟨List.mem_range.2 hip, decide_eq_true ?_⟩, rfl⟩
    rw [cntL_getD hip, (cntB_zero h.plan hip).2 hnd]
    rfl
theorem zeros_len {p : List Nd} {c : Cr} (h : CrewOk p c) : ((List.range c.ct.length).filter fun i => decide (c.ct.getD i 0 = 0)).length = c.dn.length + (readyI p c.dn).length := by
  have h1 : (((List.range c.ct.length).filter fun i => decide (c.ct.getD i 0 = 0)).map (fun (j : Nat) => (j : Int))).Nodup := List.pairwise_map.2 ((List.nodup_range.filter _).imp fun hab => by omega)
  have h2 := (List.perm_ext_iff_of_nodup h1 h.both).2 fun a => by rw [List.mem_append]; exact zeros_all h
  have := h2.length_eq
  rw [List.length_map, List.length_append] at this
  exact this
/-- Whoever has which deque. -/
theorem CrewOk.deal {p : List Nd} {c : Cr} (h : CrewOk p c) {dq : List (List Int)} (hp : dq.flatten.Perm c.dq.flatten) (hl : dq.length = c.dq.length) : CrewOk p ⟨dq, c.ct, c.dn, c.rw⟩ :=
  ⟨h.plan, by rw [hl]; exact h.dq, h.ord, h.ct, h.rl, (isort_eq (readyI_le p c.dn)).2 (hp.trans h.perm), h.rows⟩
end Go.Proofs.Yteagnhdhafiofaa
