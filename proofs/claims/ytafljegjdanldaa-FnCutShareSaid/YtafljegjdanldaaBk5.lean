/- Plain laws: a plan without nodes that do the same. -/
import Derived.Test.YtafljegjdanldaaBk4
namespace Go.Proofs.Ytafljegjdanldaa

/-- A node is the first one that does what it does. -/
def shB (fs : List Int) (i : Nat) : Bool := decide (fs.getD i 0 = (i : Int))
def shNum (fs : List Int) (i : Nat) : Nat := numK (shB fs) (fs.getD i 0).toNat
def shNode (fs : List Int) (x : Nd) : Nd := ⟨x.kind, x.frm.map fun f => ((shNum fs f.toNat : Nat) : Int), x.row⟩
def shTo (p : List Nd) (fs : List Int) (n : Nat) : List Nd := ((List.range n).filter (shB fs)).map fun i => shNode fs (p.getD i default)
theorem shTo_succ (p : List Nd) (fs : List Int) (n : Nat) : shTo p fs (n + 1) = shTo p fs n ++ if shB fs n = true then [shNode fs (p.getD n default)] else [] := by
  unfold shTo
  rw [List.range_succ, List.filter_append, List.map_append, List.filter_cons]
  by_cases h : shB fs n = true <;> simp [h]
theorem shTo_len (p : List Nd) (fs : List Int) (n : Nat) : (shTo p fs n).length = numK (shB fs) n := by simp [shTo, numK]
theorem shTo_getD {p : List Nd} {fs : List Int} {i : Nat} (hi : shB fs i = true) : ∀ {n : Nat}, i < n → (shTo p fs n).getD (numK (shB fs) i) default = shNode fs (p.getD i default)
  | n + 1, h => by
    rw [shTo_succ, List.getD_eq_getElem?_getD]
    rcases Nat.lt_or_ge i n with h1 | h1
    · rw [List.getElem?_append_left (by rw [shTo_len]; exact numK_lt h1 hi), ← List.getD_eq_getElem?_getD]
      exact shTo_getD hi h1
    · obtain rfl : i = n := by omega
      rw [List.getElem?_append_right (by rw [shTo_len]; exact Nat.le_refl _), shTo_len, if_pos hi, Nat.sub_self]
      rfl

section
variable {p : List Nd} {fs : List Int} {L : List (List Int × Int)}
theorem Shr.num (h : Shr p p.length fs L) {i : Nat} (hi : i < p.length) : ∃ j : Nat, fs.getD i 0 = (j : Int) ∧ j ≤ i ∧ shB fs j = true ∧ shNum fs i = numK (shB fs) j ∧ keyL (p.getD i default) fs = keyL (p.getD j default) fs := by
  obtain ⟨j, h1, h2, h3, h4⟩ := h.first hi
  exact ⟨j, h1, h2, decide_eq_true h3, by unfold shNum; rw [h1, Int.toNat_natCast], h4⟩
theorem shared_ok (hv : planOk p = true) (h : Shr p p.length fs L) : planOk (shTo p fs p.length) = true := by
  refine (planOk_iff _).2 ⟨by have := PlanOk.len hv; have := numK_le (shB fs) p.length; rw [shTo_len]; omega, fun j hj => ?_⟩
  have hj' := hj
  rw [shTo_len] at hj'
  obtain ⟨i, hi, hk, he⟩ := cut_at hj'
  have hx : (shTo p fs p.length)[j] = shNode fs (p.getD i default) := by rw [← getD_of hj, ← he]; exact shTo_getD hk hi
  rw [hx, getD_of hi]
  have hN := PlanOk.node hv hi
  have hfr := frm_pos hv hi
  rw [getD_of hi] at hfr
  refine nodeOk_of (by simpa [shNode] using hN.len) hN.row (fun g hg => ?_) (fun h0 => ?_) hN.none_
  · obtain ⟨f, hf, rfl⟩ := List.mem_map.1 hg
    have h1 := hfr f hf
    obtain ⟨u, _, h3, h4, h5, _⟩ := h.num (i := f.toNat) (by omega)
    have h2 := numK_lt (K := shB fs) (i := u) (j := i) (by omega) h4
    rw [h5]
    omega
  · refine (hN.wide h0).trans (wideOf_eq (W := wideOf p) (fun x hx => ?_) ⟨(shTo p fs p.length)[j], List.getElem_mem hj, ?_⟩).symm
    · obtain ⟨i2, hi2, rfl⟩ := List.mem_map.1 hx
      have hi3 := List.mem_range.1 (List.mem_filter.1 hi2).1
      intro hk2
      have := (PlanOk.node hv hi3).wide
      rw [← getD_of hi3] at this
      exact this hk2
    · rw [hx, getD_of hi]; exact h0
theorem keyA_of {x : Nd} {fs : List Int} {f : Int} {r : List Int} (hx : x.frm = f :: r) : keyA x fs = fs.getD f.toNat 0 := by unfold keyA; rw [hx]
theorem keyB_one {x : Nd} {fs : List Int} {f : Int} (hx : x.frm = [f]) : keyB x fs = -1 := by unfold keyB; rw [hx]
theorem keyB_two {x : Nd} {fs : List Int} {f g : Int} {r : List Int} (hx : x.frm = f :: g :: r) : keyB x fs = fs.getD g.toNat 0 := by unfold keyB; rw [hx]
theorem upOf_one (c : Int) (ps : List Int) (f : Int) : upOf c ps [f] = max 0 (ps.getD f.toNat 0 + c) := rfl
theorem upOf_two (c : Int) (ps : List Int) (f g : Int) : upOf c ps [f, g] = max (max 0 (ps.getD f.toNat 0 + c)) (ps.getD g.toNat 0 + c) := rfl
/-- Nodes that do the same have paths that cost the same. -/
theorem shared_path (hv : planOk p = true) (h : Shr p p.length fs L) : ∀ i, i < p.length → ∀ j : Nat, fs.getD i 0 = (j : Int) → (pathsTo p p.length).getD i 0 = (pathsTo p p.length).getD j 0 := by
  intro i
  induction i using Nat.strongRecOn with
  | _ i ih =>
    intro hi j hj
    obtain ⟨j2, h1, h2, h3, h4⟩ := h.first hi
    obtain rfl : j2 = j := by omega
    rcases Nat.lt_or_ge j2 i with hlt | hge
    case inr => rw [show i = j2 by omega]
    have hjp : j2 < p.length := by omega
    rw [pathsTo_getD hi, pathsTo_getD hjp]
    have hNi := PlanOk.node hv hi
    have hNj := PlanOk.node hv hjp
    rw [← getD_of hi] at hNi
    rw [← getD_of hjp] at hNj
    have hfi := frm_pos hv hi
    have hfj := frm_pos hv hjp
    have hk : (p.getD i default).kind = (p.getD j2 default).kind := by
      unfold keyL at h4
      exact (List.cons.inj h4).1
    have hl : (p.getD i default).frm.length = (p.getD j2 default).frm.length := by
      have e1 := hNi.len; have e2 := hNj.len; rw [hk] at e1; omega
    rw [hk]
    congr 1
    unfold keyL at h4
    have h5 := (List.cons.inj (List.cons.inj h4).2)
    have h6 := (List.cons.inj h5.2).1
    have h7 := h5.1
    have hAB : (keyA (p.getD i default) fs = keyA (p.getD j2 default) fs ∧ keyB (p.getD i default) fs = keyB (p.getD j2 default) fs) ∨ (keyA (p.getD i default) fs = keyB (p.getD j2 default) fs ∧ keyB (p.getD i default) fs = keyA (p.getD j2 default) fs) := by
      by_cases s1 : swapB (p.getD i default) fs = true <;> by_cases s2 : swapB (p.getD j2 default) fs = true
      · rw [if_pos s1, if_pos s2] at h6 h7; exact .inl ⟨h6, h7⟩
      · rw [if_pos s1, if_neg s2] at h6 h7; exact .inr ⟨h6, h7⟩
      · rw [if_neg s1, if_pos s2] at h6 h7; exact .inr ⟨h7, h6⟩
      · rw [if_neg s1, if_neg s2] at h6 h7; exact .inl ⟨h7, h6⟩
    have l2 := hNi.len2
    generalize hx : (p.getD i default).frm = a at *
    generalize hy : (p.getD j2 default).frm = b at *
    have hpi : ∀ f ∈ a, ∀ u : Nat, fs.getD f.toNat 0 = (u : Int) → (pathsTo p i).getD f.toNat 0 = (pathsTo p p.length).getD u 0 := fun f hf u hu => by
      have e := hfi f hf
      rw [← ih f.toNat (by omega) (by omega) u hu]
      exact progTo_same (by omega) (by omega)
    have hpj : ∀ f ∈ b, ∀ u : Nat, fs.getD f.toNat 0 = (u : Int) → (pathsTo p j2).getD f.toNat 0 = (pathsTo p p.length).getD u 0 := fun f hf u hu => by
      have e := hfj f hf
      rw [← ih f.toNat (by omega) (by omega) u hu]
      exact progTo_same (by omega) (by omega)
    match a, b, hl with
    | [], [], _ => rfl
    | [f], [g], _ =>
      have ef := hfi f (by simp)
      have eg := hfj g (by simp)
      obtain ⟨u, hu, _⟩ := h.first (i := f.toNat) (by omega)
      obtain ⟨v, hw, _⟩ := h.first (i := g.toNat) (by omega)
      have a1 := keyA_of (fs := fs) hx
      have a2 := keyA_of (fs := fs) hy
      have b1 := keyB_one (fs := fs) hx
      have b2 := keyB_one (fs := fs) hy
      obtain rfl : u = v := by omega
      rw [upOf_one, upOf_one, hpi f (by simp) u hu, hpj g (by simp) u hw]
    | [f, f2], [g, g2], _ =>
      have ef := hfi f (by simp)
      have eg := hfj g (by simp)
      have ef2 := hfi f2 (by simp)
      have eg2 := hfj g2 (by simp)
      obtain ⟨u, hu, _⟩ := h.first (i := f.toNat) (by omega)
      obtain ⟨v, hw, _⟩ := h.first (i := g.toNat) (by omega)
      obtain ⟨u2, hu2, _⟩ := h.first (i := f2.toNat) (by omega)
      obtain ⟨v2, hw2, _⟩ := h.first (i := g2.toNat) (by omega)
      have a1 := keyA_of (fs := fs) hx
      have a2 := keyA_of (fs := fs) hy
      have b1 := keyB_two (fs := fs) hx
      have b2 := keyB_two (fs := fs) hy
      rw [upOf_two, upOf_two, hpi f (by simp) u hu, hpj g (by simp) v hw, hpi f2 (by simp) u2 hu2, hpj g2 (by simp) v2 hw2]
      rcases (show (u = v ∧ u2 = v2) ∨ (u = v2 ∧ u2 = v) by omega) with ⟨rfl, rfl⟩ | ⟨rfl, rfl⟩
      · rfl
      · omega
    | _ :: _ :: _ :: _, _, _ => simp at l2
theorem shared_at (hv : planOk p = true) (h : Shr p p.length fs L) : ∀ i, i < p.length → shB fs i = true → (pathsTo (shTo p fs p.length) (shTo p fs p.length).length).getD (numK (shB fs) i) 0 = (pathsTo p p.length).getD i 0 := by
  intro i
  induction i using Nat.strongRecOn with
  | _ i ih =>
    intro hi hk
    have hfr := frm_pos hv hi
    have hj : numK (shB fs) i < (shTo p fs p.length).length := by rw [shTo_len]; exact numK_lt hi hk
    rw [pathsTo_getD hj, pathsTo_getD hi, shTo_getD hk hi]
    show upOf 0 _ ((p.getD i default).frm.map fun f => ((shNum fs f.toNat : Nat) : Int)) + _ = _
    rw [upOf_map]
    congr 1
    refine foldl_max_congr _ _ _ _ fun f hf => ?_
    have h1 := hfr f hf
    obtain ⟨u, hu, hle, hku, hnu, _⟩ := h.num (i := f.toNat) (by omega)
    have h2 := ih u (by omega) (by omega) hku
    have h3 := numK_lt (K := shB fs) (i := u) (j := i) (by omega) hku
    have h7 := shared_path hv h f.toNat (by omega) u hu
    rw [Int.toNat_natCast, hnu]
    have h4 : (pathsTo (shTo p fs p.length) (numK (shB fs) i)).getD (numK (shB fs) u) 0 = (pathsTo (shTo p fs p.length) (shTo p fs p.length).length).getD (numK (shB fs) u) 0 := progTo_same h3 (by omega)
    have h5 : (pathsTo p i).getD f.toNat 0 = (pathsTo p p.length).getD f.toNat 0 := progTo_same (by omega) (by omega)
    rw [h4, h5, h2, h7]
theorem shared_most (hv : planOk p = true) (h : Shr p p.length fs L) : mostOf (pathsTo (shTo p fs p.length) (shTo p fs p.length).length) ≤ mostOf (pathsTo p p.length) := by
  refine mostOf_le (mostOf_nonneg _) fun a ha => ?_
  obtain ⟨j, hj, rfl⟩ := List.mem_iff_getElem.1 ha
  have hj' := hj
  rw [pathsTo_len, shTo_len] at hj'
  obtain ⟨i, hi, hk, he⟩ := cut_at hj'
  rw [← getD_elem hj, ← he, shared_at hv h i hi hk]
  exact le_mostOf (getD_mem (by rw [pathsTo_len]; exact hi))
end
theorem sumTo_app (a b : List Nd) : ∀ k, k ≤ a.length → sumTo (a ++ b) k = sumTo a k
  | 0, _ => rfl
  | k + 1, h => by
    rw [sumTo, sumTo, sumTo_app a b k (by omega), List.getD_eq_getElem?_getD, List.getD_eq_getElem?_getD, List.getElem?_append_left (by omega)]
theorem shared_sum (p : List Nd) (fs : List Int) : ∀ n, sumTo (shTo p fs n) (shTo p fs n).length ≤ sumTo p n
  | 0 => by simp [shTo, sumTo]
  | n + 1 => by
    have ih := shared_sum p fs n
    have hc := kindCost_rg (p.getD n default).kind
    rw [shTo_succ, sumTo]
    by_cases h : shB fs n = true
    · rw [if_pos h, List.length_append]
      show sumTo (shTo p fs n ++ [shNode fs (p.getD n default)]) ((shTo p fs n).length + 1) ≤ _
      rw [sumTo, sumTo_app _ _ _ (Nat.le_refl _), List.getD_eq_getElem?_getD, List.getElem?_append_right (Nat.le_refl _), Nat.sub_self]
      show sumTo (shTo p fs n) (shTo p fs n).length + kindCost (p.getD n default).kind ≤ _
      omega
    · rw [if_neg h, List.append_nil]
      omega
end Go.Proofs.Ytafljegjdanldaa

/- Walks: nodes that do the same. -/
namespace Go.Proofs.Ytafljegjdanldaa
open Go.RowKit

theorem ov_ta {P : Program} {env : Env} {w : World} {ty : TypeId} {x : Operand} {v r : Value} {t at' : TypeId} {b : Bool} (hx : ev env x = some v) (hr : ∀ W, (Instr.typeAssert v t at' b).run P W = .ok r W) : OpV P env w (.typeAssert x t at' b) ty r :=
  fun _ _ _ ρ hρ => by simp [execOp, hρ.1 x _ hx, hr]
theorem ta_nil (W : World) : (Instr.typeAssert .nilIface 99 103 true).run Try.prog W = .ok (.tuple #[.agg #[.nilFunc], .bool false]) W := by kernel_rfl
theorem ta_given (W : World) : (Instr.typeAssert (.iface 128 (.agg #[])) 99 103 true).run Try.prog W = .ok (.tuple #[.agg #[.nilFunc], .bool false]) W := by kernel_rfl
theorem ta_lone (f : Nat) (W : World) : (Instr.typeAssert (.iface 107 (.agg #[.func (.func f) #[] #[]])) 99 103 true).run Try.prog W = .ok (.tuple #[.agg #[.nilFunc], .bool false]) W := by kernel_rfl
theorem ta_pair (f : Nat) (W : World) : (Instr.typeAssert (.iface 103 (.agg #[.func (.func f) #[] #[]])) 99 103 true).run Try.prog W = .ok (.tuple #[.agg #[.func (.func f) #[] #[]], .bool true]) W := by kernel_rfl
theorem ta_work (k : Int) : ∃ z, Value.oneCell' z = true ∧ ∀ W, (Instr.typeAssert (workV k) 99 103 true).run Try.prog W = .ok (.tuple #[.agg [z].toArray, .bool (decide (k = 1 ∨ k = 2))]) W := by
  rcases kindCases k with rfl | rfl | rfl | rfl | rfl | rfl | hk
  · exact ⟨.nilFunc, rfl, ta_given⟩
  · exact ⟨_, rfl, ta_pair _⟩
  · exact ⟨_, rfl, ta_pair _⟩
  · exact ⟨.nilFunc, rfl, ta_lone _⟩
  · exact ⟨.nilFunc, rfl, ta_lone _⟩
  · exact ⟨.nilFunc, rfl, ta_lone _⟩
  · have : ¬ (0 ≤ k ∧ k ≤ 5) := by simpa [kindOk] using hk
    have hw : workV k = .nilIface := by
      unfold workV
      rw [if_neg (by omega), if_neg (by omega), if_neg (by omega), if_neg (by omega), if_neg (by omega), if_neg (by omega)]
    rw [hw, decide_eq_false (by omega)]
    exact ⟨.nilFunc, rfl, ta_nil⟩

section
variable {h : GH} {Ls : List Heaplet} {w : World}
theorem zero_pair (W : World) : (zeroValue 103).run Try.prog W = .ok (.agg #[.nilFunc]) W := by kernel_rfl
theorem kindSwaps_ok (hH : H w h Ls) (k : Int) : Rets Try.prog 125 #[.int .i64 k] w fun v w' => v = .bool (decide (k = 1 ∨ k = 2)) ∧ H w' h Ls := by
  obtain ⟨z, hz1, hz⟩ := ta_work k
  refine rets_enter Try.func125 rfl Try.ntmps125 (by simp) ?_
  refine WT_seq ?_
  refine WT_region ?_
  refine WL_v rfl (ov_assign rfl) ?_
  refine WL_nil ?_
  refine WT_seq ?_
  refine WT_region ?_
  refine WL_v rfl (ov_move rfl) ?_
  refine WL_call rfl rfl cf_impl_workOf (workOf_ok hH k) ?_; rintro _ w1 ⟨rfl, hH1⟩
  refine WL_v rfl (ov_ta rfl hz) ?_
  refine WL_v rfl (ov_move rfl) ?_
  refine WL_v rfl (ov_extract rfl rfl) ?_
  refine WL_v rfl (ov_extract rfl rfl) ?_
  refine WL_alloc #[.nilFunc] rfl hH1 zero_pair rfl ?_; rintro g w2 hH2
  refine WL_storeN hH2 rfl rfl (i := 0) rfl rfl rfl (ones_cons hz1 ones_nil) sz_impl_pairWork ?_; rintro w3 hH3
  refine WL_v rfl (ov_assign rfl) ?_
  refine WL_nil ?_
  refine WT_seq ?_
  refine WT_region ?_
  refine WL_v rfl (ov_move rfl) ?_
  refine WL_v rfl (ov_assign rfl) ?_
  refine WL_nil ?_
  exact WT_ret1 Try.func125 Try.results125 rfl ⟨rfl, hH3.drop⟩

theorem kindSwaps_yes (hH : H w h Ls) {k : Int} (hk : k = 1 ∨ k = 2) : Rets Try.prog 125 #[.int .i64 k] w fun v w' => v = .bool true ∧ H w' h Ls :=
  (kindSwaps_ok hH k).mono fun _ _ hh => ⟨by rw [hh.1, decide_eq_true hk], hh.2⟩
theorem kindSwaps_no (hH : H w h Ls) {k : Int} (hk : ¬ (k = 1 ∨ k = 2)) : Rets Try.prog 125 #[.int .i64 k] w fun v w' => v = .bool false ∧ H w' h Ls :=
  (kindSwaps_ok hH k).mono fun _ _ hh => ⟨by rw [hh.1, decide_eq_false hk], hh.2⟩
theorem zero_key (W : World) : (zeroValue 141).run Try.prog W = .ok (.agg #[.int .i64 0, .int .i64 0, .int .i64 0, .int .i64 0, .int .i64 0, .int .i64 0, .int .i64 0, .int .i64 0, .int .i64 0, .int .i64 0]) W := by kernel_rfl
theorem run_build_key (k n : Int) (W : World) : (Instr.build 141 #[(0, .int .i64 k), (1, .int .i64 (-1)), (2, .int .i64 (-1)), (3, .int .i64 n)]).run Try.prog W = .ok (.agg #[.int .i64 k, .int .i64 (-1), .int .i64 (-1), .int .i64 n, .int .i64 0, .int .i64 0, .int .i64 0, .int .i64 0, .int .i64 0, .int .i64 0]) W := by kernel_rfl
theorem pad_six (r : List Int) : ∃ a b c d e f, padRow r = [a, b, c, d, e, f] := by
  have h := padRow_len r
  match hp : padRow r, h with
  | [a, b, c, d, e, f], _ => exact ⟨a, b, c, d, e, f, rfl⟩
/-- A key in a box. -/
def keyBox (g : Nat) (k a b n : Int) (r : List Int) : Heaplet := [(g, .cells ((k :: a :: b :: n :: padRow r).map (Value.int .i64)).toArray 141 (0, 0))]

theorem shareKeyOf_ok (hH : H w h Ls) {k : Int} {fv rv sv : Value} {f r : List Int} {fs : List Int} (hF : RdL h Ls fv f) (hR : RdL h Ls rv r) (hS : RdL h Ls sv fs) (hrl : r.length ≤ 6) (hfb : ∀ x ∈ f, 0 ≤ x ∧ x < (fs.length : Int)) : Rets Try.prog 112 #[.agg [.int .i64 k, fv, rv].toArray, sv] w fun v w' => v = .agg ((keyL ⟨k, f, r⟩ fs).map (Value.int .i64)).toArray ∧ H w' h Ls := by
  refine rets_enter Try.func112 rfl Try.ntmps112 (by simp) ?_
  refine WT_seq ?_
  refine WT_region ?_
  refine WL_box _ rfl hH rfl rfl ?_; rintro b w1 hH1
  refine WL_alloc _ rfl hH1 zero_key rfl ?_; rintro g4 w2 hH2
  refine WL_nil ?_
  refine WT_seq ?_
  refine WT_region ?_
  refine WL_v rfl (ov_field rfl fo_impl_Node_0) ?_
  refine WL_v rfl (ov_load rfl one_int (hH2.cb 1 rfl 0)) ?_
  refine WL_v rfl (ov_field rfl fo_impl_Node_2) ?_
  refine WL_v rfl (ov_load rfl one_sl_int (hH2.cb 1 rfl 2)) ?_
  refine WL_v rfl (ov_len rfl hR.sl st_sl_int) ?_
  refine WL_v rfl (ov_build rfl (run_build_key _ _)) ?_
  refine WL_alloc _ rfl hH2 zero_key rfl ?_; rintro g5 w3 hH3
  refine WL_storeN hH3 rfl rfl (i := 0) rfl rfl rfl (ones_cons rfl (ones_cons rfl (ones_cons rfl (ones_cons rfl (ones_cons rfl (ones_cons rfl (ones_cons rfl (ones_cons rfl (ones_cons rfl (ones_cons rfl ones_nil)))))))))) sz_impl_shareKey ?_; rintro w4 hH4
  refine WL_nil ?_
  refine WT_seq ?_
  refine WT_mixO (i := 2) [(0, 0), (1, 0), (2, 0), (3, 0), (4, 3)] mixed (by kernel_rfl) hH4 rfl ?_
  clear hH4
  intro w5 hH4 hC
  refine WM_v rfl rfl hC (fun _ _ => ov_field rfl fo_impl_shareKey_4) ?_
  refine WM_v rfl rfl hC (fun _ _ => ov_sliceAll rfl arr_6int) ?_
  refine WM_v rfl rfl hC (fun _ _ => ov_field rfl fo_impl_Node_2) ?_
  refine WM_v rfl rfl hC (fun _ ⟨_, hH⟩ => ov_load rfl one_sl_int (hH.cb 1 rfl 2)) ?_
  refine WM_e rfl ?_
  refine WL_copyI (off := 4) rfl hH4 rfl rfl st_sl_int (i := 0) rfl hR.sl (fun hj => hR.cell hH4.drop.drop.drop hj) hrl (by simp; omega) ?_; rintro w5 hH5
  refine WL_mix (fun h => absurd rfl h) ?_
  refine WM_nil ?_
  refine WT_seq ?_
  refine WT_seq ?_
  refine WT_region ?_
  refine WL_v rfl (ov_field rfl fo_impl_Node_1) ?_
  replace hH5 : H w5 h (keyBox g5 k (-1) (-1) (r.length : Int) r :: [(g4, .cells #[.int .i64 0, .int .i64 0, .int .i64 0, .int .i64 0, .int .i64 0, .int .i64 0, .int .i64 0, .int .i64 0, .int .i64 0, .int .i64 0] 141 (0, 0))] :: [(b, .cells #[.int .i64 k, fv, rv] 32 (0, 0))] :: Ls) := by
    have hsp : (splice [.int .i64 k, .int .i64 (-1), .int .i64 (-1), .int .i64 (r.length : Int), .int .i64 0, .int .i64 0, .int .i64 0, .int .i64 0, .int .i64 0, .int .i64 0] 4 (r.map (Value.int .i64))) = (k :: -1 :: -1 :: (r.length : Int) :: padRow r).map (Value.int .i64) := by
      match r, hrl with
      | [], _ => rfl
      | [_], _ => rfl
      | [_, _], _ => rfl
      | [_, _, _], _ => rfl
      | [_, _, _, _], _ => rfl
      | [_, _, _, _, _], _ => rfl
      | [_, _, _, _, _, _], _ => rfl
    unfold keyBox
    rw [← hsp]
    exact hH5
  obtain ⟨p0, p1, p2, p3, p4, p5, hp⟩ := pad_six r
  unfold keyBox at hH5
  rw [hp] at hH5
  replace hH5 : H w5 h ([(g5, .cells #[.int .i64 k, .int .i64 (-1), .int .i64 (-1), .int .i64 (r.length : Int), .int .i64 p0, .int .i64 p1, .int .i64 p2, .int .i64 p3, .int .i64 p4, .int .i64 p5] 141 (0, 0))] :: [(g4, .cells #[.int .i64 0, .int .i64 0, .int .i64 0, .int .i64 0, .int .i64 0, .int .i64 0, .int .i64 0, .int .i64 0, .int .i64 0, .int .i64 0] 141 (0, 0))] :: [(b, .cells #[.int .i64 k, fv, rv] 32 (0, 0))] :: Ls) := hH5
  have hkey : keyL ⟨k, f, r⟩ fs = k :: (if swapB ⟨k, f, r⟩ fs = true then keyB ⟨k, f, r⟩ fs else keyA ⟨k, f, r⟩ fs) :: (if swapB ⟨k, f, r⟩ fs = true then keyA ⟨k, f, r⟩ fs else keyB ⟨k, f, r⟩ fs) :: (r.length : Int) :: [p0, p1, p2, p3, p4, p5] := by
    unfold keyL; rw [hp]
  refine WL_v rfl (ov_load rfl one_sl_int (hH5.cb 2 rfl 1)) ?_
  refine WL_v rfl (ov_len rfl hF.sl st_sl_int) ?_
  refine WL_v rfl (ov_gtr rfl rfl) ?_
  refine WL_nil ?_
  refine WT_join (ι := Int) (fun _ => [(1, sv), (2, ptr b), (4, ptr g4), (5, ptr g5)]) (fun A w => A = keyA ⟨k, f, r⟩ fs ∧ H w h ([(g5, .cells #[.int .i64 k, .int .i64 A, .int .i64 (-1), .int .i64 (r.length : Int), .int .i64 p0, .int .i64 p1, .int .i64 p2, .int .i64 p3, .int .i64 p4, .int .i64 p5] 141 (0, 0))] :: [(g4, .cells #[.int .i64 0, .int .i64 0, .int .i64 0, .int .i64 0, .int .i64 0, .int .i64 0, .int .i64 0, .int .i64 0, .int .i64 0, .int .i64 0] 141 (0, 0))] :: [(b, .cells #[.int .i64 k, fv, rv] 32 (0, 0))] :: Ls)) (fun joined => ?_) ?_
  · skip
    refine WT_cond rfl (fun h0 => ?_) (fun h0 => ?_)
    · skip
      first | with_reducible replace h0 := of_decide_eq_true h0 | with_reducible replace h0 := bn_T h0 | with_reducible replace h0 := bb_T h0 | skip
      obtain ⟨x, rr, hxf⟩ : ∃ x rr, f = x :: rr := by
        cases f with
        | nil => simp at h0
        | cons x rr => exact ⟨x, rr, rfl⟩
      have hxb := hfb x (by rw [hxf]; simp)
      obtain ⟨u, hu⟩ := Int.eq_ofNat_of_zero_le hxb.1
      have hul : u < fs.length := by omega
      have hfl : 0 < f.length := by omega
      have hg0 : f[0] = (u : Int) := by simp only [hxf]; exact hu
      refine WT_region ?_
      refine WL_v rfl (ov_move rfl) ?_
      refine WL_v rfl (ov_field rfl fo_impl_Node_1) ?_
      refine WL_v rfl (ov_load rfl one_sl_int (hH5.cb 2 rfl 1)) ?_
      refine WL_v rfl (ov_index (i := 0) rfl rfl st_sl_int hF.sl hfl) ?_
      refine WL_v rfl (ov_load rfl one_int (hF.cell hH5.drop.drop.drop hfl)) ?_; rw [hg0]
      refine WL_v rfl (ov_index rfl rfl st_sl_int hS.sl hul) ?_
      refine WL_v rfl (ov_load rfl one_int (hS.cell hH5.drop.drop.drop hul)) ?_
      refine WL_v rfl (ov_field rfl fo_impl_shareKey_1) ?_
      refine WL_store hH5 rfl rfl (i := 0) (off := 1) rfl rfl (by simp) rfl sz_int ?_; rintro w6 hH6
      refine WL_nil ?_
      exact joined fs[u] _ _ (by repeat (first | exact trivial | refine ⟨rfl, ?_⟩)) ⟨by rw [keyA_of (r := rr) hxf, hu, Int.toNat_natCast, getD_elem hul], hH6⟩
    first | with_reducible replace h0 := of_decide_eq_false h0 | with_reducible replace h0 := bn_F h0 | with_reducible replace h0 := bb_F h0 | skip
    have hf0 : f = [] := List.eq_nil_of_length_eq_zero (by omega)
    refine WT_skip ?_
    exact joined (-1) _ _ (by repeat (first | exact trivial | refine ⟨rfl, ?_⟩)) ⟨by unfold keyA; simp only [hf0], hH5⟩
  clear hH5
  rintro A w6 ⟨hA, hH6⟩
  refine WT_seq ?_
  refine WT_seq ?_
  refine WT_region ?_
  refine WL_v rfl (ov_field rfl fo_impl_Node_1) ?_
  refine WL_v rfl (ov_load rfl one_sl_int (hH6.cb 2 rfl 1)) ?_
  refine WL_v rfl (ov_len rfl hF.sl st_sl_int) ?_
  refine WL_v rfl (ov_gtr rfl rfl) ?_
  refine WL_nil ?_
  refine WT_join (ι := Int) (fun _ => [(1, sv), (2, ptr b), (4, ptr g4), (5, ptr g5)]) (fun B w => B = keyB ⟨k, f, r⟩ fs ∧ H w h ([(g5, .cells #[.int .i64 k, .int .i64 A, .int .i64 B, .int .i64 (r.length : Int), .int .i64 p0, .int .i64 p1, .int .i64 p2, .int .i64 p3, .int .i64 p4, .int .i64 p5] 141 (0, 0))] :: [(g4, .cells #[.int .i64 0, .int .i64 0, .int .i64 0, .int .i64 0, .int .i64 0, .int .i64 0, .int .i64 0, .int .i64 0, .int .i64 0, .int .i64 0] 141 (0, 0))] :: [(b, .cells #[.int .i64 k, fv, rv] 32 (0, 0))] :: Ls)) (fun joined => ?_) ?_
  · skip
    refine WT_cond rfl (fun h1 => ?_) (fun h1 => ?_)
    · skip
      first | with_reducible replace h1 := of_decide_eq_true h1 | with_reducible replace h1 := bn_T h1 | with_reducible replace h1 := bb_T h1 | skip
      obtain ⟨x, y, rr, hxf⟩ : ∃ x y rr, f = x :: y :: rr := by
        match f, h1 with
        | [], h1 => simp at h1
        | [_], h1 => simp at h1
        | x :: y :: rr, _ => exact ⟨x, y, rr, rfl⟩
      have hxb := hfb y (by rw [hxf]; simp)
      obtain ⟨u, hu⟩ := Int.eq_ofNat_of_zero_le hxb.1
      have hul : u < fs.length := by omega
      have hfl : 1 < f.length := by omega
      have hg0 : f[1] = (u : Int) := by simp only [hxf]; exact hu
      refine WT_region ?_
      refine WL_v rfl (ov_move rfl) ?_
      refine WL_v rfl (ov_field rfl fo_impl_Node_1) ?_
      refine WL_v rfl (ov_load rfl one_sl_int (hH6.cb 2 rfl 1)) ?_
      refine WL_v rfl (ov_index (i := 1) rfl rfl st_sl_int hF.sl hfl) ?_
      refine WL_v rfl (ov_load rfl one_int (hF.cell hH6.drop.drop.drop hfl)) ?_; rw [hg0]
      refine WL_v rfl (ov_index rfl rfl st_sl_int hS.sl hul) ?_
      refine WL_v rfl (ov_load rfl one_int (hS.cell hH6.drop.drop.drop hul)) ?_
      refine WL_v rfl (ov_field rfl fo_impl_shareKey_2) ?_
      refine WL_store hH6 rfl rfl (i := 0) (off := 2) rfl rfl (by simp) rfl sz_int ?_; rintro w7 hH7
      refine WL_nil ?_
      exact joined fs[u] _ _ (by repeat (first | exact trivial | refine ⟨rfl, ?_⟩)) ⟨by rw [keyB_two (r := rr) hxf, hu, Int.toNat_natCast, getD_elem hul], hH7⟩
    first | with_reducible replace h1 := of_decide_eq_false h1 | with_reducible replace h1 := bn_F h1 | with_reducible replace h1 := bb_F h1 | skip
    refine WT_skip ?_
    exact joined (-1) _ _ (by repeat (first | exact trivial | refine ⟨rfl, ?_⟩)) ⟨by
      unfold keyB
      match f, h1 with
      | [], _ => rfl
      | [_], _ => rfl
      | _ :: _ :: _, h1 => exact absurd (by simp only [List.length_cons]; omega) h1, hH6⟩
  clear hH6
  rintro B w7 ⟨hB, hH7⟩
  have hsw : swapB ⟨k, f, r⟩ fs = decide ((k = 1 ∨ k = 2) ∧ B < A) := by unfold swapB; rw [← hA, ← hB]
  rw [← hA, ← hB, hsw] at hkey
  by_cases hk : k = 1 ∨ k = 2
  case neg =>
    have hd : decide ((k = 1 ∨ k = 2) ∧ B < A) = false := decide_eq_false fun hh => hk hh.1
    rw [hd] at hkey
    refine WT_seq ?_
    refine WT_seq ?_
    refine WT_region ?_
    refine WL_v rfl (ov_field rfl fo_impl_Node_0) ?_
    refine WL_v rfl (ov_load rfl one_int (hH7.cb 2 rfl 0)) ?_
    refine WL_call rfl rfl cf_impl_KindSwaps (kindSwaps_no hH7 hk) ?_; rintro _ w8 ⟨rfl, hH8⟩
    refine WL_v rfl (ov_move rfl) ?_
    refine WL_guardOff rfl rfl rfl rfl ?_
    refine WL_guardOff rfl rfl rfl rfl ?_
    refine WL_guardOff rfl rfl rfl rfl ?_
    refine WL_guardOff rfl rfl rfl rfl ?_
    refine WL_guardOff rfl rfl rfl rfl ?_
    refine WL_v rfl (ov_pickF rfl rfl) ?_
    refine WL_nil ?_
    refine WT_condF rfl ?_
    refine WT_skip ?_
    refine WT_seq ?_
    refine WT_region ?_
    refine WL_v rfl (ov_loadN [.int .i64 k, .int .i64 A, .int .i64 B, .int .i64 (r.length : Int), .int .i64 p0, .int .i64 p1, .int .i64 p2, .int .i64 p3, .int .i64 p4, .int .i64 p5] rfl agg_impl_shareKey rfl ((fun j v hj => by rw [show Addr.add ⟨g5, 0, none⟩ j = ⟨g5, j, none⟩ by simp [add_of]]; exact (hH8.cb 0 rfl j).trans (by simpa using hj)))) ?_
    refine WL_storeN hH8 rfl rfl (i := 1) rfl rfl rfl (ones_cons rfl (ones_cons rfl (ones_cons rfl (ones_cons rfl (ones_cons rfl (ones_cons rfl (ones_cons rfl (ones_cons rfl (ones_cons rfl (ones_cons rfl ones_nil)))))))))) sz_impl_shareKey ?_; rintro wz hHz
    refine WL_nil ?_
    have hl : (loadVar 141 ⟨g4, 0, none⟩).run Try.prog wz = .ok (.agg [.int .i64 k, .int .i64 A, .int .i64 B, .int .i64 (r.length : Int), .int .i64 p0, .int .i64 p1, .int .i64 p2, .int .i64 p3, .int .i64 p4, .int .i64 p5].toArray) wz :=
      run_loadVarN agg_impl_shareKey rfl fun j v hj => by rw [show Addr.add ⟨g4, 0, none⟩ j = ⟨g4, j, none⟩ by simp [add_of]]; exact (hHz.cb 1 rfl j).trans (by simpa using hj)
    exact WT_retC Try.func112 Try.results112 rfl hl ⟨by rw [hkey]; rfl, hHz.drop.drop.drop⟩
  refine WT_seq ?_
  refine WT_seq ?_
  refine WT_region ?_
  refine WL_v rfl (ov_field rfl fo_impl_Node_0) ?_
  refine WL_v rfl (ov_load rfl one_int (hH7.cb 2 rfl 0)) ?_
  refine WL_call rfl rfl cf_impl_KindSwaps (kindSwaps_yes hH7 hk) ?_; rintro _ w8 ⟨rfl, hH8⟩
  refine WL_v rfl (ov_move rfl) ?_
  refine WL_guardOn rfl rfl ?_
  refine WL_v rfl (ov_field rfl fo_impl_shareKey_1) ?_
  refine WL_guardOn rfl rfl ?_
  refine WL_v rfl (ov_load rfl one_int (hH8.cb 0 rfl 1)) ?_
  refine WL_guardOn rfl rfl ?_
  refine WL_v rfl (ov_field rfl fo_impl_shareKey_2) ?_
  refine WL_guardOn rfl rfl ?_
  refine WL_v rfl (ov_load rfl one_int (hH8.cb 0 rfl 2)) ?_
  refine WL_guardOn rfl rfl ?_
  refine WL_v rfl (ov_gtr rfl rfl) ?_
  refine WL_v rfl (ov_pickT rfl rfl) ?_
  refine WL_nil ?_
  refine WT_cond rfl (fun hlt => ?_) (fun hlt => ?_)
  · skip
    first | with_reducible replace hlt := of_decide_eq_true hlt | with_reducible replace hlt := bn_T hlt | with_reducible replace hlt := bb_T hlt | skip
    have hd : decide ((k = 1 ∨ k = 2) ∧ B < A) = true := decide_eq_true ⟨hk, hlt⟩
    rw [hd] at hkey
    refine WT_region ?_
    refine WL_v rfl (ov_field rfl fo_impl_shareKey_2) ?_
    refine WL_v rfl (ov_load rfl one_int (hH8.cb 0 rfl 2)) ?_
    refine WL_v rfl (ov_field rfl fo_impl_shareKey_1) ?_
    refine WL_v rfl (ov_load rfl one_int (hH8.cb 0 rfl 1)) ?_
    refine WL_v rfl (ov_field rfl fo_impl_shareKey_1) ?_
    refine WL_store hH8 rfl rfl (i := 0) (off := 1) rfl rfl (by simp) rfl sz_int ?_; rintro w9 hH9
    refine WL_v rfl (ov_field rfl fo_impl_shareKey_2) ?_
    refine WL_store hH9 rfl rfl (i := 0) (off := 2) rfl rfl (by simp) rfl sz_int ?_; rintro w10 hH10
    refine WL_nil ?_
    refine WT_seq ?_
    refine WT_region ?_
    refine WL_v rfl (ov_loadN [.int .i64 k, .int .i64 B, .int .i64 A, .int .i64 (r.length : Int), .int .i64 p0, .int .i64 p1, .int .i64 p2, .int .i64 p3, .int .i64 p4, .int .i64 p5] rfl agg_impl_shareKey rfl ((fun j v hj => by rw [show Addr.add ⟨g5, 0, none⟩ j = ⟨g5, j, none⟩ by simp [add_of]]; exact (hH10.cb 0 rfl j).trans (by simpa using hj)))) ?_
    refine WL_storeN hH10 rfl rfl (i := 1) rfl rfl rfl (ones_cons rfl (ones_cons rfl (ones_cons rfl (ones_cons rfl (ones_cons rfl (ones_cons rfl (ones_cons rfl (ones_cons rfl (ones_cons rfl (ones_cons rfl ones_nil)))))))))) sz_impl_shareKey ?_; rintro wz hHz
    refine WL_nil ?_
    have hl : (loadVar 141 ⟨g4, 0, none⟩).run Try.prog wz = .ok (.agg [.int .i64 k, .int .i64 B, .int .i64 A, .int .i64 (r.length : Int), .int .i64 p0, .int .i64 p1, .int .i64 p2, .int .i64 p3, .int .i64 p4, .int .i64 p5].toArray) wz :=
      run_loadVarN agg_impl_shareKey rfl fun j v hj => by rw [show Addr.add ⟨g4, 0, none⟩ j = ⟨g4, j, none⟩ by simp [add_of]]; exact (hHz.cb 1 rfl j).trans (by simpa using hj)
    exact WT_retC Try.func112 Try.results112 rfl hl ⟨by rw [hkey]; rfl, hHz.drop.drop.drop⟩
  first | with_reducible replace hlt := of_decide_eq_false hlt | with_reducible replace hlt := bn_F hlt | with_reducible replace hlt := bb_F hlt | skip
  have hd : decide ((k = 1 ∨ k = 2) ∧ B < A) = false := decide_eq_false fun hh => hlt hh.2
  rw [hd] at hkey
  refine WT_skip ?_
  refine WT_seq ?_
  refine WT_region ?_
  refine WL_v rfl (ov_loadN [.int .i64 k, .int .i64 A, .int .i64 B, .int .i64 (r.length : Int), .int .i64 p0, .int .i64 p1, .int .i64 p2, .int .i64 p3, .int .i64 p4, .int .i64 p5] rfl agg_impl_shareKey rfl ((fun j v hj => by rw [show Addr.add ⟨g5, 0, none⟩ j = ⟨g5, j, none⟩ by simp [add_of]]; exact (hH8.cb 0 rfl j).trans (by simpa using hj)))) ?_
  refine WL_storeN hH8 rfl rfl (i := 1) rfl rfl rfl (ones_cons rfl (ones_cons rfl (ones_cons rfl (ones_cons rfl (ones_cons rfl (ones_cons rfl (ones_cons rfl (ones_cons rfl (ones_cons rfl (ones_cons rfl ones_nil)))))))))) sz_impl_shareKey ?_; rintro wz hHz
  refine WL_nil ?_
  have hl : (loadVar 141 ⟨g4, 0, none⟩).run Try.prog wz = .ok (.agg [.int .i64 k, .int .i64 A, .int .i64 B, .int .i64 (r.length : Int), .int .i64 p0, .int .i64 p1, .int .i64 p2, .int .i64 p3, .int .i64 p4, .int .i64 p5].toArray) wz :=
    run_loadVarN agg_impl_shareKey rfl fun j v hj => by rw [show Addr.add ⟨g4, 0, none⟩ j = ⟨g4, j, none⟩ by simp [add_of]]; exact (hHz.cb 1 rfl j).trans (by simpa using hj)
  exact WT_retC Try.func112 Try.results112 rfl hl ⟨by rw [hkey]; rfl, hHz.drop.drop.drop⟩
end
end Go.Proofs.Ytafljegjdanldaa

/- Walks: the first ones that do the same. -/
namespace Go.Proofs.Ytafljegjdanldaa
open Go.RowKit

section
variable {h : GH} {Ls : List Heaplet} {w : World}

theorem ten_of {l : List Int} (h : l.length = 10) : ∃ a0 a1 a2 a3 a4 a5 a6 a7 a8 a9, l = [a0, a1, a2, a3, a4, a5, a6, a7, a8, a9] := by
  match l, h with
  | [a0, a1, a2, a3, a4, a5, a6, a7, a8, a9], _ => exact ⟨a0, a1, a2, a3, a4, a5, a6, a7, a8, a9, rfl⟩
/-- What the map holds. -/
def mapL (L : List (List Int × Int)) : List (Value × Value) := L.map fun q => (.agg (q.1.map (Value.int .i64)).toArray, .int .i64 q.2)
theorem agg_inj {a b : List Int} (h : Value.agg (a.map (Value.int .i64)).toArray = .agg (b.map (Value.int .i64)).toArray) : a = b := by
  injection h with h1
  have h2 := congrArg Array.toList h1
  exact (List.map_inj_right (f := Value.int .i64) (fun x y hxy => by injection hxy)).1 h2
theorem und_map : Try.prog.underlying 138 = some (.map 141 3) := by kernel_rfl
theorem zero_int0 (W : World) : (zeroValue 3).run Try.prog W = .ok (.int .i64 0) W := by kernel_rfl
/-- A key's numbers are small. -/
theorem keyL_rg {p : List Nd} (hv : planOk p = true) {k : Nat} (hk : k < p.length) {fs : List Int} {L : List (List Int × Int)} (h : Shr p k fs L) : ∀ n ∈ keyL p[k] fs, -9223372036854775808 ≤ n ∧ n ≤ 9223372036854775807 := by
  have hN := PlanOk.node hv hk
  have hfr := hN.frm
  have hlen := PlanOk.len hv
  have hfs : ∀ f ∈ p[k].frm, 0 ≤ fs.getD f.toNat 0 ∧ fs.getD f.toNat 0 ≤ 10 := fun f hf => by
    have h1 := hfr f hf
    obtain ⟨j, h2, h3, _⟩ := h.first (i := f.toNat) (by omega)
    omega
  have hA : -1 ≤ keyA p[k] fs ∧ keyA p[k] fs ≤ 10 := by
    unfold keyA
    cases hx : p[k].frm with
    | nil => simp
    | cons f r => have := hfs f (by rw [hx]; simp); simp only; omega
  have hB : -1 ≤ keyB p[k] fs ∧ keyB p[k] fs ≤ 10 := by
    unfold keyB
    cases hx : p[k].frm with
    | nil => simp
    | cons f r =>
      cases r with
      | nil => simp
      | cons g r => have := hfs g (by rw [hx]; simp); simp only; omega
  have hkk : 0 ≤ p[k].kind ∧ p[k].kind ≤ 5 := by simpa [kindOk] using hN.kind
  have hrl := rowOk_six hN.row
  have hrv : ∀ x ∈ p[k].row, 0 ≤ x ∧ x ≤ 1008 := by
    have := hN.row
    unfold rowOk at this
    rw [Bool.and_eq_true, List.all_eq_true] at this
    exact fun x hx => of_decide_eq_true (this.1 x hx)
  intro n hn
  unfold keyL at hn
  simp only [List.mem_cons] at hn
  rcases hn with rfl | rfl | rfl | rfl | hn
  · omega
  · split <;> omega
  · split <;> omega
  · omega
  · rcases List.mem_append.1 (List.mem_of_mem_take hn) with hn | hn
    · have := hrv n hn; omega
    · have := List.eq_of_mem_replicate hn; omega

set_option maxHeartbeats 1000000 in
theorem shareFirst_ok (hH : H w h Ls) {pv : Value} {p : List Nd} (hP : Plan h pv p) (hv : planOk p = true) : Rets Try.prog 93 #[pv] w fun v w' => ∃ X fs L, IRow X 3 v fs ∧ Shr p p.length fs L ∧ H w' h (X :: Ls) := by
  have hlen := PlanOk.len hv
  refine rets_enter Try.func93 rfl Try.ntmps93 (by simp) ?_
  refine WT_seq ?_
  refine WT_region ?_
  refine WL_v rfl (ov_assign rfl) ?_
  refine WL_nil ?_
  refine WT_seq ?_
  refine WT_seq ?_
  refine WT_region ?_
  refine WL_v rfl (ov_move rfl) ?_
  refine WL_call rfl rfl cf_impl_PlanValid (planValid_ok hH hP) ?_; rintro _ w1 ⟨rfl, hH1⟩
  refine WL_v rfl (ov_F (ov_not rfl) (by first | exact decide_eq_false hv | exact nb_F hv | exact mb_F hv | exact hv | (simp only [decide_eq_false_iff_not]; omega) | simpa using hv)) ?_
  refine WL_nil ?_
  refine WT_condF rfl ?_
  refine WT_skip ?_
  refine WT_seq ?_
  refine WT_region ?_
  refine WL_makeMap shG rfl hH1 ?_; rintro M0 mv w2 hM0 hH2
  refine WL_v rfl (ov_assign rfl) ?_
  refine WL_nil ?_
  refine WT_seq ?_
  refine WT_region ?_
  refine WL_v rfl (ov_move rfl) ?_
  refine WL_v rfl (ov_len rfl hP.sl st_sl_impl_Node) ?_
  refine WL_make (sz := 1) (n := 0) (c := p.length) rfl hH2 rfl rfl st_sl_int (by omega) (by omega) (by omega) (by omega) ?_; rintro X0 fv0 w3 hX0 hH3
  refine WL_v rfl (ov_assign rfl) ?_
  refine WL_nil ?_
  refine WT_seq ?_
  refine WT_seq ?_
  refine WT_region ?_
  refine WL_v rfl (ov_move rfl) ?_
  refine WL_v rfl (ov_len rfl hP.sl st_sl_impl_Node) ?_
  refine WL_v rfl (ov_move rfl) ?_
  refine WL_nil ?_
  refine WT_block ?_
  refine WT_while (fun s : Nat × Value => [(0, pv), (3, mv), (4, s.2), (17, pv), (18, .int .i64 (p.length : Int)), (19, .int .i64 (s.1 : Int))]) (fun s w => s.1 ≤ p.length ∧ ∃ X M fs L, IRow X 3 s.2 fs ∧ MRow M shG mv (mapL L) ∧ Shr p s.1 fs L ∧ H w h (X :: M :: Ls)) (fun s => p.length - s.1) (0, fv0) (by repeat (first | exact trivial | refine ⟨rfl, ?_⟩)) ⟨by omega, X0, M0, [], [], by simpa [IRow] using hX0, hM0, Shr.nil p, hH3⟩ ?_
  clear hH hH1 hH2 hH3 hX0 hM0
  rintro ⟨k, fv⟩ w4 ⟨hk, X, M, fs, L, hX, hM, hS, hH⟩ again
  simp only at hk hX hS
  refine WT_seq ?_
  refine WT_region ?_
  refine WL_v rfl (ov_lss rfl rfl) ?_
  refine WL_nil ?_
  refine WT_seq ?_
  refine WT_cond rfl (fun hc => ?_) (fun hc => ?_)
  · skip
    first | with_reducible replace hc := of_decide_eq_true hc | with_reducible replace hc := bn_T hc | with_reducible replace hc := bb_T hc | skip
    have hkp : k < p.length := by simp only at hc; omega
    obtain ⟨ffv, rv, hf, hr, hcell⟩ := hP.node hkp
    have hN := PlanOk.node hv hkp
    have hfl := hS.len
    have hfb : ∀ x ∈ p[k].frm, 0 ≤ x ∧ x < (fs.length : Int) := fun x hx => by rw [hfl]; exact hN.frm x hx
    obtain ⟨a0, a1, a2, a3, a4, a5, a6, a7, a8, a9, hkey⟩ := ten_of (keyL_len p[k] fs)
    have hG : shG (.agg #[.int .i64 a0, .int .i64 a1, .int .i64 a2, .int .i64 a3, .int .i64 a4, .int .i64 a5, .int .i64 a6, .int .i64 a7, .int .i64 a8, .int .i64 a9]) := by
      have := sh_key (keyL_len p[k] fs) (keyL_rg hv hkp hS)
      rw [hkey] at this
      exact this
    have hko : ∀ {w Ls'} (hH : H w h Ls') {sv : Value}, RdL h Ls' sv fs → Rets Try.prog 112 #[.agg [.int .i64 p[k].kind, ffv, rv].toArray, sv] w fun v w' => v = .agg #[.int .i64 a0, .int .i64 a1, .int .i64 a2, .int .i64 a3, .int .i64 a4, .int .i64 a5, .int .i64 a6, .int .i64 a7, .int .i64 a8, .int .i64 a9] ∧ H w' h Ls' := fun hH _ hSv =>
      (shareKeyOf_ok hH (hf.rdl _) (hr.rdl _) hSv (rowOk_six hN.row) hfb).mono fun _ _ hh => ⟨by rw [hh.1, show keyL ⟨p[k].kind, p[k].frm, p[k].row⟩ fs = keyL p[k] fs from rfl, hkey]; rfl, hh.2⟩
    refine WT_skip ?_
    refine WT_seq ?_
    refine WT_block ?_
    refine WT_seq ?_
    refine WT_region ?_
    refine WL_v rfl (ov_move rfl) ?_
    refine WL_v rfl (ov_index rfl rfl st_sl_impl_Node hP.sl hkp) ?_
    refine WL_v rfl (ov_loadN [.int .i64 p[k].kind, ffv, rv] rfl agg_impl_Node rfl ((hcell _ _ hH))) ?_
    refine WL_alloc _ rfl hH zero_impl_Node rfl ?_; rintro g w5 hH5
    refine WL_v rfl (ov_assign rfl) ?_
    refine WL_storeN hH5 rfl rfl (i := 0) rfl rfl rfl (ones_cons rfl (ones_cons hf.sl.one (ones_cons hr.sl.one ones_nil))) sz_impl_Node ?_; rintro w6 hH6
    refine WL_nil ?_
    refine WT_seq ?_
    refine WT_region ?_
    refine WL_v rfl (ov_loadN [.int .i64 p[k].kind, ffv, rv] rfl agg_impl_Node rfl ((fun j v hj => by rw [show Addr.add ⟨g, 0, none⟩ j = ⟨g, j, none⟩ by simp [add_of]]; exact (hH6.cb 0 rfl j).trans (by simpa using hj)))) ?_
    refine WL_v rfl (ov_move rfl) ?_
    refine WL_call rfl rfl cf_impl_shareKeyOf (hko hH6 (hX.rdl (i := 1) rfl)) ?_; rintro _ w7 ⟨rfl, hH7⟩
    refine WL_alloc _ rfl hH7 zero_key rfl ?_; rintro g2 w8 hH8
    refine WL_storeN hH8 rfl rfl (i := 0) rfl rfl rfl (ones_cons rfl (ones_cons rfl (ones_cons rfl (ones_cons rfl (ones_cons rfl (ones_cons rfl (ones_cons rfl (ones_cons rfl (ones_cons rfl (ones_cons rfl ones_nil)))))))))) sz_impl_shareKey ?_; rintro w9 hH9
    refine WL_nil ?_
    refine WT_seq ?_
    refine WT_region ?_
    refine WL_v rfl (ov_move rfl) ?_
    refine WL_v rfl (ov_loadN [.int .i64 a0, .int .i64 a1, .int .i64 a2, .int .i64 a3, .int .i64 a4, .int .i64 a5, .int .i64 a6, .int .i64 a7, .int .i64 a8, .int .i64 a9] rfl agg_impl_shareKey rfl ((fun j v hj => by rw [show Addr.add ⟨g2, 0, none⟩ j = ⟨g2, j, none⟩ by simp [add_of]]; exact (hH9.cb 0 rfl j).trans (by simpa using hj)))) ?_
    rcases Classical.em (∀ q ∈ mapL L, q.1 ≠ .agg #[.int .i64 a0, .int .i64 a1, .int .i64 a2, .int .i64 a3, .int .i64 a4, .int .i64 a5, .int .i64 a6, .int .i64 a7, .int .i64 a8, .int .i64 a9]) with hno | hyes
    · skip
      refine WL_lookup (i := 3) rfl hH9 rfl rfl und_map zero_int0 shK rfl hM hG (fun _ => ?_) (fun j u hj => absurd rfl (hno _ (List.mem_of_getElem? hj)))
      refine WL_v rfl (ov_move rfl) ?_
      refine WL_v rfl (ov_extract rfl rfl) ?_
      refine WL_v rfl (ov_extract rfl rfl) ?_
      refine WL_v rfl (ov_assign rfl) ?_
      refine WL_v rfl (ov_assign rfl) ?_
      refine WL_nil ?_
      refine WT_seq ?_
      refine WT_seq ?_
      refine WT_region ?_
      refine WL_v rfl (ov_move rfl) ?_
      refine WL_v rfl (ov_not rfl) ?_
      refine WL_nil ?_
      refine WT_cond rfl (fun hx => ?_) (fun hx => ?_)
      · skip
        first | with_reducible replace hx := of_decide_eq_true hx | with_reducible replace hx := bn_T hx | with_reducible replace hx := bb_T hx | skip
        refine WT_seq ?_
        refine WT_region ?_
        refine WL_v rfl (ov_move rfl) ?_
        refine WL_v rfl (ov_assign rfl) ?_
        refine WL_nil ?_
        refine WT_region ?_
        refine WL_v rfl (ov_move rfl) ?_
        refine WL_v rfl (ov_loadN [.int .i64 a0, .int .i64 a1, .int .i64 a2, .int .i64 a3, .int .i64 a4, .int .i64 a5, .int .i64 a6, .int .i64 a7, .int .i64 a8, .int .i64 a9] rfl agg_impl_shareKey rfl ((fun j v hj => by rw [show Addr.add ⟨g2, 0, none⟩ j = ⟨g2, j, none⟩ by simp [add_of]]; exact (hH9.cb 0 rfl j).trans (by simpa using hj)))) ?_
        refine WL_v rfl (ov_move rfl) ?_
        refine WL_mapNew (i := 3) hH9 rfl rfl rfl und_map shK rfl hM hG hno ?_; rintro M2 w10 hM2 hH10
        refine WL_nil ?_
        refine WT_region ?_
        refine WL_v rfl (ov_move rfl) ?_
        refine WL_v rfl (ov_move rfl) ?_
        refine WL_bsI rfl hH10 rfl (run_bs_int _) ?_; rintro Z zv w11 hZ hH11
        refine WL_appI (i := 3) (j := 0) rfl hH11 rfl rfl st_sl_int rfl hX rfl hZ (by simp; omega) (by simp; omega) ?_; rintro X2 fv2 w12 hX2 hH12
        refine WL_v rfl (ov_assign rfl) ?_
        refine WL_nil ?_
        refine WT_inBlock ?_
        refine WT_region ?_
        refine WL_v rfl (ov_add rfl rfl (by omega)) ?_
        refine WL_v rfl (ov_move rfl) ?_
        refine WL_nil ?_
        have hne : ∀ q ∈ L, q.1 ≠ keyL (p.getD k default) fs := fun q hq he => hno _ (List.mem_map.2 ⟨q, hq, rfl⟩) (by rw [he, getD_of hkp, hkey]; rfl)
        have hS2 := hS.new hv hkp hne
        rw [getD_of hkp, hkey] at hS2
        refine again (k + 1, fv2) _ _ (by simp only; omega) (by repeat (first | exact trivial | refine ⟨rfl, ?_⟩)) ⟨by simp only; omega, X2, M2, _, _, hX2, by simpa [mapL] using hM2, hS2, hH12.drop.drop.drop⟩
      first | with_reducible replace hx := of_decide_eq_false hx | with_reducible replace hx := bn_F hx | with_reducible replace hx := bb_F hx | skip
      simp at hx
    have hfind : ∀ (j : Nat) (u : Value), (mapL L)[j]? = some (.agg #[.int .i64 a0, .int .i64 a1, .int .i64 a2, .int .i64 a3, .int .i64 a4, .int .i64 a5, .int .i64 a6, .int .i64 a7, .int .i64 a8, .int .i64 a9], u) → ∃ i : Int, u = .int .i64 i ∧ L[j]? = some (keyL (p.getD k default) fs, i) := fun j u hj => by
      unfold mapL at hj
      rw [List.getElem?_map] at hj
      cases hq : L[j]? with
      | none => rw [hq] at hj; cases hj
      | some q =>
        rw [hq] at hj
        simp only [Option.map_some, Option.some.injEq, Prod.mk.injEq] at hj
        obtain ⟨h1, h2⟩ := hj
        refine ⟨q.2, h2.symm, ?_⟩
        have h3 : q.1 = keyL p[k] fs := agg_inj (by rw [hkey]; exact h1)
        rw [getD_of hkp, ← h3]
    refine WL_lookup (i := 3) rfl hH9 rfl rfl und_map zero_int0 shK rfl hM hG (fun hno => absurd hno hyes) (fun j u hj => ?_); obtain ⟨i, rfl, hjL⟩ := hfind j u hj
    refine WL_v rfl (ov_move rfl) ?_
    refine WL_v rfl (ov_extract rfl rfl) ?_
    refine WL_v rfl (ov_extract rfl rfl) ?_
    refine WL_v rfl (ov_assign rfl) ?_
    refine WL_v rfl (ov_assign rfl) ?_
    refine WL_nil ?_
    refine WT_seq ?_
    refine WT_seq ?_
    refine WT_region ?_
    refine WL_v rfl (ov_move rfl) ?_
    refine WL_v rfl (ov_not rfl) ?_
    refine WL_nil ?_
    refine WT_cond rfl (fun hx => ?_) (fun hx => ?_)
    · skip
      first | with_reducible replace hx := of_decide_eq_true hx | with_reducible replace hx := bn_T hx | with_reducible replace hx := bb_T hx | skip
      simp at hx
    first | with_reducible replace hx := of_decide_eq_false hx | with_reducible replace hx := bn_F hx | with_reducible replace hx := bb_F hx | skip
    refine WT_skip ?_
    refine WT_region ?_
    refine WL_v rfl (ov_move rfl) ?_
    refine WL_v rfl (ov_move rfl) ?_
    refine WL_bsI rfl hH9 rfl (run_bs_int _) ?_; rintro Z zv w11 hZ hH11
    refine WL_appI (i := 3) (j := 0) rfl hH11 rfl rfl st_sl_int rfl hX rfl hZ (by simp; omega) (by simp; omega) ?_; rintro X2 fv2 w12 hX2 hH12
    refine WL_v rfl (ov_assign rfl) ?_
    refine WL_nil ?_
    refine WT_inBlock ?_
    refine WT_region ?_
    refine WL_v rfl (ov_add rfl rfl (by omega)) ?_
    refine WL_v rfl (ov_move rfl) ?_
    refine WL_nil ?_
    have hS2 := hS.old hv hkp hjL
    refine again (k + 1, fv2) _ _ (by simp only; omega) (by repeat (first | exact trivial | refine ⟨rfl, ?_⟩)) ⟨by simp only; omega, X2, M, _, L, hX2, hM, hS2, hH12.drop.drop.drop⟩
  first | with_reducible replace hc := of_decide_eq_false hc | with_reducible replace hc := bn_F hc | with_reducible replace hc := bb_F hc | skip
  have hkl : k = p.length := by simp only at hc; omega
  subst hkl
  refine WT_exit rfl ?_
  refine WT_seq ?_
  refine WT_region ?_
  refine WL_v rfl (ov_move rfl) ?_
  refine WL_v rfl (ov_assign rfl) ?_
  refine WL_nil ?_
  exact WT_ret1 Try.func93 Try.results93 rfl ⟨X, fs, L, hX, hS, hH.swap.drop⟩
end
end Go.Proofs.Ytafljegjdanldaa

/- Walks: a plan without nodes that do the same. -/
namespace Go.Proofs.Ytafljegjdanldaa
open Go.RowKit

section
variable {h : GH} {Ls : List Heaplet} {w : World}

/-- The numbers of the first nodes. -/
def shNums (fs : List Int) (k : Nat) : List Int := (List.range k).map fun i => ((shNum fs i : Nat) : Int)
theorem shNums_len (fs : List Int) (k : Nat) : (shNums fs k).length = k := by simp [shNums]
theorem shNums_succ (fs : List Int) (k : Nat) : shNums fs (k + 1) = shNums fs k ++ [((shNum fs k : Nat) : Int)] := by simp [shNums, List.range_succ]
theorem shNums_get {fs : List Int} {k i : Nat} (h : i < (shNums fs k).length) : (shNums fs k)[i] = ((shNum fs i : Nat) : Int) := by simp [shNums]

set_option maxHeartbeats 1000000 in
theorem planShare_yes (hH : H w h Ls) {pv : Value} {p : List Nd} (hP : Plan h pv p) (hv : planOk p = true) : Rets Try.prog 64 #[pv] w fun v w' => ∃ fs L ov nv O Is, v = .tuple #[ov, nv, .bool true] ∧ Shr p p.length fs L ∧ OPlan O Is ov (shTo p fs p.length) ∧ H w' h (O :: (Is ++ Ls)) := by
  have hlen := PlanOk.len hv
  refine rets_enter Try.func64 rfl Try.ntmps64 (by simp) ?_
  refine WT_seq ?_
  refine WT_region ?_
  refine WL_v rfl (ov_assign rfl) ?_
  refine WL_v rfl (ov_assign rfl) ?_
  refine WL_v rfl (ov_assign rfl) ?_
  refine WL_nil ?_
  refine WT_seq ?_
  refine WT_seq ?_
  refine WT_region ?_
  refine WL_v rfl (ov_move rfl) ?_
  refine WL_call rfl rfl cf_impl_PlanValid (planValid_ok hH hP) ?_; rintro _ w1 ⟨rfl, hH1⟩
  refine WL_v rfl (ov_F (ov_not rfl) (by first | exact decide_eq_false hv | exact nb_F hv | exact mb_F hv | exact hv | (simp only [decide_eq_false_iff_not]; omega) | simpa using hv)) ?_
  refine WL_nil ?_
  refine WT_condF rfl ?_
  refine WT_skip ?_
  refine WT_seq ?_
  refine WT_region ?_
  refine WL_v rfl (ov_assign rfl) ?_
  refine WL_nil ?_
  refine WT_seq ?_
  refine WT_region ?_
  refine WL_v rfl (ov_move rfl) ?_
  refine WL_v rfl (ov_len rfl hP.sl st_sl_impl_Node) ?_
  refine WL_make (sz := 1) (n := 0) (c := p.length) rfl hH1 rfl rfl st_sl_int (by omega) (by omega) (by omega) (by omega) ?_; rintro Y0 nv0 w2 hY0 hH2
  refine WL_v rfl (ov_assign rfl) ?_
  refine WL_nil ?_
  refine WT_seq ?_
  refine WT_seq ?_
  refine WT_region ?_
  refine WL_v rfl (ov_move rfl) ?_
  refine WL_call rfl rfl cf_impl_ShareFirst (shareFirst_ok hH2 hP hv) ?_; rintro fv w3 ⟨X, fs, L, hX, hS, hH3⟩
  refine WL_v rfl (ov_len rfl hX.sl st_sl_int) ?_
  refine WL_v rfl (ov_move rfl) ?_
  refine WL_nil ?_
  refine WT_block ?_
  have hfl := hS.len
  refine WT_while (fun s : Nat × Value × Value => [(0, pv), (5, s.2.1), (6, s.2.2), (19, fv), (20, .int .i64 (fs.length : Int)), (21, .int .i64 (s.1 : Int))]) (fun s w => s.1 ≤ p.length ∧ ∃ Y O Is, IRow Y 3 s.2.2 (shNums fs s.1) ∧ OPlan O Is s.2.1 (shTo p fs s.1) ∧ H w h (X :: Y :: O :: (Is ++ Ls))) (fun s => p.length - s.1) (0, .slice none 0 0, nv0) (by repeat (first | exact trivial | refine ⟨rfl, ?_⟩)) ⟨by omega, Y0, [], [], by simpa [IRow, shNums] using hY0, ⟨rfl, [], Row.nil _ _, by simp [shTo]⟩, (hH3.nilIn.pull 2 rfl).pull 2 rfl⟩ ?_
  clear hH hH1 hH2 hH3 hY0
  rintro ⟨k, ov, nv⟩ w4 ⟨hk, Y, O, Is, hY, hO, hH⟩ again
  simp only at hk hY hO
  refine WT_seq ?_
  refine WT_region ?_
  refine WL_v rfl (ov_lss rfl rfl) ?_
  refine WL_nil ?_
  refine WT_seq ?_
  refine WT_cond rfl (fun hc => ?_) (fun hc => ?_)
  · skip
    first | with_reducible replace hc := of_decide_eq_true hc | with_reducible replace hc := bn_T hc | with_reducible replace hc := bb_T hc | skip
    have hkp : k < p.length := by simp only at hc; omega
    have hkf : k < fs.length := by omega
    obtain ⟨j, hj, hjk, hjb, hnk, _⟩ := hS.num hkp
    have hgk : fs[k] = (j : Int) := by rw [← getD_elem hkf]; exact hj
    have hnl := shNums_len fs k
    have hol := shTo_len p fs k
    have hnk2 := numK_le (shB fs) k
    refine WT_skip ?_
    refine WT_seq ?_
    refine WT_block ?_
    refine WT_seq ?_
    refine WT_region ?_
    refine WL_v rfl (ov_move rfl) ?_
    refine WL_v rfl (ov_index rfl rfl st_sl_int hX.sl hkf) ?_
    refine WL_v rfl (ov_load rfl one_int (hX.cell hH (i := 0) rfl hkf)) ?_; rw [hgk]
    refine WL_v rfl (ov_assign rfl) ?_
    refine WL_v rfl (ov_assign rfl) ?_
    refine WL_nil ?_
    refine WT_seq ?_
    refine WT_seq ?_
    refine WT_region ?_
    refine WL_v rfl (ov_move rfl) ?_
    refine WL_v rfl (ov_move rfl) ?_
    refine WL_v rfl (ov_neq rfl rfl) ?_
    refine WL_nil ?_
    refine WT_cond rfl (fun hne => ?_) (fun hne => ?_)
    · skip
      first | with_reducible replace hne := of_decide_eq_true hne | with_reducible replace hne := bn_T hne | with_reducible replace hne := bb_T hne | skip
      have hjlt : j < k := by simp only at hne; omega
      have hjy : j < (shNums fs k).length := by omega
      have hgj : (shNums fs k)[j] = ((shNum fs k : Nat) : Int) := by
        rw [shNums_get]
        have h1 : fs.getD j 0 = (j : Int) := of_decide_eq_true hjb
        have h2 : shNum fs j = numK (shB fs) j := by unfold shNum; rw [h1, Int.toNat_natCast]
        rw [h2, hnk]
      have hkb : ¬ shB fs k = true := fun hh => by
        have : fs.getD k 0 = (k : Int) := of_decide_eq_true hh
        omega
      refine WT_seq ?_
      refine WT_region ?_
      refine WL_v rfl (ov_move rfl) ?_
      refine WL_v rfl (ov_move rfl) ?_
      refine WL_v rfl (ov_move rfl) ?_
      refine WL_v rfl (ov_index rfl rfl st_sl_int hY.sl hjy) ?_
      refine WL_v rfl (ov_load rfl one_int (hY.cell hH (i := 1) rfl hjy)) ?_; rw [hgj]
      refine WL_bsI rfl hH rfl (run_bs_int _) ?_; rintro Z zv w5 hZ hH5
      refine WL_appI (i := 2) (j := 0) rfl hH5 rfl rfl st_sl_int rfl hY rfl hZ (by simp; omega) (by simp; omega) ?_; rintro Y2 nv2 w6 hY2 hH6
      refine WL_v rfl (ov_assign rfl) ?_
      refine WL_nil ?_
      refine WT_exit rfl ?_
      refine WT_region ?_
      refine WL_v rfl (ov_add rfl rfl (by omega)) ?_
      refine WL_v rfl (ov_move rfl) ?_
      refine WL_nil ?_
      rw [← shNums_succ] at hY2
      refine again (k + 1, ov, nv2) _ _ (by simp only; omega) (by repeat (first | exact trivial | refine ⟨rfl, ?_⟩)) ⟨by simp only; omega, Y2, O, Is, hY2, by rw [shTo_succ, if_neg hkb, List.append_nil]; exact hO, hH6.drop⟩
    first | with_reducible replace hne := of_decide_eq_false hne | with_reducible replace hne := bn_F hne | with_reducible replace hne := bb_F hne | skip
    have hjk2 : j = k := by simp only at hne; omega
    subst hjk2
    clear hjk
    obtain ⟨a, rfl⟩ : ∃ a, a = j := ⟨_, rfl⟩
    have hap := hkp
    obtain ⟨gv, rv, hf, hrr, hcell⟩ := hP.node hap
    have hN := PlanOk.node hv hap
    have hf2 := NodeOk.len2 hN
    have hfr := frm_pos hv hap
    rw [getD_of hap] at hfr
    refine WT_skip ?_
    refine WT_seq ?_
    refine WT_region ?_
    refine WL_v rfl (ov_move rfl) ?_
    refine WL_v rfl (ov_move rfl) ?_
    refine WL_v rfl (ov_index rfl rfl st_sl_impl_Node hP.sl hap) ?_
    refine WL_v rfl (ov_loadN [.int .i64 p[a].kind, gv, rv] rfl agg_impl_Node rfl ((hcell _ _ hH))) ?_
    refine WL_call rfl rfl cf_impl_copyNode (copyNode_ok hH (hf.rdl _) (hrr.rdl _) (by omega) (by have := rowOk_six hN.row; omega)) ?_; rintro _ w7 ⟨x, F, R, ⟨fv2, rv2, rfl, hF, hR⟩, hx, hH7⟩
    subst hx
    simp only at hF hR
    refine WL_alloc _ rfl hH7 zero_impl_Node rfl ?_; rintro g w8 hH8
    refine WL_storeN hH8 rfl rfl (i := 0) rfl rfl rfl (ones_cons rfl (ones_cons hF.sl.one (ones_cons hR.sl.one ones_nil))) sz_impl_Node ?_; rintro w9 hH9
    refine WL_nil ?_
    refine WT_seq ?_
    refine WT_seq ?_
    refine WT_region ?_
    refine WL_v rfl (ov_field rfl fo_impl_Node_1) ?_
    refine WL_v rfl (ov_load rfl one_sl_int (hH9.cb 0 rfl 1)) ?_
    refine WL_v rfl (ov_len rfl hF.sl st_sl_int) ?_
    refine WL_v rfl (ov_move rfl) ?_
    refine WL_nil ?_
    refine WT_block ?_
    refine WT_while (fun j : Nat => [(0, pv), (5, ov), (6, nv), (9, ptr g), (19, fv), (20, .int .i64 (fs.length : Int)), (21, .int .i64 (a : Int)), (42, fv2), (43, .int .i64 (p[a].frm.length : Int)), (44, .int .i64 (j : Int))]) (fun j w => j ≤ p[a].frm.length ∧ ∃ F, IRow F 3 fv2 ((shNode fs p[a]).frm.take j ++ p[a].frm.drop j) ∧ H w h ([(g, .cells #[.int .i64 p[a].kind, fv2, rv2] 32 (0, 0))] :: F :: R :: X :: Y :: O :: (Is ++ Ls))) (fun j => p[a].frm.length - j) 0 (by repeat (first | exact trivial | refine ⟨rfl, ?_⟩)) ⟨by omega, F, by simpa using hF, hH9⟩ ?_
    clear hH hH7 hH8 hH9 hF F
    rintro j w10 ⟨hj, F, hF, hH⟩ again2
    have hcfl : (shNode fs p[a]).frm.length = p[a].frm.length := by simp [shNode]
    refine WT_seq ?_
    refine WT_region ?_
    refine WL_v rfl (ov_lss rfl rfl) ?_
    refine WL_nil ?_
    refine WT_seq ?_
    refine WT_cond rfl (fun hc2 => ?_) (fun hc2 => ?_)
    · skip
      first | with_reducible replace hc2 := of_decide_eq_true hc2 | with_reducible replace hc2 := bn_T hc2 | with_reducible replace hc2 := bb_T hc2 | skip
      have hjf : j < p[a].frm.length := by omega
      have htl : ((shNode fs p[a]).frm.take j).length = j := by rw [List.length_take]; omega
      have hdr : p[a].frm.drop j = p[a].frm[j] :: p[a].frm.drop (j + 1) := List.drop_eq_getElem_cons hjf
      rw [hdr] at hF
      have hjl : j < ((shNode fs p[a]).frm.take j ++ p[a].frm[j] :: p[a].frm.drop (j + 1)).length := by rw [List.length_append, htl, List.length_cons]; omega
      have hgj := getElem_mid ((shNode fs p[a]).frm.take j) (p[a].frm.drop (j + 1)) p[a].frm[j] j htl hjl
      have hfm := List.getElem_mem hjf
      have hfp := hfr _ hfm
      obtain ⟨u, hu⟩ := Int.eq_ofNat_of_zero_le hfp.1
      replace hgj := hgj.trans hu
      have hua : u < a := by omega
      have huy : u < (shNums fs a).length := by omega
      have hgu : (shNums fs a)[u] = ((shNum fs u : Nat) : Int) := shNums_get huy
      refine WT_skip ?_
      refine WT_seq ?_
      refine WT_block ?_
      refine WT_seq ?_
      refine WT_region ?_
      refine WL_v rfl (ov_move rfl) ?_
      refine WL_v rfl (ov_index rfl rfl st_sl_int hF.sl hjl) ?_
      refine WL_v rfl (ov_load rfl one_int (hF.cell hH (i := 1) rfl hjl)) ?_; rw [hgj]
      refine WL_v rfl (ov_assign rfl) ?_
      refine WL_v rfl (ov_assign rfl) ?_
      refine WL_nil ?_
      refine WT_mixL [(0, 0), (1, 0), (2, 0), (3, 0), (4, 0), (5, 0), (6, 0), (7, 0), (8, 3)] mixed (by kernel_rfl) hH ?_
      clear hH
      intro w11 hH hC
      refine WM_v rfl rfl hC (fun _ _ => ov_field rfl fo_impl_Node_1) ?_
      refine WM_v rfl rfl hC (fun _ ⟨_, hH⟩ => ov_load rfl one_sl_int (hH.cb 1 rfl 1)) ?_
      refine WM_v rfl rfl hC (fun _ _ => ov_move rfl) ?_
      refine WM_v rfl rfl hC (fun _ _ => ov_move rfl) ?_
      refine WM_v rfl rfl hC (fun _ _ => ov_move rfl) ?_
      refine WM_v rfl rfl hC (fun _ _ => ov_index rfl rfl st_sl_int hY.sl huy) ?_
      refine WM_v rfl rfl hC (fun _ ⟨_, hH⟩ => ov_load rfl one_int (hY.cell hH (i := 5) rfl huy)) ?_; rw [hgu]
      refine WM_v rfl rfl hC (fun _ _ => ov_index rfl rfl st_sl_int hF.sl hjl) ?_
      refine WM_e rfl ?_
      refine WL_storeI hH rfl rfl (i := 1) rfl hF hjl sz_int ?_; rintro F2 w12 hF2 hH12
      refine WL_mix (fun h => absurd rfl h) ?_
      refine WM_nil ?_
      refine WT_inBlock ?_
      refine WT_region ?_
      refine WL_v rfl (ov_add rfl rfl (by omega)) ?_
      refine WL_v rfl (ov_move rfl) ?_
      refine WL_nil ?_
      rw [set_mid _ _ _ _ _ htl] at hF2
      refine again2 (j + 1) _ _ (by omega) (by repeat (first | exact trivial | refine ⟨rfl, ?_⟩)) ⟨by omega, F2, ?_, hH12⟩
      have : (shNode fs p[a]).frm.take (j + 1) = (shNode fs p[a]).frm.take j ++ [((shNum fs u : Nat) : Int)] := by
        rw [List.take_succ_eq_append_getElem (by omega)]
        congr 2
        simp [shNode, hu]
      rw [this, List.append_assoc]
      exact hF2
    first | with_reducible replace hc2 := of_decide_eq_false hc2 | with_reducible replace hc2 := bn_F hc2 | with_reducible replace hc2 := bb_F hc2 | skip
    obtain rfl : j = p[a].frm.length := by omega
    have hF9 : IRow F 3 fv2 (shNode fs p[a]).frm := by
      rw [List.drop_length, List.append_nil, List.take_of_length_le (by omega)] at hF
      exact hF
    obtain ⟨hil, xs, hR3, hat⟩ := hO
    refine WT_exit rfl ?_
    refine WT_seq ?_
    refine WT_region ?_
    refine WL_v rfl (ov_move rfl) ?_
    refine WL_v rfl (ov_move rfl) ?_
    refine WL_v rfl (ov_len rfl hR3.sl st_sl_impl_Node) ?_
    refine WL_bsI rfl hH rfl (run_bs_int _) ?_; rintro Z zv w11 hZ hH11
    refine WL_appI (i := 5) (j := 0) rfl hH11 rfl rfl st_sl_int rfl hY rfl hZ (by simp; omega) (by simp; omega) ?_; rintro Y2 nv2 w12 hY2 hH12
    refine WL_v rfl (ov_assign rfl) ?_
    refine WL_nil ?_
    refine WT_region ?_
    refine WL_v rfl (ov_move rfl) ?_
    refine WL_v rfl (ov_loadN [.int .i64 p[a].kind, fv2, rv2] rfl agg_impl_Node rfl ((fun j v hj => by rw [show Addr.add ⟨g, 0, none⟩ j = ⟨g, j, none⟩ by simp [add_of]]; exact (hH12.cb 1 rfl j).trans (by simpa using hj)))) ?_
    refine WL_buildSlice (sz := 3) [.int .i64 p[a].kind, fv2, rv2] rfl hH12 rfl (run_bs_node hF9.sl hR.sl) rfl (by omega) ?_; rintro Z3 zv3 w13 hZ3 hH13
    refine WL_append1 (i := 7) (j := 0) (n := (shTo p fs a).length) (m := 1) rfl hH13 rfl rfl st_sl_impl_Node (by omega) rfl hR3 rfl hZ3 (ones_cons rfl (ones_cons hF9.sl.one (ones_cons hR.sl.one ones_nil))) (by omega) (by omega) ?_; rintro O2 ov2 w14 hO2 hH14
    refine WL_v rfl (ov_assign rfl) ?_
    refine WL_nil ?_
    refine WT_inBlock ?_
    refine WT_region ?_
    refine WL_v rfl (ov_add rfl rfl (by omega)) ?_
    refine WL_v rfl (ov_move rfl) ?_
    refine WL_nil ?_
    rw [hol, ← hnk, ← shNums_succ] at hY2
    refine again (a + 1, ov2, nv2) _ _ (by simp only; omega) (by repeat (first | exact trivial | refine ⟨rfl, ?_⟩)) ⟨by simp only; omega, Y2, O2, Is ++ [F, R], hY2, ?_, H.lateFR (T := X :: Y2 :: O2 :: Is) hH14.drop.drop.drop⟩
    show OPlan O2 (Is ++ [F, R]) ov2 (shTo p fs (a + 1))
    rw [shTo_succ, if_pos hjb, getD_of hap]
    exact OPlan.snoc (x := shNode fs p[a]) hil hR3.len hat hO2 hF9 hR
  first | with_reducible replace hc := of_decide_eq_false hc | with_reducible replace hc := bn_F hc | with_reducible replace hc := bb_F hc | skip
  have hkl : k = p.length := by simp only at hc; omega
  subst hkl
  refine WT_exit rfl ?_
  refine WT_seq ?_
  refine WT_region ?_
  refine WL_v rfl (ov_move rfl) ?_
  refine WL_v rfl (ov_move rfl) ?_
  refine WL_v rfl (ov_assign rfl) ?_
  refine WL_v rfl (ov_assign rfl) ?_
  refine WL_v rfl (ov_assign rfl) ?_
  refine WL_nil ?_
  exact WT_ret3 Try.func64 Try.results64 rfl rfl rfl ⟨fs, L, ov, nv, O, Is, rfl, hS, hO, hH.drop.drop⟩
end
end Go.Proofs.Ytafljegjdanldaa

/- Plain laws: a cut saves no more than the whole plan. -/
namespace Go.Proofs.Ytafljegjdanldaa

theorem keyAB_of {x y : Nd} {fs gs : List Int} (h : keyL x fs = keyL y gs) : x.kind = y.kind ∧ ((keyA x fs = keyA y gs ∧ keyB x fs = keyB y gs) ∨ ((x.kind = 1 ∨ x.kind = 2) ∧ keyA x fs = keyB y gs ∧ keyB x fs = keyA y gs)) ∧ (x.row.length : Int) = y.row.length ∧ padRow x.row = padRow y.row := by
  unfold keyL at h
  have h1 := List.cons.inj h
  have h2 := List.cons.inj h1.2
  have h3 := List.cons.inj h2.2
  have h4 := List.cons.inj h3.2
  refine ⟨h1.1, ?_, h4.1, h4.2⟩
  have h6 := h3.1
  have h7 := h2.1
  have hs : ∀ {z : Nd} {ks : List Int}, swapB z ks = true → z.kind = 1 ∨ z.kind = 2 := fun hh => (of_decide_eq_true hh).1
  by_cases s1 : swapB x fs = true <;> by_cases s2 : swapB y gs = true
  · rw [if_pos s1, if_pos s2] at h6 h7; exact .inl ⟨h6, h7⟩
  · rw [if_pos s1, if_neg s2] at h6 h7; exact .inr ⟨hs s1, h6, h7⟩
  · rw [if_neg s1, if_pos s2] at h6 h7; exact .inr ⟨by have := hs s2; rw [h1.1]; exact this, h7, h6⟩
  · rw [if_neg s1, if_neg s2] at h6 h7; exact .inl ⟨h7, h6⟩
theorem keyL_of {x y : Nd} {fs gs : List Int} (hk : x.kind = y.kind) (hr : x.row.length = y.row.length) (hp : padRow x.row = padRow y.row) (h : (keyA x fs = keyA y gs ∧ keyB x fs = keyB y gs) ∨ ((x.kind = 1 ∨ x.kind = 2) ∧ keyA x fs = keyB y gs ∧ keyB x fs = keyA y gs)) : keyL x fs = keyL y gs := by
  unfold keyL swapB
  rw [hr, hp, ← hk]
  rcases h with ⟨h1, h2⟩ | ⟨h0, h1, h2⟩
  · rw [h1, h2]
  · rw [h1, h2]
    simp only [h0, true_and, decide_eq_true_eq]
    rcases (show keyB y gs < keyA y gs ∨ keyA y gs < keyB y gs ∨ keyA y gs = keyB y gs by omega) with h3 | h3 | h3
    · rw [if_neg (by omega), if_neg (by omega), if_pos h3, if_pos h3]
    · rw [if_pos h3, if_pos h3, if_neg (by omega), if_neg (by omega)]
    · rw [h3]
theorem fst_inj {α β : Type} {L : List (α × β)} (h : (L.map (·.1)).Nodup) {a : α} {b c : β} (hb : (a, b) ∈ L) (hc : (a, c) ∈ L) : b = c := by
  obtain ⟨i, hi, h1⟩ := List.mem_iff_getElem.1 hb
  obtain ⟨j, hj, h2⟩ := List.mem_iff_getElem.1 hc
  have h3 : (L.map (·.1))[i]'(by simpa using hi) = (L.map (·.1))[j]'(by simpa using hj) := by simp [h1, h2]
  have h4 := (List.getElem_inj h).1 h3
  subst h4
  rw [h1] at h2
  exact (Prod.mk.inj h2).2
theorem Shr.same {p : List Nd} {n : Nat} {fs : List Int} {L : List (List Int × Int)} (h : Shr p n fs L) {i j : Nat} (hi : i < n) (hj : j < n) (hk : keyL (p.getD i default) fs = keyL (p.getD j default) fs) : fs.getD i 0 = fs.getD j 0 :=
  fst_inj h.nd (h.fst i hi) (hk ▸ h.fst j hj)
theorem numK_inj {K : Nat → Bool} {i j : Nat} (hi : K i = true) (hj : K j = true) (h : numK K i = numK K j) : i = j := by
  rcases Nat.lt_trichotomy i j with h1 | h1 | h1
  · have := numK_lt h1 hi; omega
  · exact h1
  · have := numK_lt h1 hj; omega
theorem cut_same {p : List Nd} (hv : planOk p = true) {K : Nat → Bool} (hK : ClK p K) {fs gs : List Int} {L L2 : List (List Int × Int)} (hS : Shr p p.length fs L) (hQ : Shr (cutTo p K p.length) (cutTo p K p.length).length gs L2) :
    ∀ i, i < p.length → K i = true → ∃ i0, i0 ≤ i ∧ K i0 = true ∧ gs.getD (numK K i) 0 = ((numK K i0 : Nat) : Int) ∧ fs.getD i 0 = fs.getD i0 0 := by
  intro i
  induction i using Nat.strongRecOn with
  | _ i ih =>
    intro hi hk
    have hj : numK K i < (cutTo p K p.length).length := by rw [cutTo_len]; exact numK_lt hi hk
    obtain ⟨j0, h1, h2, h3, h4⟩ := hQ.first hj
    obtain ⟨i0, hi0, hk0, he0⟩ := cut_at (K := K) (j := j0) (n := p.length) (by rw [cutTo_len] at hj; omega)
    have hle : i0 ≤ i := by
      rcases Nat.lt_or_ge i i0 with h5 | h5
      · have := numK_lt h5 hk; omega
      · exact h5
    refine ⟨i0, hle, hk0, by rw [h1, he0], hS.same hi hi0 ?_⟩
    rw [cutTo_getD hk hi, ← he0, cutTo_getD hk0 hi0] at h4
    obtain ⟨g1, g2, g3, g4⟩ := keyAB_of h4
    have hfr := frm_pos hv hi
    have hfr0 := frm_pos hv hi0
    have hcl := hK i hi hk
    have hcl0 := hK i0 hi0 hk0
    have hmap : ∀ f f' : Int, f ∈ (p.getD i default).frm → f' ∈ (p.getD i0 default).frm → gs.getD (numK K f.toNat) 0 = gs.getD (numK K f'.toNat) 0 → fs.getD f.toNat 0 = fs.getD f'.toNat 0 := fun f f' hf hf' hg => by
      have e1 := hfr f hf
      have e2 := hfr0 f' hf'
      obtain ⟨u, _, hu1, hu2, hu3⟩ := ih f.toNat (by omega) (by omega) (hcl f hf)
      obtain ⟨v, _, hv1, hv2, hv3⟩ := ih f'.toNat (by omega) (by omega) (hcl0 f' hf')
      have : u = v := numK_inj hu1 hv1 (by omega)
      rw [hu3, hv3, this]
    have hnn : ∀ f : Int, f ∈ (p.getD i default).frm → 0 ≤ gs.getD (numK K f.toNat) 0 := fun f hf => by
      have e1 := hfr f hf
      obtain ⟨u, _, _, hu2, _⟩ := ih f.toNat (by omega) (by omega) (hcl f hf)
      omega
    have hl : (p.getD i default).frm.length = (p.getD i0 default).frm.length := by
      have e1 := (PlanOk.node hv hi).len
      have e2 := (PlanOk.node hv hi0).len
      rw [← getD_of hi] at e1
      rw [← getD_of hi0] at e2
      have e3 : (p.getD i default).kind = (p.getD i0 default).kind := g1
      rw [e3] at e1; omega
    have hl2 := (PlanOk.node hv hi).len2
    rw [← getD_of hi] at hl2
    refine keyL_of g1 (by have := g3; simp only [cutNode] at this; omega) g4 ?_
    generalize hx : p.getD i default = x at *
    generalize hy : p.getD i0 default = y at *
    obtain ⟨xk, xf, xr⟩ := x
    obtain ⟨yk, yf, yr⟩ := y
    simp only at hmap hnn hl hl2
    match xf, yf, hl with
    | [], [], _ => exact .inl ⟨rfl, rfl⟩
    | [f], [g], _ =>
      have a1 : keyA (cutNode K ⟨xk, [f], xr⟩) gs = gs.getD (numK K f.toNat) 0 := rfl
      have a2 : keyA (cutNode K ⟨yk, [g], yr⟩) gs = gs.getD (numK K g.toNat) 0 := rfl
      have b1 : keyB (cutNode K ⟨xk, [f], xr⟩) gs = -1 := rfl
      have b2 : keyB (cutNode K ⟨yk, [g], yr⟩) gs = -1 := rfl
      have hn := hnn f (by simp)
      rcases g2 with ⟨g5, g6⟩ | ⟨_, g5, g6⟩
      · exact .inl ⟨hmap f g (by simp) (by simp) (by rw [← a1, ← a2]; exact g5), rfl⟩
      · omega
    | [f, f2], [g, g2'], _ =>
      have a1 : keyA (cutNode K ⟨xk, [f, f2], xr⟩) gs = gs.getD (numK K f.toNat) 0 := rfl
      have a2 : keyA (cutNode K ⟨yk, [g, g2'], yr⟩) gs = gs.getD (numK K g.toNat) 0 := rfl
      have b1 : keyB (cutNode K ⟨xk, [f, f2], xr⟩) gs = gs.getD (numK K f2.toNat) 0 := rfl
      have b2 : keyB (cutNode K ⟨yk, [g, g2'], yr⟩) gs = gs.getD (numK K g2'.toNat) 0 := rfl
      rcases g2 with ⟨g5, g6⟩ | ⟨g7, g5, g6⟩
      · exact .inl ⟨hmap f g (by simp) (by simp) (by rw [← a1, ← a2]; exact g5), hmap f2 g2' (by simp) (by simp) (by rw [← b1, ← b2]; exact g6)⟩
      · exact .inr ⟨g7, hmap f g2' (by simp) (by simp) (by rw [← a1, ← b2]; exact g5), hmap f2 g (by simp) (by simp) (by rw [← b1, ← a2]; exact g6)⟩
    | _ :: _ :: _ :: _, _, _ => simp at hl2
/-- A cut saves no more. -/
theorem cut_saves {p : List Nd} (hv : planOk p = true) {K : Nat → Bool} (hK : ClK p K) {fs gs : List Int} {L L2 : List (List Int × Int)} (hS : Shr p p.length fs L) (hQ : Shr (cutTo p K p.length) (cutTo p K p.length).length gs L2) :
    ∀ n, n ≤ p.length → numK K n + numK (shB fs) n ≤ n + numK (shB gs) (numK K n)
  | 0, _ => by simp [numK_zero]
  | n + 1, h => by
    have ih := cut_saves hv hK hS hQ n (by omega)
    rw [numK_succ, numK_succ (shB fs)]
    by_cases hk : K n = true
    · rw [if_pos hk, numK_succ (shB gs)]
      by_cases hg : shB gs (numK K n) = true
      · rw [if_pos hg]; split <;> omega
      · rw [if_neg hg]
        obtain ⟨i0, h1, h2, h3, h4⟩ := cut_same hv hK hS hQ n (by omega) hk
        have hf : ¬ shB fs n = true := fun hf => by
          have h5 : fs.getD n 0 = (n : Int) := of_decide_eq_true hf
          have h6 := hS.le i0 (by omega)
          have h7 : i0 = n := by omega
          subst h7
          exact hg (decide_eq_true h3)
        rw [if_neg hf]
        omega
    · rw [if_neg hk]
      show numK K n + 0 + _ ≤ n + 1 + numK (shB gs) (numK K n + 0)
      rw [Nat.add_zero]
      split <;> omega
end Go.Proofs.Ytafljegjdanldaa
