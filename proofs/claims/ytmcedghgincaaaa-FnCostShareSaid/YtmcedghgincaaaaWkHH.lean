/- Walks: sets of nodes as bits; what some nodes need. -/
import Derived.Test.YtmcedghgincaaaaWkP
import Derived.Test.YtmcedghgincaaaaWkAA
import Derived.Test.YtmcedghgincaaaaSlJ
import Derived.Test.YtmcedghgincaaaaPlQ
namespace Go.Proofs.Ytmcedghgincaaaa
open Go.RowKit

section
variable {h : GH} {Ls : List Heaplet} {w : World}

theorem has_ok (hH : H w h Ls) {m a : Nat} (hm : m < 65536) (ha : a ≤ 16) : Rets Try.prog 123 #[.int .u16 (m : Int), .int .i64 (a : Int)] w fun v w' => v = .bool (m.testBit a) ∧ H w' h Ls := by
  have hd : m / 2 ^ a < 65536 := Nat.lt_of_le_of_lt (Nat.div_le_self _ _) hm
  refine rets_enter Try.func123 rfl Try.ntmps123 (by simp) ?_
  refine WT_seq ?_
  refine WT_region ?_
  refine WL_v rfl (ov_assign rfl) ?_
  refine WL_nil ?_
  refine WT_seq ?_
  refine WT_region ?_
  refine WL_v rfl (ov_move rfl) ?_
  refine WL_v rfl (ov_move rfl) ?_
  refine WL_v rfl (ov_shr16 rfl rfl ha) ?_
  refine WL_v rfl (ov_and16 (n := 1) rfl rfl hd (by decide)) ?_
  refine WL_v rfl (ov_neq rfl rfl) ?_
  refine WL_v rfl (ov_assign rfl) ?_
  refine WL_nil ?_
  exact WT_ret1 Try.func123 Try.results123 rfl ⟨congrArg Value.bool (bit_has m a), hH⟩

theorem with_ok (hH : H w h Ls) {m a : Nat} (hm : m < 1024) (ha : a < 10) : Rets Try.prog 124 #[.int .u16 (m : Int), .int .i64 (a : Int)] w fun v w' => v = .int .u16 ((m ||| 2 ^ a : Nat) : Int) ∧ H w' h Ls := by
  refine rets_enter Try.func124 rfl Try.ntmps124 (by simp) ?_
  refine WT_seq ?_
  refine WT_region ?_
  refine WL_v rfl (ov_assign rfl) ?_
  refine WL_nil ?_
  refine WT_seq ?_
  refine WT_region ?_
  refine WL_v rfl (ov_move rfl) ?_
  refine WL_v rfl (ov_move rfl) ?_
  refine WL_v rfl (ov_shl16 (m := 1) rfl rfl (by omega) (pow_lt16 ha)) ?_
  refine WL_v rfl (ov_or16 rfl rfl (by omega) (pow_lt16 ha)) ?_
  refine WL_v rfl (ov_assign rfl) ?_
  refine WL_nil ?_
  exact WT_ret1 Try.func124 Try.results124 rfl ⟨by rw [Nat.one_mul], hH⟩

theorem setList_ok (hH : H w h Ls) {m : Nat} (hm : m < 1024) : Rets Try.prog 114 #[.int .u16 (m : Int)] w fun v w' => ∃ X, IRow X 3 v (toI ((List.range 10).filter m.testBit)) ∧ H w' h (X :: Ls) := by
  refine rets_enter Try.func114 rfl Try.ntmps114 (by simp) ?_
  refine WT_seq ?_
  refine WT_region ?_
  refine WL_v rfl (ov_assign rfl) ?_
  refine WL_nil ?_
  refine WT_seq ?_
  refine WT_region ?_
  refine WL_v rfl (ov_assign rfl) ?_
  refine WL_nil ?_
  refine WT_seq ?_
  refine WT_seq ?_
  refine WT_region ?_
  refine WL_v rfl (ov_move rfl) ?_
  refine WL_nil ?_
  refine WT_block ?_
  refine WT_while (fun s : Nat × Value => [(0, .int .u16 (m : Int)), (3, s.2), (5, .int .i64 (s.1 : Int))]) (fun s w => s.1 ≤ 10 ∧ ∃ X, IRow X 3 s.2 (toI ((List.range s.1).filter m.testBit)) ∧ H w h (X :: Ls)) (fun s => 10 - s.1) (0, .slice none 0 0) (by repeat (first | exact trivial | refine ⟨rfl, ?_⟩)) ⟨by omega, [], IRow.nil _, hH.nilIn⟩ ?_
  clear hH
  rintro ⟨k, sv⟩ w1 ⟨hk, X, hX, hH⟩ again
  simp only at hk hX
  have hfl := List.length_filter_le m.testBit (List.range k)
  rw [List.length_range] at hfl
  refine WT_seq ?_
  refine WT_region ?_
  refine WL_v rfl (ov_lss rfl rfl) ?_
  refine WL_nil ?_
  refine WT_seq ?_
  refine WT_cond rfl (fun hc => ?_) (fun hc => ?_)
  · skip
    first | with_reducible replace hc := of_decide_eq_true hc | with_reducible replace hc := bn_T hc | with_reducible replace hc := bb_T hc | skip
    have hk10 : k < 10 := by simp only at hc; omega
    refine WT_skip ?_
    refine WT_seq ?_
    refine WT_block ?_
    refine WT_seq ?_
    refine WT_region ?_
    refine WL_v rfl (ov_move rfl) ?_
    refine WL_v rfl (ov_assign rfl) ?_
    refine WL_nil ?_
    refine WT_seq ?_
    refine WT_region ?_
    refine WL_v rfl (ov_move rfl) ?_
    refine WL_v rfl (ov_move rfl) ?_
    refine WL_call rfl rfl cf_impl_nodeSet_has (has_ok hH (by omega) (a := k) (by omega)) ?_; rintro _ w2 ⟨rfl, hH2⟩
    refine WL_nil ?_
    refine WT_cond rfl (fun hb => ?_) (fun hb => ?_)
    · skip
      first | with_reducible replace hb := of_decide_eq_true hb | with_reducible replace hb := bn_T hb | with_reducible replace hb := bb_T hb | skip
      refine WT_region ?_
      refine WL_v rfl (ov_move rfl) ?_
      refine WL_v rfl (ov_move rfl) ?_
      refine WL_bsI rfl hH2 rfl (run_bs_int _) ?_; rintro Y yv w3 hY hH3
      refine WL_appI (i := 1) (j := 0) rfl hH3 rfl rfl st_sl_int rfl hX rfl hY (by simp only [toI_len, List.length_cons, List.length_nil]; omega) (by simp only [toI_len, List.length_cons, List.length_nil]; omega) ?_; rintro X2 sv2 w4 hX2 hH4
      refine WL_v rfl (ov_assign rfl) ?_
      refine WL_nil ?_
      refine WT_inBlock ?_
      refine WT_region ?_
      refine WL_v rfl (ov_add rfl rfl (by omega)) ?_
      refine WL_v rfl (ov_move rfl) ?_
      refine WL_nil ?_
      refine again (k + 1, sv2) _ _ (by simp only; omega) (by repeat (first | exact trivial | refine ⟨rfl, ?_⟩)) ⟨by simp only; omega, X2, by rw [List.range_succ, List.filter_append, List.filter_cons, if_pos hb, List.filter_nil, toI_snoc]; exact hX2, hH4.drop⟩
    first | with_reducible replace hb := of_decide_eq_false hb | with_reducible replace hb := bn_F hb | with_reducible replace hb := bb_F hb | skip
    refine WT_skip ?_
    refine WT_inBlock ?_
    refine WT_region ?_
    refine WL_v rfl (ov_add rfl rfl (by omega)) ?_
    refine WL_v rfl (ov_move rfl) ?_
    refine WL_nil ?_
    refine again (k + 1, sv) _ _ (by simp only; omega) (by repeat (first | exact trivial | refine ⟨rfl, ?_⟩)) ⟨by simp only; omega, X, by rw [List.range_succ, List.filter_append, List.filter_cons, if_neg (by rw [hb]; simp), List.filter_nil, List.append_nil]; exact hX, hH2⟩
  first | with_reducible replace hc := of_decide_eq_false hc | with_reducible replace hc := bn_F hc | with_reducible replace hc := bb_F hc | skip
  have hk10 : k = 10 := by simp only at hc; omega
  subst hk10
  refine WT_exit rfl ?_
  refine WT_seq ?_
  refine WT_region ?_
  refine WL_v rfl (ov_move rfl) ?_
  refine WL_v rfl (ov_assign rfl) ?_
  refine WL_nil ?_
  exact WT_ret1 Try.func114 Try.results114 rfl ⟨X, hX, hH⟩

theorem allNodes_ok (hH : H w h Ls) {pv lv : Value} {p : List Nd} {L : List Int} (hP : Plan h pv p) (hL : RdL h Ls lv L) : Rets Try.prog 112 #[pv, lv] w fun v w' => v = .bool (L.all fun x => decide (0 ≤ x ∧ x < (p.length : Int))) ∧ H w' h Ls := by
  have hll := hL.sl.lim
  refine rets_enter Try.func112 rfl Try.ntmps112 (by simp) ?_
  refine WT_seq ?_
  refine WT_region ?_
  refine WL_v rfl (ov_assign rfl) ?_
  refine WL_nil ?_
  refine WT_seq ?_
  refine WT_seq ?_
  refine WT_region ?_
  refine WL_v rfl (ov_move rfl) ?_
  refine WL_v rfl (ov_len rfl hL.sl st_sl_int) ?_
  refine WL_v rfl (ov_move rfl) ?_
  refine WL_nil ?_
  refine WT_block ?_
  refine WT_while (fun k : Nat => [(0, pv), (7, lv), (8, .int .i64 (L.length : Int)), (9, .int .i64 (k : Int))]) (fun k w => k ≤ L.length ∧ (∀ j (_ : j < k) (h1 : j < L.length), 0 ≤ L[j] ∧ L[j] < (p.length : Int)) ∧ H w h Ls) (fun k => L.length - k) 0 (by repeat (first | exact trivial | refine ⟨rfl, ?_⟩)) ⟨by omega, by omega, hH⟩ ?_
  clear hH
  rintro k w1 ⟨hk, hall, hH⟩ again
  refine WT_seq ?_
  refine WT_region ?_
  refine WL_v rfl (ov_lss rfl rfl) ?_
  refine WL_nil ?_
  refine WT_seq ?_
  refine WT_cond rfl (fun hc => ?_) (fun hc => ?_)
  · skip
    first | with_reducible replace hc := of_decide_eq_true hc | with_reducible replace hc := bn_T hc | with_reducible replace hc := bb_T hc | skip
    have hkl : k < L.length := by omega
    refine WT_skip ?_
    refine WT_seq ?_
    refine WT_block ?_
    refine WT_seq ?_
    refine WT_region ?_
    refine WL_v rfl (ov_index rfl rfl st_sl_int hL.sl hkl) ?_
    refine WL_v rfl (ov_load rfl one_int (hL.cell hH hkl)) ?_
    refine WL_v rfl (ov_assign rfl) ?_
    refine WL_nil ?_
    refine WT_seq ?_
    refine WT_region ?_
    refine WL_v rfl (ov_move rfl) ?_
    refine WL_v rfl (ov_move rfl) ?_
    refine WL_call rfl rfl cf_impl_isNode (isNode_ok hH hP.sl _) ?_; rintro _ w2 ⟨rfl, hH2⟩
    refine WL_v rfl (ov_not rfl) ?_
    refine WL_nil ?_
    refine WT_cond rfl (fun hn => ?_) (fun hn => ?_)
    · skip
      first | with_reducible replace hn := of_decide_eq_true hn | with_reducible replace hn := bn_T hn | with_reducible replace hn := bb_T hn | skip
      have hn' : ¬ (0 ≤ L[k] ∧ L[k] < (p.length : Int)) := by simpa using hn
      refine WT_seq ?_
      refine WT_region ?_
      refine WL_v rfl (ov_assign rfl) ?_
      refine WL_nil ?_
      exact WT_ret1 Try.func112 Try.results112 rfl ⟨congrArg Value.bool (List.all_eq_false.2 ⟨_, List.getElem_mem hkl, by simpa using hn'⟩).symm, hH2⟩
    first | with_reducible replace hn := of_decide_eq_false hn | with_reducible replace hn := bn_F hn | with_reducible replace hn := bb_F hn | skip
    have hn' : 0 ≤ L[k] ∧ L[k] < (p.length : Int) := by simpa using hn
    refine WT_skip ?_
    refine WT_inBlock ?_
    refine WT_region ?_
    refine WL_v rfl (ov_add rfl rfl (by omega)) ?_
    refine WL_v rfl (ov_move rfl) ?_
    refine WL_nil ?_
    refine again (k + 1) _ _ (by omega) (by repeat (first | exact trivial | refine ⟨rfl, ?_⟩)) ⟨by omega, fun j hj h1 => ?_, hH2⟩
    rcases Nat.lt_or_ge j k with h3 | h3
    · exact hall j h3 h1
    · obtain rfl : j = k := by omega
      exact hn'
  first | with_reducible replace hc := of_decide_eq_false hc | with_reducible replace hc := bn_F hc | with_reducible replace hc := bb_F hc | skip
  obtain rfl : k = L.length := by omega
  refine WT_exit rfl ?_
  refine WT_seq ?_
  refine WT_region ?_
  refine WL_v rfl (ov_assign rfl) ?_
  refine WL_nil ?_
  exact WT_ret1 Try.func112 Try.results112 rfl ⟨congrArg Value.bool (List.all_eq_true.2 fun x hx => by obtain ⟨j, hj, rfl⟩ := List.mem_iff_getElem.1 hx; exact decide_eq_true (hall j hj hj)).symm, hH⟩

/-- What is kept, and what is waiting. -/
structure Kept (p : List Nd) (L : List Int) (k : Nat) (m : Nat) (S : List Int) : Prop where
  lt : m < 1024
  kp : ∀ a, m.testBit a = true → a < p.length ∧ Keep p L a
  st : ∀ s ∈ S, (0 ≤ s ∧ s < (p.length : Int)) ∧ Keep p L s.toNat
  cl : ∀ a, m.testBit a = true → ∀ f ∈ (p.getD a default).frm, m.testBit f.toNat = true ∨ f ∈ S
  ls : ∀ j (_ : j < k) (h1 : j < L.length), m.testBit L[j].toNat = true ∨ L[j] ∈ S
theorem keep_self {p : List Nd} {L : List Int} {s : Int} (h : s ∈ L) : Keep p L s.toNat := ⟨s, h, .inl rfl⟩

theorem Kept.push {p : List Nd} {L : List Int} {k m : Nat} (hr : ∀ x ∈ L, 0 ≤ x ∧ x < (p.length : Int)) (h : Kept p L k m []) (hk : k < L.length) : Kept p L (k + 1) m [L[k]] := by
  refine ⟨h.lt, h.kp, fun s hs => ?_, fun a ha f hf => ?_, fun j hj h1 => ?_⟩
  · obtain rfl := List.mem_singleton.1 hs
    exact ⟨hr _ (List.getElem_mem hk), keep_self (List.getElem_mem hk)⟩
  · exact (h.cl a ha f hf).imp id (fun hn => by simp at hn)
  · rcases Nat.lt_or_ge j k with h3 | h3
    · exact (h.ls j h3 h1).imp id (fun hn => by simp at hn)
    · obtain rfl : j = k := by omega
      exact .inr (List.mem_singleton.2 rfl)
theorem Kept.pop {p : List Nd} {L : List Int} {k m : Nat} {S : List Int} {s : Int} (h : Kept p L k m (S ++ [s])) (hb : m.testBit s.toNat = true) : Kept p L k m S := by
  refine ⟨h.lt, h.kp, fun t ht => h.st t (List.mem_append_left _ ht), fun a ha f hf => ?_, fun j hj h1 => ?_⟩
  · rcases h.cl a ha f hf with h2 | h2
    · exact .inl h2
    · rcases List.mem_append.1 h2 with h3 | h3
      · exact .inr h3
      · obtain rfl := List.mem_singleton.1 h3; exact .inl hb
  · rcases h.ls j hj h1 with h2 | h2
    · exact .inl h2
    · rcases List.mem_append.1 h2 with h3 | h3
      · exact .inr h3
      · rw [List.mem_singleton.1 h3]; exact .inl hb
theorem Kept.mark {p : List Nd} (hv : planOk p = true) {L : List Int} {k m : Nat} {S : List Int} {s : Int} (h : Kept p L k m (S ++ [s])) : Kept p L k (m ||| 2 ^ s.toNat) (S ++ (p.getD s.toNat default).frm) := by
  have hlen := PlanOk.len hv
  obtain ⟨⟨h0, h9⟩, hks⟩ := h.st s (by simp)
  have hsn : s.toNat < p.length := by omega
  have hbit : ∀ b, (m ||| 2 ^ s.toNat).testBit b = true ↔ m.testBit b = true ∨ b = s.toNat := fun b => by rw [bit_with]; simp
  refine ⟨bit_lt h.lt (by omega), fun a ha => ?_, fun t ht => ?_, fun a ha f hf => ?_, fun j hj h1 => ?_⟩
  · rcases (hbit a).1 ha with ha | rfl
    · exact h.kp a ha
    · exact ⟨hsn, hks⟩
  · rcases List.mem_append.1 ht with ht | ht
    · exact h.st t (List.mem_append_left _ ht)
    · have := frm_pos hv hsn t ht
      exact ⟨by omega, hks.need hv hsn ht⟩
  · rcases (hbit a).1 ha with ha | rfl
    · rcases h.cl a ha f hf with h2 | h2
      · exact .inl ((hbit _).2 (.inl h2))
      · rcases List.mem_append.1 h2 with h3 | h3
        · exact .inr (List.mem_append_left _ h3)
        · obtain rfl := List.mem_singleton.1 h3; exact .inl ((hbit _).2 (.inr rfl))
    · exact .inr (List.mem_append_right _ hf)
  · rcases h.ls j hj h1 with h2 | h2
    · exact .inl ((hbit _).2 (.inl h2))
    · rcases List.mem_append.1 h2 with h3 | h3
      · exact .inr (List.mem_append_left _ h3)
      · rw [List.mem_singleton.1 h3]; exact .inl ((hbit _).2 (.inr rfl))
theorem Kept.done {p : List Nd} (hv : planOk p = true) {L : List Int} {m : Nat} (hr : ∀ x ∈ L, 0 ≤ x ∧ x < (p.length : Int)) (h : Kept p L L.length m []) : ∀ a, m.testBit a = true ↔ Keep p L a := fun a =>
  ⟨fun ha => (h.kp a ha).2, fun ha => Keep.sub hv hr (fun i _ hk f hf => (h.cl i hk f hf).resolve_right (by simp)) (fun s hs => by
    obtain ⟨j, hj, rfl⟩ := List.mem_iff_getElem.1 hs
    exact (h.ls j hj hj).resolve_right (by simp)) ha⟩
theorem card_mark {m a : Nat} (h : m.testBit a = false) (ha : a < 10) : numK (m ||| 2 ^ a).testBit 10 = numK m.testBit 10 + 1 := by
  have h1 : (m ||| 2 ^ a).testBit = fun b => m.testBit b || decide (b = a) := funext fun b => bit_with m a b
  rw [h1, numK_add h, if_pos ha]

theorem neededBy_ok (hH : H w h Ls) {pv lv : Value} {p : List Nd} {L : List Int} (hP : Plan h pv p) (hv : planOk p = true) (hL : RdL h Ls lv L) (hr : ∀ x ∈ L, 0 ≤ x ∧ x < (p.length : Int)) : Rets Try.prog 113 #[pv, lv] w fun v w' => ∃ m : Nat, v = .int .u16 (m : Int) ∧ m < 1024 ∧ (∀ a, m.testBit a = true → a < p.length) ∧ (∀ a, m.testBit a = true ↔ Keep p L a) ∧ H w' h Ls := by
  have hll := hL.sl.lim
  have hlen := PlanOk.len hv
  have hLX : ∀ {X}, RdL h (X :: Ls) lv L := ⟨hL.sl, fun hH _ hj => hL.cell hH.drop hj⟩
  refine rets_enter Try.func113 rfl Try.ntmps113 (by simp) ?_
  refine WT_seq ?_
  refine WT_region ?_
  refine WL_v rfl (ov_assign rfl) ?_
  refine WL_nil ?_
  refine WT_seq ?_
  refine WT_region ?_
  refine WL_v rfl (ov_assign rfl) ?_
  refine WL_nil ?_
  refine WT_seq ?_
  refine WT_region ?_
  refine WL_v rfl (ov_assign rfl) ?_
  refine WL_nil ?_
  refine WT_seq ?_
  refine WT_seq ?_
  refine WT_region ?_
  refine WL_v rfl (ov_move rfl) ?_
  refine WL_v rfl (ov_len rfl hL.sl st_sl_int) ?_
  refine WL_v rfl (ov_move rfl) ?_
  refine WL_nil ?_
  refine WT_block ?_
  refine WT_while (fun s : Nat × Nat × Value => [(0, pv), (5, .int .u16 (s.2.1 : Int)), (6, s.2.2), (10, lv), (11, .int .i64 (L.length : Int)), (12, .int .i64 (s.1 : Int))]) (fun s w => s.1 ≤ L.length ∧ Kept p L s.1 s.2.1 [] ∧ ∃ X, IRow X 3 s.2.2 [] ∧ H w h (X :: Ls)) (fun s => L.length - s.1) (0, 0, .slice none 0 0) (by repeat (first | exact trivial | refine ⟨rfl, ?_⟩)) ⟨by simp only; omega, ⟨by simp only; omega, by simp, by simp, by simp, fun j hj => absurd hj (Nat.not_lt_zero _)⟩, [], IRow.nil _, hH.nilIn⟩ ?_
  clear hH
  rintro ⟨k, m0, sv⟩ w1 ⟨hk, hK, X, hX, hH⟩ again
  simp only at hk hX hK
  refine WT_seq ?_
  refine WT_region ?_
  refine WL_v rfl (ov_lss rfl rfl) ?_
  refine WL_nil ?_
  refine WT_seq ?_
  refine WT_cond rfl (fun hc => ?_) (fun hc => ?_)
  · skip
    first | with_reducible replace hc := of_decide_eq_true hc | with_reducible replace hc := bn_T hc | with_reducible replace hc := bb_T hc | skip
    have hkl : k < L.length := by simp only at hc; omega
    refine WT_skip ?_
    refine WT_seq ?_
    refine WT_block ?_
    refine WT_seq ?_
    refine WT_region ?_
    refine WL_v rfl (ov_index rfl rfl st_sl_int hL.sl hkl) ?_
    refine WL_v rfl (ov_load rfl one_int (hL.cell hH.drop hkl)) ?_
    refine WL_v rfl (ov_assign rfl) ?_
    refine WL_nil ?_
    refine WT_seq ?_
    refine WT_region ?_
    refine WL_v rfl (ov_move rfl) ?_
    refine WL_v rfl (ov_move rfl) ?_
    refine WL_bsI rfl hH rfl (run_bs_int _) ?_; rintro Y yv w2 hY hH2
    refine WL_appI (i := 1) (j := 0) rfl hH2 rfl rfl st_sl_int rfl hX rfl hY (by simp) (by simp) ?_; rintro X2 sv2 w3 hX2 hH3
    refine WL_v rfl (ov_assign rfl) ?_
    refine WL_nil ?_
    refine WT_block ?_
    refine WT_while (fun s : Nat × Value × List Int => [(0, pv), (5, .int .u16 (s.1 : Int)), (6, s.2.1), (10, lv), (11, .int .i64 (L.length : Int)), (12, .int .i64 (k : Int))]) (fun s w => Kept p L (k + 1) s.1 s.2.2 ∧ 3 * (10 - numK s.1.testBit 10) + s.2.2.length ≤ 31 ∧ ∃ X, IRow X 3 s.2.1 s.2.2 ∧ H w h (X :: Ls)) (fun s => 3 * (10 - numK s.1.testBit 10) + s.2.2.length) (m0, sv2, [L[k]]) (by repeat (first | exact trivial | refine ⟨rfl, ?_⟩)) ⟨hK.push hr hkl, by simp only [List.length_cons, List.length_nil]; omega, X2, hX2, hH3.drop⟩ ?_
    clear hH hH2 hH3 hX hX2 hK hY X
    rintro ⟨m, sw, S⟩ w4 ⟨hK, hms, X, hX, hH⟩ again2
    simp only at hK hms hX
    refine WT_seq ?_
    refine WT_seq ?_
    refine WT_region ?_
    refine WL_v rfl (ov_move rfl) ?_
    refine WL_v rfl (ov_len rfl hX.sl st_sl_int) ?_
    refine WL_v rfl (ov_gtr rfl rfl) ?_
    refine WL_nil ?_
    refine WT_cond rfl (fun hc2 => ?_) (fun hc2 => ?_)
    · skip
      first | with_reducible replace hc2 := of_decide_eq_true hc2 | with_reducible replace hc2 := bn_T hc2 | with_reducible replace hc2 := bb_T hc2 | skip
      have hS0 : 0 < S.length := by omega
      obtain ⟨S1, s, rfl⟩ : ∃ S1 s, S = S1 ++ [s] := ⟨S.dropLast, S.getLast (List.length_pos_iff.1 hS0), (List.dropLast_concat_getLast _).symm⟩
      have hl1 : (S1 ++ [s]).length = S1.length + 1 := by simp
      have hs := (hK.st s (by simp)).1
      obtain ⟨a, rfl⟩ := Int.eq_ofNat_of_zero_le hs.1
      have hap : a < p.length := by omega
      have hlx : S1.length < (S1 ++ [(a : Int)]).length := by omega
      have hge : (S1 ++ [(a : Int)])[S1.length] = (a : Int) := by simp
      have hX1 : IRow X 3 (reslice sw 0 S1.length 1) S1 := by
        have := hX.front (n := S1.length) (by omega)
        simpa using this
      have hnk := numK_le m.testBit 10
      have hlt := hK.lt
      refine WT_skip ?_
      refine WT_block ?_
      refine WT_seq ?_
      refine WT_region ?_
      refine WL_v rfl (ov_move rfl) ?_
      refine WL_v rfl (ov_move rfl) ?_
      refine WL_v rfl (ov_len rfl hX.sl st_sl_int) ?_
      refine WL_v rfl (ov_as (ov_sub rfl rfl (by omega)) (congrArg (Value.int .i64) ((show ((S1 ++ [(a : Int)]).length : Int) - 1 = (S1.length : Int) by omega)))) ?_
      refine WL_v rfl (ov_index rfl rfl st_sl_int hX.sl hlx) ?_
      refine WL_v rfl (ov_load rfl one_int (hX.cell hH (i := 0) rfl hlx)) ?_; rw [hge]
      refine WL_v rfl (ov_assign rfl) ?_
      refine WL_nil ?_
      refine WT_seq ?_
      refine WT_region ?_
      refine WL_v rfl (ov_move rfl) ?_
      refine WL_v rfl (ov_move rfl) ?_
      refine WL_v rfl (ov_len rfl hX.sl st_sl_int) ?_
      refine WL_v rfl (ov_as (ov_sub rfl rfl (by omega)) (congrArg (Value.int .i64) ((show ((S1 ++ [(a : Int)]).length : Int) - 1 = (S1.length : Int) by omega)))) ?_
      refine WL_v rfl (ov_sliceHi rfl rfl st_sl_int hX.sl (by omega)) ?_
      refine WL_v rfl (ov_assign rfl) ?_
      refine WL_nil ?_
      refine WT_seq ?_
      refine WT_seq ?_
      refine WT_region ?_
      refine WL_v rfl (ov_move rfl) ?_
      refine WL_v rfl (ov_move rfl) ?_
      refine WL_call rfl rfl cf_impl_nodeSet_has (has_ok hH (by omega) (a := a) (by omega)) ?_; rintro _ w5 ⟨rfl, hH5⟩
      refine WL_nil ?_
      refine WT_cond rfl (fun hb => ?_) (fun hb => ?_)
      · skip
        first | with_reducible replace hb := of_decide_eq_true hb | with_reducible replace hb := bn_T hb | with_reducible replace hb := bb_T hb | skip
        refine WT_exit rfl ?_
        refine again2 (m, _, S1) _ _ (by simp only; omega) (by repeat (first | exact trivial | refine ⟨rfl, ?_⟩)) ⟨hK.pop hb, by simp only; omega, X, hX1, hH5⟩
      first | with_reducible replace hb := of_decide_eq_false hb | with_reducible replace hb := bn_F hb | with_reducible replace hb := bb_F hb | skip
      obtain ⟨fv, rv, hf, hrr, hcell⟩ := hP.node hap
      have hN := PlanOk.node hv hap
      have hf2 := NodeOk.len2 hN
      have hmk := hK.mark hv
      rw [Int.toNat_natCast, getD_of hap] at hmk
      have hb2 : m.testBit a = false := hb
      have hcm := card_mark hb2 (by omega)
      have hnk2 := numK_le (m ||| 2 ^ a).testBit 10
      have hfl := hf2
      have key1 : 3 * (10 - numK (m ||| 2 ^ a).testBit 10) + (S1 ++ p[a].frm).length < 3 * (10 - numK m.testBit 10) + (S1 ++ [(a : Int)]).length := by
        rw [hcm] at hnk2 ⊢
        rw [List.length_append, hl1]; omega
      have key2 : 3 * (10 - numK (m ||| 2 ^ a).testBit 10) + (S1 ++ p[a].frm).length ≤ 31 := by omega
      refine WT_skip ?_
      refine WT_seq ?_
      refine WT_region ?_
      refine WL_v rfl (ov_move rfl) ?_
      refine WL_v rfl (ov_move rfl) ?_
      refine WL_call rfl rfl cf_impl_nodeSet_with (with_ok hH5 hlt (a := a) (by omega)) ?_; rintro _ w6 ⟨rfl, hH6⟩
      refine WL_v rfl (ov_assign rfl) ?_
      refine WL_nil ?_
      refine WT_region ?_
      refine WL_v rfl (ov_move rfl) ?_
      refine WL_v rfl (ov_move rfl) ?_
      refine WL_v rfl (ov_move rfl) ?_
      refine WL_v rfl (ov_index rfl rfl st_sl_impl_Node hP.sl hap) ?_
      refine WL_v rfl (ov_field rfl fo_impl_Node_1) ?_
      refine WL_v rfl (ov_load rfl one_sl_int (hcell _ _ hH6 1 _ rfl)) ?_
      refine WL_appR (i := 0) rfl hH6 rfl rfl st_sl_int rfl hX1 hf.sl (fun hj => hf.cell hH6 hj) (by omega) (by omega) ?_; rintro X3 sv3 w7 hX3 hH7
      refine WL_v rfl (ov_assign rfl) ?_
      refine WL_nil ?_
      refine WT_inBlock ?_
      refine again2 (m ||| 2 ^ a, sv3, _) _ _ key1 (by repeat (first | exact trivial | refine ⟨rfl, ?_⟩)) ⟨hmk, key2, X3, hX3, hH7⟩
    first | with_reducible replace hc2 := of_decide_eq_false hc2 | with_reducible replace hc2 := bn_F hc2 | with_reducible replace hc2 := bb_F hc2 | skip
    have hS0 : S = [] := List.eq_nil_of_length_eq_zero (by omega)
    subst hS0
    refine WT_exit rfl ?_
    refine WT_inBlock ?_
    refine WT_region ?_
    refine WL_v rfl (ov_add rfl rfl (by omega)) ?_
    refine WL_v rfl (ov_move rfl) ?_
    refine WL_nil ?_
    refine again (k + 1, m, sw) _ _ (by simp only; omega) (by repeat (first | exact trivial | refine ⟨rfl, ?_⟩)) ⟨by simp only; omega, hK, X, hX, hH⟩
  first | with_reducible replace hc := of_decide_eq_false hc | with_reducible replace hc := bn_F hc | with_reducible replace hc := bb_F hc | skip
  have hkl : k = L.length := by simp only at hc; omega
  subst hkl
  refine WT_exit rfl ?_
  refine WT_seq ?_
  refine WT_region ?_
  refine WL_v rfl (ov_move rfl) ?_
  refine WL_v rfl (ov_assign rfl) ?_
  refine WL_nil ?_
  exact WT_ret1 Try.func113 Try.results113 rfl ⟨m0, rfl, hK.lt, fun a ha => (hK.kp a ha).1, hK.done hv hr, hH.drop⟩

/-- Some nodes may be kept. -/
def cutOk (p : List Nd) (L : List Int) : Bool := planOk p && L.all fun x => decide (0 ≤ x ∧ x < (p.length : Int))
theorem cutKeep_no (hH : H w h Ls) {pv lv : Value} {p : List Nd} {L : List Int} (hP : Plan h pv p) (hL : RdL h Ls lv L) (hok : cutOk p L = false) : Rets Try.prog 94 #[pv, lv] w fun v w' => v = .tuple #[.slice none 0 0, .bool false] ∧ H w' h Ls := by
  refine rets_enter Try.func94 rfl Try.ntmps94 (by simp) ?_
  by_cases hv : planOk p = true
  case neg =>
    have hv' : planOk p = false := by simpa using hv
    refine WT_seq ?_
    refine WT_region ?_
    refine WL_v rfl (ov_assign rfl) ?_
    refine WL_v rfl (ov_assign rfl) ?_
    refine WL_nil ?_
    refine WT_seq ?_
    refine WT_seq ?_
    refine WT_region ?_
    refine WL_v rfl (ov_move rfl) ?_
    refine WL_call rfl rfl cf_impl_PlanValid (planValid_ok hH hP) ?_; rintro _ w1 ⟨rfl, hH1⟩
    refine WL_v rfl (ov_T (ov_not rfl) (by first | exact decide_eq_true hv' | exact nb_T hv' | exact mb_T hv' | exact hv' | (simp only [decide_eq_true_eq]; omega) | simpa using hv')) ?_
    refine WL_v rfl (ov_move rfl) ?_
    refine WL_guardOff rfl rfl rfl rfl ?_
    refine WL_guardOff rfl rfl rfl rfl ?_
    refine WL_guardOff rfl rfl rfl rfl ?_
    refine WL_guardOff rfl rfl rfl rfl ?_
    refine WL_v rfl (ov_pickT rfl rfl) ?_
    refine WL_nil ?_
    refine WT_condT rfl ?_
    refine WT_seq ?_
    refine WT_region ?_
    refine WL_v rfl (ov_assign rfl) ?_
    refine WL_v rfl (ov_assign rfl) ?_
    refine WL_nil ?_
    exact WT_ret2 Try.func94 Try.results94 rfl rfl ⟨rfl, hH1⟩
  unfold cutOk at hok
  rw [hv, Bool.true_and] at hok
  refine WT_seq ?_
  refine WT_region ?_
  refine WL_v rfl (ov_assign rfl) ?_
  refine WL_v rfl (ov_assign rfl) ?_
  refine WL_nil ?_
  refine WT_seq ?_
  refine WT_seq ?_
  refine WT_region ?_
  refine WL_v rfl (ov_move rfl) ?_
  refine WL_call rfl rfl cf_impl_PlanValid (planValid_ok hH hP) ?_; rintro _ w1 ⟨rfl, hH1⟩
  refine WL_v rfl (ov_F (ov_not rfl) (by first | exact decide_eq_false hv | exact nb_F hv | exact mb_F hv | exact hv | (simp only [decide_eq_false_iff_not]; omega) | simpa using hv)) ?_
  refine WL_v rfl (ov_move rfl) ?_
  refine WL_guardOn rfl rfl ?_
  refine WL_v rfl (ov_move rfl) ?_
  refine WL_guardOn rfl rfl ?_
  refine WL_v rfl (ov_move rfl) ?_
  refine WL_guardOn rfl rfl ?_
  refine WL_call rfl rfl cf_impl_allNodes (allNodes_ok hH1 hP hL) ?_; rintro _ w2 ⟨rfl, hH2⟩
  refine WL_guardOn rfl rfl ?_
  refine WL_v rfl (ov_not rfl) ?_
  refine WL_v rfl (ov_pickF rfl rfl) ?_
  refine WL_nil ?_
  refine WT_cond rfl (fun hn => ?_) (fun hn => ?_)
  · skip
    first | with_reducible replace hn := of_decide_eq_true hn | with_reducible replace hn := bn_T hn | with_reducible replace hn := bb_T hn | skip
    refine WT_seq ?_
    refine WT_region ?_
    refine WL_v rfl (ov_assign rfl) ?_
    refine WL_v rfl (ov_assign rfl) ?_
    refine WL_nil ?_
    exact WT_ret2 Try.func94 Try.results94 rfl rfl ⟨rfl, hH2⟩
  first | with_reducible replace hn := of_decide_eq_false hn | with_reducible replace hn := bn_F hn | with_reducible replace hn := bb_F hn | skip
  rw [hok] at hn; cases hn

theorem cutKeep_yes (hH : H w h Ls) {pv lv : Value} {p : List Nd} {L : List Int} (hP : Plan h pv p) (hL : RdL h Ls lv L) (hok : cutOk p L = true) : Rets Try.prog 94 #[pv, lv] w fun v w' => ∃ (K : Nat → Bool) (X : Heaplet) (kv : Value), v = .tuple #[kv, .bool true] ∧ (∀ a, K a = true ↔ Keep p L a) ∧ (∀ a, K a = true → a < p.length) ∧ IRow X 3 kv (toI ((List.range p.length).filter K)) ∧ H w' h (X :: Ls) := by
  have hok2 := hok
  unfold cutOk at hok2
  rw [Bool.and_eq_true] at hok2
  obtain ⟨hv, hall⟩ := hok2
  have hr : ∀ x ∈ L, 0 ≤ x ∧ x < (p.length : Int) := fun x hx => of_decide_eq_true (List.all_eq_true.1 hall x hx)
  have hlen := PlanOk.len hv
  refine rets_enter Try.func94 rfl Try.ntmps94 (by simp) ?_
  refine WT_seq ?_
  refine WT_region ?_
  refine WL_v rfl (ov_assign rfl) ?_
  refine WL_v rfl (ov_assign rfl) ?_
  refine WL_nil ?_
  refine WT_seq ?_
  refine WT_seq ?_
  refine WT_region ?_
  refine WL_v rfl (ov_move rfl) ?_
  refine WL_call rfl rfl cf_impl_PlanValid (planValid_ok hH hP) ?_; rintro _ w1 ⟨rfl, hH1⟩
  refine WL_v rfl (ov_F (ov_not rfl) (by first | exact decide_eq_false hv | exact nb_F hv | exact mb_F hv | exact hv | (simp only [decide_eq_false_iff_not]; omega) | simpa using hv)) ?_
  refine WL_v rfl (ov_move rfl) ?_
  refine WL_guardOn rfl rfl ?_
  refine WL_v rfl (ov_move rfl) ?_
  refine WL_guardOn rfl rfl ?_
  refine WL_v rfl (ov_move rfl) ?_
  refine WL_guardOn rfl rfl ?_
  refine WL_call rfl rfl cf_impl_allNodes (allNodes_ok hH1 hP hL) ?_; rintro _ w2 ⟨rfl, hH2⟩
  refine WL_guardOn rfl rfl ?_
  refine WL_v rfl (ov_not rfl) ?_
  refine WL_v rfl (ov_pickF rfl rfl) ?_
  refine WL_nil ?_
  refine WT_cond rfl (fun hn => ?_) (fun hn => ?_)
  · skip
    first | with_reducible replace hn := of_decide_eq_true hn | with_reducible replace hn := bn_T hn | with_reducible replace hn := bb_T hn | skip
    rw [hall] at hn; cases hn
  first | with_reducible replace hn := of_decide_eq_false hn | with_reducible replace hn := bn_F hn | with_reducible replace hn := bb_F hn | skip
  refine WT_skip ?_
  refine WT_seq ?_
  refine WT_region ?_
  refine WL_v rfl (ov_move rfl) ?_
  refine WL_v rfl (ov_move rfl) ?_
  refine WL_call rfl rfl cf_impl_neededBy (neededBy_ok hH2 hP hv hL hr) ?_; rintro _ w3 ⟨m, rfl, hm, hmp, hmk, hH3⟩
  refine WL_call rfl rfl cf_impl_nodeSet_list (setList_ok hH3 hm) ?_; rintro kv w4 ⟨X, hX, hH4⟩
  refine WL_v rfl (ov_assign rfl) ?_
  refine WL_v rfl (ov_assign rfl) ?_
  refine WL_nil ?_
  exact WT_ret2 Try.func94 Try.results94 rfl rfl ⟨m.testBit, X, kv, rfl, hmk, hmp, by rw [← filter_ten hlen hmp]; exact hX, hH4⟩
end
end Go.Proofs.Ytmcedghgincaaaa
