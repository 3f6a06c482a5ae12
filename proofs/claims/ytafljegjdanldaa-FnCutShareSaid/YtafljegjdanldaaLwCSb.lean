/- The law CutShare: its walk. -/
import Derived.Test.YtafljegjdanldaaBk5
namespace Go.Proofs.Ytafljegjdanldaa
open Go.RowKit

theorem keep_uniq {p : List Nd} {L : List Int} {K K2 : Nat → Bool} (hK : ∀ a, K a = true ↔ Keep p L a) (hK2 : ∀ a, K2 a = true ↔ Keep p L a) : K = K2 := funext fun a => Bool.eq_iff_iff.2 ((hK a).trans (hK2 a).symm)

section
variable {h : GH} {Ls : List Heaplet} {w : World}

theorem plan_nilC (h : GH) : Plan h (.slice none 0 0) [] := (⟨rfl, [], Row.nil _ _, fun i hi => by simp at hi⟩ : OPlan [] [] (.slice none 0 0) []).plan (by simp)
theorem IRow.freezeC {X : Heaplet} {e : TypeId} {v : Value} {xs : List Int} (hX : IRow X e v xs) (hH : H w h (X :: Ls)) :
    ∃ h', h.Le h' ∧ H w h' Ls ∧ Ints h' v xs := by
  obtain ⟨h', hle, hH2, hX2, hnd, _⟩ := H.freeze hH
  exact ⟨h', hle, hH2, hX.ints fun q hq => (hX2 q hq).1⟩

/-- A drawn plan and nodes. -/
def DrewC (h : GH) (Ls : List Heaplet) (v : Value) (w' : World) : Prop := ∃ pv lv, v = .tuple #[pv, lv] ∧ ∃ h' p L, h.Le h' ∧ Plan h' pv p ∧ p.length ≤ 11 ∧ Ints h' lv L ∧ L.length ≤ 5 ∧ (∀ x ∈ L, -1 ≤ x ∧ x ≤ 11) ∧ H w' h' Ls

set_option maxHeartbeats 1000000 in
theorem l92List_ok {g : Nat} {bv : Value} {p0 : Nat} {bs : List Int} (hH : H w h (rdr g bv p0 :: Ls)) (hB : Bytes h bv bs) (hp : p0 ≤ 1000) :
    Rets Try.prog 57 #[.pointer (some ⟨g, 0, none⟩)] w (DrewC h Ls) := by
  refine rets_enter Try.func57 rfl Try.ntmps57 (by simp) ?_
  refine WT_seq ?_
  refine WT_region ?_
  refine WL_v rfl (ov_assign rfl) ?_
  refine WL_v rfl (ov_assign rfl) ?_
  refine WL_nil ?_
  refine WT_seq ?_
  refine WT_region ?_
  refine WL_v rfl (ov_move rfl) ?_
  refine WL_call rfl rfl cf_spec_l91Plan (l91Plan_ok hH hB (by omega)) ?_; rintro pv w1 ⟨p, O, Is, p1, hO, hl, hp1, hH1⟩
  refine WL_v rfl (ov_assign rfl) ?_
  refine WL_nil ?_
  refine WT_seq ?_
  refine WT_region ?_
  refine WL_bsI0 rfl hH1 run_bs_int0 ?_; rintro X0 lv0 w2 hX0 hH2
  refine WL_v rfl (ov_assign rfl) ?_
  refine WL_nil ?_
  refine WT_seq ?_
  refine WT_region ?_
  refine WL_v rfl (ov_move rfl) ?_
  refine WL_call rfl rfl cf_p_spec_l6Rd_pick (pick_ok hH2.swap hB (by omega) 4) ?_; rintro _ w3 ⟨n, rfl, hn, hH3⟩
  refine WL_v rfl (ov_assign rfl) ?_
  refine WL_nil ?_
  refine WT_seq ?_
  refine WT_seq ?_
  refine WT_region ?_
  refine WL_v rfl (ov_assign rfl) ?_
  refine WL_nil ?_
  refine WT_block ?_
  obtain ⟨hil, xs, hR3, hat⟩ := hO
  have hpsl := hR3.sl
  refine WT_while (fun s : Nat × Value => [(0, .pointer (some ⟨g, 0, none⟩)), (4, pv), (5, s.2), (6, .int .i64 (n : Int)), (7, .int .i64 (s.1 : Int))]) (fun s w => s.1 ≤ n ∧ ∃ X L p', p' ≤ p1 + 1 + s.1 ∧ IRow X 3 s.2 L ∧ L.length = s.1 ∧ (∀ x ∈ L, -1 ≤ x ∧ x ≤ 11) ∧ H w h (rdr g bv p' :: X :: O :: (Is ++ Ls))) (fun s => n - s.1) (0, lv0) (by repeat (first | exact trivial | refine ⟨rfl, ?_⟩)) ⟨by omega, X0, [], p1 + 1, by simp only; omega, hX0, rfl, by simp, hH3⟩ ?_
  clear hH hH1 hH2 hH3 hX0
  have hn4 := hn.1 (by omega)
  rintro ⟨k, lv⟩ w4 ⟨hk, X, L, p2, hp2, hX, hLl, hLb, hH⟩ again
  simp only at hk hp2 hX hLl hH
  have hfin : ∀ {w : World} {X : Heaplet} {lv : Value} {L : List Int} {q : Nat}, IRow X 3 lv L → L.length ≤ 5 → (∀ x ∈ L, -1 ≤ x ∧ x ≤ 11) → H w h (rdr g bv q :: X :: O :: (Is ++ Ls)) → DrewC h Ls (.tuple #[pv, lv]) w := fun {w X lv L q} hX hl5 hLb hH => by
    obtain ⟨h1, hle1, hH2, hI⟩ := hX.freezeC hH.drop
    obtain ⟨h2, hle2, hH3, hP, _⟩ := (⟨hil, xs, hR3, hat⟩ : OPlan O Is pv p).freeze hH2
    exact ⟨pv, lv, rfl, h2, p, L, hle1.trans hle2, hP, hl, hI.mono hle2, hl5, hLb, hH3⟩
  have hend : ∀ (_ : k ≤ 3), DrewC h Ls (.tuple #[pv, lv]) w4 := fun _ => hfin hX (by omega) hLb hH
  by_cases hc : k < n ∧ 0 < p.length
  · skip
    refine WT_seq ?_
    refine WT_seq ?_
    refine WT_region ?_
    refine WL_v rfl (ov_move rfl) ?_
    refine WL_v rfl (ov_move rfl) ?_
    refine WL_v rfl (ov_T (ov_lss rfl rfl) (decide_eq_true (by omega))) ?_
    refine WL_v rfl (ov_move rfl) ?_
    refine WL_guardOn rfl rfl ?_
    refine WL_v rfl (ov_move rfl) ?_
    refine WL_guardOn rfl rfl ?_
    refine WL_v rfl (ov_len rfl hpsl st_sl_impl_Node) ?_
    refine WL_guardOn rfl rfl ?_
    refine WL_v rfl (ov_T (ov_gtr rfl rfl) (decide_eq_true (by omega))) ?_
    refine WL_v rfl (ov_pickT rfl rfl) ?_
    refine WL_nil ?_
    refine WT_condT rfl ?_
    refine WT_skip ?_
    refine WT_seq ?_
    refine WT_block ?_
    refine WT_region ?_
    refine WL_v rfl (ov_move rfl) ?_
    refine WL_v rfl (ov_move rfl) ?_
    refine WL_v rfl (ov_move rfl) ?_
    refine WL_v rfl (ov_len rfl hpsl st_sl_impl_Node) ?_
    refine WL_call rfl rfl cf_p_spec_l6Rd_pick (pick_ok hH hB (by omega) _) ?_; rintro _ w5 ⟨r, rfl, hr, hH5⟩
    refine WL_bsI rfl hH5 rfl (run_bs_int _) ?_; rintro Z zv w6 hZ hH6
    refine WL_appI (i := 2) (j := 0) rfl hH6 rfl rfl st_sl_int rfl hX rfl hZ (by simp; omega) (by simp; omega) ?_; rintro X2 lv2 w7 hX2 hH7
    refine WL_v rfl (ov_assign rfl) ?_
    refine WL_nil ?_
    refine WT_inBlock ?_
    refine WT_region ?_
    refine WL_v rfl (ov_move rfl) ?_
    refine WL_v rfl (ov_add rfl rfl (by omega)) ?_
    refine WL_v rfl (ov_assign rfl) ?_
    refine WL_nil ?_
    have hr1 := hr.1 (by omega)
    refine again (k + 1, lv2) _ _ (by simp only; omega) (by repeat (first | exact trivial | refine ⟨rfl, ?_⟩)) ⟨by simp only; omega, X2, _, p2 + 1, by simp only; omega, hX2, by simp [hLl], fun x hx => ?_, hH7.drop⟩
    rcases List.mem_append.1 hx with h1 | h1
    · exact hLb x h1
    · rw [List.mem_singleton] at h1; omega
  · have hk3 : k ≤ 3 := by omega
    by_cases hkn : k < n
    · skip
      refine WT_seq ?_
      refine WT_seq ?_
      refine WT_region ?_
      refine WL_v rfl (ov_move rfl) ?_
      refine WL_v rfl (ov_move rfl) ?_
      refine WL_v rfl (ov_T (ov_lss rfl rfl) (decide_eq_true (by omega))) ?_
      refine WL_v rfl (ov_move rfl) ?_
      refine WL_guardOn rfl rfl ?_
      refine WL_v rfl (ov_move rfl) ?_
      refine WL_guardOn rfl rfl ?_
      refine WL_v rfl (ov_len rfl hpsl st_sl_impl_Node) ?_
      refine WL_guardOn rfl rfl ?_
      refine WL_v rfl (ov_F (ov_gtr rfl rfl) (decide_eq_false (by omega))) ?_
      refine WL_v rfl (ov_pickT rfl rfl) ?_
      refine WL_nil ?_
      refine WT_condF rfl ?_
      refine WT_exit rfl ?_
      refine WT_seq ?_
      refine WT_seq ?_
      refine WT_region ?_
      refine WL_v rfl (ov_move rfl) ?_
      refine WL_call rfl rfl cf_p_spec_l6Rd_pick (pick_ok hH hB (by omega) 16) ?_; rintro _ w5 ⟨r, rfl, hr, hH5⟩
      refine WL_v rfl (ov_eql rfl rfl) ?_
      refine WL_nil ?_
      refine WT_cond rfl (fun h0 => ?_) (fun h0 => ?_)
      · skip
        first | with_reducible replace h0 := of_decide_eq_true h0 | with_reducible replace h0 := bn_T h0 | with_reducible replace h0 := bb_T h0 | skip
        refine WT_region ?_
        refine WL_v rfl (ov_move rfl) ?_
        refine WL_v rfl (ov_move rfl) ?_
        refine WL_v rfl (ov_len rfl hpsl st_sl_impl_Node) ?_
        refine WL_bsIN [-1, (p.length : Int)] rfl hH5 rfl (run_bs_int2 _ _) rfl (by omega) ?_; rintro Y yv w6 hY hH6
        refine WL_v rfl (ov_move rfl) ?_
        refine WL_call rfl rfl cf_p_spec_l6Rd_pick (pick_ok (hH6.pull 1 rfl) hB (by omega) 2) ?_; rintro _ w7 ⟨r2, rfl, hr2, hH7⟩
        refine WL_v rfl (ov_index rfl rfl st_sl_int hY.sl (by have := hr2.1 (by omega); simp only [List.length_cons, List.length_nil]; omega)) ?_
        refine WL_v rfl (ov_load rfl one_int (hY.cell hH7 (i := 1) rfl (by have := hr2.1 (by omega); simp only [List.length_cons, List.length_nil]; omega))) ?_
        refine WL_bsI rfl hH7 rfl (run_bs_int _) ?_; rintro Z zv w8 hZ hH8
        refine WL_appI (i := 3) (j := 0) rfl hH8 rfl rfl st_sl_int rfl hX rfl hZ (by simp; omega) (by simp; omega) ?_; rintro X2 lv2 w9 hX2 hH9
        refine WL_v rfl (ov_assign rfl) ?_
        refine WL_nil ?_
        refine WT_seq ?_
        refine WT_region ?_
        refine WL_v rfl (ov_move rfl) ?_
        refine WL_v rfl (ov_move rfl) ?_
        refine WL_v rfl (ov_assign rfl) ?_
        refine WL_v rfl (ov_assign rfl) ?_
        refine WL_nil ?_
        exact WT_ret2 Try.func57 Try.results57 rfl rfl (hfin hX2 (by simp; omega) (fun x hx => by
          rcases List.mem_append.1 hx with h1 | h1
          · exact hLb x h1
          · rw [List.mem_singleton] at h1
            subst h1
            have h2 : ∀ y ∈ [(-1 : Int), (p.length : Int)], -1 ≤ y ∧ y ≤ 11 := fun y hy => by
              simp only [List.mem_cons, List.not_mem_nil, or_false] at hy
              rcases hy with rfl | rfl <;> omega
            exact h2 _ (List.getElem_mem _)) (hH9.drop.del 1 rfl))
      first | with_reducible replace h0 := of_decide_eq_false h0 | with_reducible replace h0 := bn_F h0 | with_reducible replace h0 := bb_F h0 | skip
      refine WT_skip ?_
      refine WT_seq ?_
      refine WT_region ?_
      refine WL_v rfl (ov_move rfl) ?_
      refine WL_v rfl (ov_move rfl) ?_
      refine WL_v rfl (ov_assign rfl) ?_
      refine WL_v rfl (ov_assign rfl) ?_
      refine WL_nil ?_
      exact WT_ret2 Try.func57 Try.results57 rfl rfl (hfin hX (by omega) hLb hH5)
    · skip
      refine WT_seq ?_
      refine WT_seq ?_
      refine WT_region ?_
      refine WL_v rfl (ov_move rfl) ?_
      refine WL_v rfl (ov_move rfl) ?_
      refine WL_v rfl (ov_F (ov_lss rfl rfl) (decide_eq_false (by omega))) ?_
      refine WL_v rfl (ov_move rfl) ?_
      refine WL_guardOff rfl rfl rfl rfl ?_
      refine WL_guardOff rfl rfl rfl rfl ?_
      refine WL_guardOff rfl rfl rfl rfl ?_
      refine WL_v rfl (ov_pickF rfl rfl) ?_
      refine WL_nil ?_
      refine WT_condF rfl ?_
      refine WT_exit rfl ?_
      refine WT_seq ?_
      refine WT_seq ?_
      refine WT_region ?_
      refine WL_v rfl (ov_move rfl) ?_
      refine WL_call rfl rfl cf_p_spec_l6Rd_pick (pick_ok hH hB (by omega) 16) ?_; rintro _ w5 ⟨r, rfl, hr, hH5⟩
      refine WL_v rfl (ov_eql rfl rfl) ?_
      refine WL_nil ?_
      refine WT_cond rfl (fun h0 => ?_) (fun h0 => ?_)
      · skip
        first | with_reducible replace h0 := of_decide_eq_true h0 | with_reducible replace h0 := bn_T h0 | with_reducible replace h0 := bb_T h0 | skip
        refine WT_region ?_
        refine WL_v rfl (ov_move rfl) ?_
        refine WL_v rfl (ov_move rfl) ?_
        refine WL_v rfl (ov_len rfl hpsl st_sl_impl_Node) ?_
        refine WL_bsIN [-1, (p.length : Int)] rfl hH5 rfl (run_bs_int2 _ _) rfl (by omega) ?_; rintro Y yv w6 hY hH6
        refine WL_v rfl (ov_move rfl) ?_
        refine WL_call rfl rfl cf_p_spec_l6Rd_pick (pick_ok (hH6.pull 1 rfl) hB (by omega) 2) ?_; rintro _ w7 ⟨r2, rfl, hr2, hH7⟩
        refine WL_v rfl (ov_index rfl rfl st_sl_int hY.sl (by have := hr2.1 (by omega); simp only [List.length_cons, List.length_nil]; omega)) ?_
        refine WL_v rfl (ov_load rfl one_int (hY.cell hH7 (i := 1) rfl (by have := hr2.1 (by omega); simp only [List.length_cons, List.length_nil]; omega))) ?_
        refine WL_bsI rfl hH7 rfl (run_bs_int _) ?_; rintro Z zv w8 hZ hH8
        refine WL_appI (i := 3) (j := 0) rfl hH8 rfl rfl st_sl_int rfl hX rfl hZ (by simp; omega) (by simp; omega) ?_; rintro X2 lv2 w9 hX2 hH9
        refine WL_v rfl (ov_assign rfl) ?_
        refine WL_nil ?_
        refine WT_seq ?_
        refine WT_region ?_
        refine WL_v rfl (ov_move rfl) ?_
        refine WL_v rfl (ov_move rfl) ?_
        refine WL_v rfl (ov_assign rfl) ?_
        refine WL_v rfl (ov_assign rfl) ?_
        refine WL_nil ?_
        exact WT_ret2 Try.func57 Try.results57 rfl rfl (hfin hX2 (by simp; omega) (fun x hx => by
          rcases List.mem_append.1 hx with h1 | h1
          · exact hLb x h1
          · rw [List.mem_singleton] at h1
            subst h1
            have h2 : ∀ y ∈ [(-1 : Int), (p.length : Int)], -1 ≤ y ∧ y ≤ 11 := fun y hy => by
              simp only [List.mem_cons, List.not_mem_nil, or_false] at hy
              rcases hy with rfl | rfl <;> omega
            exact h2 _ (List.getElem_mem _)) (hH9.drop.del 1 rfl))
      first | with_reducible replace h0 := of_decide_eq_false h0 | with_reducible replace h0 := bn_F h0 | with_reducible replace h0 := bb_F h0 | skip
      refine WT_skip ?_
      refine WT_seq ?_
      refine WT_region ?_
      refine WL_v rfl (ov_move rfl) ?_
      refine WL_v rfl (ov_move rfl) ?_
      refine WL_v rfl (ov_assign rfl) ?_
      refine WL_v rfl (ov_assign rfl) ?_
      refine WL_nil ?_
      exact WT_ret2 Try.func57 Try.results57 rfl rfl (hfin hX (by omega) hLb hH5)

theorem drawPlanCut_ok (hH : H w h Ls) {cv : Value} {bs : List Int} (hB : Bytes h cv bs) : Rets Try.prog 23 #[cv] w (DrewC h Ls) := by
  refine rets_enter Try.func23 rfl Try.ntmps23 (by simp) ?_
  refine WT_seq ?_
  refine WT_region ?_
  refine WL_v rfl (ov_assign rfl) ?_
  refine WL_v rfl (ov_assign rfl) ?_
  refine WL_nil ?_
  refine WT_seq ?_
  refine WT_region ?_
  refine WL_v rfl (ov_move rfl) ?_
  refine WL_call rfl rfl cf_spec_l6Open (l6Open_ok hH hB) ?_; rintro _ w1 ⟨g, bv, bs', rfl, hB', hH1⟩
  refine WL_call rfl rfl cf_spec_l92List (l92List_ok hH1 hB' (by omega)) ?_; rintro _ w2 ⟨pv, lv, rfl, hD⟩
  refine WL_v rfl (ov_extract rfl rfl) ?_
  refine WL_v rfl (ov_extract rfl rfl) ?_
  refine WL_v rfl (ov_assign rfl) ?_
  refine WL_v rfl (ov_assign rfl) ?_
  refine WL_nil ?_
  exact WT_ret2 Try.func23 Try.results23 rfl rfl ⟨pv, lv, rfl, hD⟩

theorem shareSaved_ok (hH : H w h Ls) {pv : Value} {p : List Nd} (hP : Plan h pv p) (hv : planOk p = true) : Rets Try.prog 27 #[pv] w fun v w' => ∃ fs L, Shr p p.length fs L ∧ v = .int .i64 ((p.length : Int) - (numK (shB fs) p.length : Int)) ∧ H w' h Ls := by
  have hlen := PlanOk.len hv
  refine rets_enter Try.func27 rfl Try.ntmps27 (by simp) ?_
  refine WT_seq ?_
  refine WT_region ?_
  refine WL_v rfl (ov_assign rfl) ?_
  refine WL_nil ?_
  refine WT_seq ?_
  refine WT_region ?_
  refine WL_v rfl (ov_move rfl) ?_
  refine WL_call rfl rfl cf_impl_PlanShare (planShare_yes hH hP hv) ?_; rintro _ w1 ⟨fs, L, ov, nv, O, Is, rfl, hS, hO, hH1⟩
  refine WL_v rfl (ov_move rfl) ?_
  refine WL_v rfl (ov_extract rfl rfl) ?_
  refine WL_v rfl (ov_extract rfl rfl) ?_
  refine WL_v rfl (ov_extract rfl rfl) ?_
  refine WL_v rfl (ov_assign rfl) ?_
  refine WL_v rfl (ov_assign rfl) ?_
  refine WL_v rfl (ov_assign rfl) ?_
  refine WL_nil ?_
  refine WT_seq ?_
  refine WT_seq ?_
  refine WT_region ?_
  refine WL_v rfl (ov_move rfl) ?_
  refine WL_v rfl (ov_F (ov_not rfl) (by first | exact decide_eq_false rfl | exact nb_F rfl | exact mb_F rfl | exact rfl | (simp only [decide_eq_false_iff_not]; omega) | simpa using rfl)) ?_
  refine WL_nil ?_
  have hsl := shTo_len p fs p.length
  have hnk := numK_le (shB fs) p.length
  obtain ⟨hil, xs, hR3, hat⟩ := hO
  refine WT_condF rfl ?_
  refine WT_skip ?_
  refine WT_seq ?_
  refine WT_region ?_
  refine WL_v rfl (ov_move rfl) ?_
  refine WL_v rfl (ov_len rfl hP.sl st_sl_impl_Node) ?_
  refine WL_v rfl (ov_move rfl) ?_
  refine WL_v rfl (ov_len rfl hR3.sl st_sl_impl_Node) ?_; rw [hsl]
  refine WL_v rfl (ov_sub rfl rfl (by omega)) ?_
  refine WL_v rfl (ov_assign rfl) ?_
  refine WL_nil ?_
  exact WT_ret1 Try.func27 Try.results27 rfl ⟨fs, L, hS, rfl, H.drops _ hH1.drop⟩

theorem fnCutShare_walk (hH : H w h Ls) {cv : Value} {bs : List Int} (hB : Bytes h cv bs) : Rets Try.prog 6 #[cv] w fun v w' => v = .bool true ∧ H w' h Ls := by
  refine rets_enter Try.func6 rfl Try.ntmps6 (by simp) ?_
  refine WT_seq ?_
  refine WT_region ?_
  refine WL_v rfl (ov_assign rfl) ?_
  refine WL_nil ?_
  refine WT_seq ?_
  refine WT_seq ?_
  refine WT_region ?_
  refine WL_v rfl (ov_move rfl) ?_
  refine WL_v rfl (ov_len rfl hB.sl st_sl_uint8) ?_
  refine WL_v rfl (ov_gtr rfl rfl) ?_
  refine WL_nil ?_
  refine WT_cond rfl (fun hl => ?_) (fun hl => ?_)
  · skip
    first | with_reducible replace hl := of_decide_eq_true hl | with_reducible replace hl := bn_T hl | with_reducible replace hl := bb_T hl | skip
    refine WT_seq ?_
    refine WT_region ?_
    refine WL_v rfl (ov_assign rfl) ?_
    refine WL_nil ?_
    exact WT_ret1 Try.func6 Try.results6 rfl ⟨rfl, hH⟩
  first | with_reducible replace hl := of_decide_eq_false hl | with_reducible replace hl := bn_F hl | with_reducible replace hl := bb_F hl | skip
  refine WT_skip ?_
  refine WT_seq ?_
  refine WT_region ?_
  refine WL_v rfl (ov_move rfl) ?_
  refine WL_call rfl rfl cf_spec_DrawPlanCut (drawPlanCut_ok hH hB) ?_; rintro _ w1 ⟨pv, lv, rfl, h', p, L, hle, hP, hpl, hL, hll, hLb, hH1⟩
  refine WL_v rfl (ov_move rfl) ?_
  refine WL_v rfl (ov_extract rfl rfl) ?_
  refine WL_v rfl (ov_extract rfl rfl) ?_
  refine WL_v rfl (ov_assign rfl) ?_
  refine WL_v rfl (ov_assign rfl) ?_
  refine WL_nil ?_
  refine WT_seq ?_
  refine WT_region ?_
  refine WL_v rfl (ov_move rfl) ?_
  refine WL_v rfl (ov_move rfl) ?_
  cases hok : cutOk p L with
  | false =>
    refine WL_call rfl rfl cf_impl_PlanCut (planCut_no hH1 hP (hL.rdl _) hok) ?_; rintro _ w2 ⟨rfl, hH2⟩
    refine WL_v rfl (ov_move rfl) ?_
    refine WL_v rfl (ov_extract rfl rfl) ?_
    refine WL_v rfl (ov_extract rfl rfl) ?_
    refine WL_v rfl (ov_extract rfl rfl) ?_
    refine WL_v rfl (ov_assign rfl) ?_
    refine WL_v rfl (ov_assign rfl) ?_
    refine WL_v rfl (ov_assign rfl) ?_
    refine WL_nil ?_
    refine WT_seq ?_
    refine WT_region ?_
    refine WL_v rfl (ov_move rfl) ?_
    refine WL_v rfl (ov_move rfl) ?_
    refine WL_call rfl rfl cf_spec_PlanCut (sPlanCut_no hH2 hP (by omega) (hL.rdl _) (fun x hx => by have := hLb x hx; omega) hok) ?_; rintro _ w3 ⟨ov, nv, O, Y, rfl, hO, hY, hH3⟩; obtain ⟨h1, hle1, hH4, hP1, _⟩ := hO.freeze (Ls := Y :: Ls) hH3
    refine WL_v rfl (ov_move rfl) ?_
    refine WL_v rfl (ov_extract rfl rfl) ?_
    refine WL_v rfl (ov_extract rfl rfl) ?_
    refine WL_v rfl (ov_extract rfl rfl) ?_
    refine WL_v rfl (ov_assign rfl) ?_
    refine WL_v rfl (ov_assign rfl) ?_
    refine WL_v rfl (ov_assign rfl) ?_
    refine WL_nil ?_
    refine WT_seq ?_
    refine WT_seq ?_
    refine WT_region ?_
    refine WL_v rfl (ov_move rfl) ?_
    refine WL_v rfl (ov_move rfl) ?_
    refine WL_v rfl (ov_F (ov_neqB rfl rfl Try.underlying4) (by simp)) ?_
    refine WL_v rfl (ov_move rfl) ?_
    refine WL_guardOn rfl rfl ?_
    refine WL_v rfl (ov_move rfl) ?_
    refine WL_guardOn rfl rfl ?_
    refine WL_v rfl (ov_move rfl) ?_
    refine WL_guardOn rfl rfl ?_
    refine WL_call rfl rfl cf_laws_sameRow (sameRow_one hH4 ((Ints.nil _).rdl _) (hY.rdl (i := 0) rfl)) ?_; rintro _ w4 ⟨rfl, hH5⟩
    refine WL_guardOn rfl rfl ?_
    refine WL_v rfl (ov_F (ov_not rfl) (by first | exact decide_eq_false rfl | exact nb_F rfl | exact mb_F rfl | exact rfl | (simp only [decide_eq_false_iff_not]; omega) | simpa using rfl)) ?_
    refine WL_v rfl (ov_pickF rfl rfl) ?_
    refine WL_v rfl (ov_move rfl) ?_
    refine WL_guardOn rfl rfl ?_
    refine WL_v rfl (ov_move rfl) ?_
    refine WL_guardOn rfl rfl ?_
    refine WL_v rfl (ov_move rfl) ?_
    refine WL_guardOn rfl rfl ?_
    refine WL_call rfl rfl cf_laws_samePlan (samePlan_one hH5 (plan_nilC _) hP1) ?_; rintro _ w5 ⟨rfl, hH6⟩
    refine WL_guardOn rfl rfl ?_
    refine WL_v rfl (ov_F (ov_not rfl) (by first | exact decide_eq_false rfl | exact nb_F rfl | exact mb_F rfl | exact rfl | (simp only [decide_eq_false_iff_not]; omega) | simpa using rfl)) ?_
    refine WL_v rfl (ov_pickF rfl rfl) ?_
    refine WL_v rfl (ov_move rfl) ?_
    refine WL_guardOn rfl rfl ?_
    refine WL_v rfl (ov_move rfl) ?_
    refine WL_guardOn rfl rfl ?_
    refine WL_v rfl (ov_T (ov_not rfl) (by first | exact decide_eq_true rfl | exact nb_T rfl | exact mb_T rfl | exact rfl | (simp only [decide_eq_true_eq]; omega) | simpa using rfl)) ?_
    refine WL_v rfl (ov_pickF rfl rfl) ?_
    refine WL_nil ?_
    refine WT_condT rfl ?_
    refine WT_seq ?_
    refine WT_region ?_
    refine WL_v rfl (ov_move rfl) ?_
    refine WL_v rfl (ov_move rfl) ?_
    refine WL_v rfl (ov_T (ov_eqlB rfl rfl Try.underlying4) (by simp)) ?_
    refine WL_v rfl (ov_move rfl) ?_
    refine WL_guardOn rfl rfl ?_
    refine WL_v rfl (ov_move rfl) ?_
    refine WL_guardOn rfl rfl ?_
    refine WL_v rfl (ov_move rfl) ?_
    refine WL_guardOn rfl rfl ?_
    refine WL_call rfl rfl cf_laws_sameRow (sameRow_one hH6 ((Ints.nil _).rdl _) (hY.rdl (i := 0) rfl)) ?_; rintro _ w6 ⟨rfl, hH7⟩
    refine WL_v rfl (ov_pickT rfl rfl) ?_
    refine WL_v rfl (ov_move rfl) ?_
    refine WL_guardOn rfl rfl ?_
    refine WL_v rfl (ov_move rfl) ?_
    refine WL_guardOn rfl rfl ?_
    refine WL_v rfl (ov_move rfl) ?_
    refine WL_guardOn rfl rfl ?_
    refine WL_call rfl rfl cf_laws_samePlan (samePlan_one hH7 (plan_nilC _) hP1) ?_; rintro _ w7 ⟨rfl, hH8⟩
    refine WL_v rfl (ov_pickT rfl rfl) ?_
    refine WL_v rfl (ov_assign rfl) ?_
    refine WL_nil ?_
    exact WT_ret1 Try.func6 Try.results6 rfl ⟨rfl, hH8.drop.weak (hle.trans hle1)⟩
  | true =>
    have hv : planOk p = true := by
      unfold cutOk at hok
      rw [Bool.and_eq_true] at hok
      exact hok.1
    have hlen := PlanOk.len hv
    refine WL_call rfl rfl cf_impl_PlanCut (planCut_yes hH1 hP (hL.rdl _) hok) ?_; rintro _ w2 ⟨K, hK, ov1, nv1, O1, Is1, X1, rfl, hO1, hX1, hH2⟩; obtain ⟨h1, hle1, hH3, hP1, _⟩ := hO1.freeze hH2
    refine WL_v rfl (ov_move rfl) ?_
    refine WL_v rfl (ov_extract rfl rfl) ?_
    refine WL_v rfl (ov_extract rfl rfl) ?_
    refine WL_v rfl (ov_extract rfl rfl) ?_
    refine WL_v rfl (ov_assign rfl) ?_
    refine WL_v rfl (ov_assign rfl) ?_
    refine WL_v rfl (ov_assign rfl) ?_
    refine WL_nil ?_
    refine WT_seq ?_
    refine WT_region ?_
    refine WL_v rfl (ov_move rfl) ?_
    refine WL_v rfl (ov_move rfl) ?_
    refine WL_call rfl rfl cf_spec_PlanCut (sPlanCut_yes hH3 (hP.mono hle1) ((hL.mono hle1).rdl _) hok) ?_; rintro _ w3 ⟨K2, hK2, ov2, nv2, O2, Is2, X2, rfl, hO2, hX2, hH4⟩; obtain ⟨h2, hle2, hH5, hP2, _⟩ := hO2.freeze hH4; obtain rfl : K = K2 := keep_uniq hK hK2
    refine WL_v rfl (ov_move rfl) ?_
    refine WL_v rfl (ov_extract rfl rfl) ?_
    refine WL_v rfl (ov_extract rfl rfl) ?_
    refine WL_v rfl (ov_extract rfl rfl) ?_
    refine WL_v rfl (ov_assign rfl) ?_
    refine WL_v rfl (ov_assign rfl) ?_
    refine WL_v rfl (ov_assign rfl) ?_
    refine WL_nil ?_
    refine WT_seq ?_
    refine WT_seq ?_
    refine WT_region ?_
    refine WL_v rfl (ov_move rfl) ?_
    refine WL_v rfl (ov_move rfl) ?_
    refine WL_v rfl (ov_F (ov_neqB rfl rfl Try.underlying4) (by simp)) ?_
    refine WL_v rfl (ov_move rfl) ?_
    refine WL_guardOn rfl rfl ?_
    refine WL_v rfl (ov_move rfl) ?_
    refine WL_guardOn rfl rfl ?_
    refine WL_v rfl (ov_move rfl) ?_
    refine WL_guardOn rfl rfl ?_
    refine WL_call rfl rfl cf_laws_sameRow (sameRow_one hH5 (hX1.rdl (i := 1) rfl) (hX2.rdl (i := 0) rfl)) ?_; rintro _ w4 ⟨rfl, hH6⟩
    refine WL_guardOn rfl rfl ?_
    refine WL_v rfl (ov_F (ov_not rfl) (by first | exact decide_eq_false rfl | exact nb_F rfl | exact mb_F rfl | exact rfl | (simp only [decide_eq_false_iff_not]; omega) | simpa using rfl)) ?_
    refine WL_v rfl (ov_pickF rfl rfl) ?_
    refine WL_v rfl (ov_move rfl) ?_
    refine WL_guardOn rfl rfl ?_
    refine WL_v rfl (ov_move rfl) ?_
    refine WL_guardOn rfl rfl ?_
    refine WL_v rfl (ov_move rfl) ?_
    refine WL_guardOn rfl rfl ?_
    refine WL_call rfl rfl cf_laws_samePlan (samePlan_one hH6 (hP1.mono hle2) hP2) ?_; rintro _ w5 ⟨rfl, hH7⟩
    refine WL_guardOn rfl rfl ?_
    refine WL_v rfl (ov_F (ov_not rfl) (by first | exact decide_eq_false rfl | exact nb_F rfl | exact mb_F rfl | exact rfl | (simp only [decide_eq_false_iff_not]; omega) | simpa using rfl)) ?_
    refine WL_v rfl (ov_pickF rfl rfl) ?_
    refine WL_v rfl (ov_move rfl) ?_
    refine WL_guardOn rfl rfl ?_
    refine WL_v rfl (ov_move rfl) ?_
    refine WL_guardOn rfl rfl ?_
    refine WL_v rfl (ov_F (ov_not rfl) (by first | exact decide_eq_false rfl | exact nb_F rfl | exact mb_F rfl | exact rfl | (simp only [decide_eq_false_iff_not]; omega) | simpa using rfl)) ?_
    refine WL_v rfl (ov_pickF rfl rfl) ?_
    refine WL_nil ?_
    have hcl := Keep.clK hv hK
    have hco := cut_ok hv hcl
    have hcn := cutTo_len p K p.length
    have hnk := numK_le K p.length
    have hPP := (hP.mono hle1).mono hle2
    refine WT_condF rfl ?_
    refine WT_skip ?_
    refine WT_seq ?_
    refine WT_region ?_
    refine WL_v rfl (ov_move rfl) ?_
    refine WL_call rfl rfl cf_impl_ShareSaved (shareSaved_ok hH7 (hP1.mono hle2) hco) ?_; rintro _ w6 ⟨gs, L2, hQ, rfl, hH8⟩
    refine WL_v rfl (ov_move rfl) ?_
    refine WL_call rfl rfl cf_impl_ShareSaved (shareSaved_ok hH8 hPP hv) ?_; rintro _ w7 ⟨fs, L1, hS, rfl, hH9⟩; have hsv := cut_saves hv hcl hS hQ p.length (Nat.le_refl _)
    refine WL_v rfl (ov_T (ov_leq rfl rfl) (decide_eq_true (by rw [hcn]; omega))) ?_
    refine WL_v rfl (ov_move rfl) ?_
    refine WL_guardOn rfl rfl ?_
    refine WL_v rfl (ov_move rfl) ?_
    refine WL_guardOn rfl rfl ?_
    refine WL_call rfl rfl cf_impl_ShareSaved (shareSaved_ok hH9 (hP1.mono hle2) hco) ?_; rintro _ w8 ⟨gs2, L3, hQ2, rfl, hH10⟩; have hsn := numK_le (shB gs2) (cutTo p K p.length).length
    refine WL_guardOn rfl rfl ?_
    refine WL_v rfl (ov_T (ov_geq rfl rfl) (decide_eq_true (by omega))) ?_
    refine WL_v rfl (ov_pickT rfl rfl) ?_
    refine WL_v rfl (ov_assign rfl) ?_
    refine WL_nil ?_
    exact WT_ret1 Try.func6 Try.results6 rfl ⟨rfl, hH10.drop.drop.weak (hle.trans (hle1.trans hle2))⟩
end
end Go.Proofs.Ytafljegjdanldaa
