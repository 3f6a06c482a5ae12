/- The laws on places. -/
import Derived.Test.YtieoacpffdpgeaaWkT
import Derived.Test.YtieoacpffdpgeaaWkJ
import Derived.Test.YtieoacpffdpgeaaWkK
import Derived.Test.YtieoacpffdpgeaaSlF
import Derived.Test.YtieoacpffdpgeaaPlG
namespace Go.Proofs.Ytieoacpffdpgeaa
open Go.RowKit

section
variable {h : GH} {Ls : List Heaplet} {w : World}

theorem IRow.freezeP {X : Heaplet} {e : TypeId} {v : Value} {xs : List Int} (hX : IRow X e v xs) (hH : H w h (X :: Ls)) :
    ∃ h', h.Le h' ∧ H w h' Ls ∧ Ints h' v xs := by
  obtain ⟨h', hle, hH2, hX2, hnd, _⟩ := H.freeze hH
  exact ⟨h', hle, hH2, hX.ints fun q hq => (hX2 q hq).1⟩

theorem drawBufferGive_ok (hH : H w h Ls) {cv : Value} {bs : List Int} (hB : Bytes h cv bs) : Rets Try.prog 43 #[cv] w (Drew h Ls) := by
  refine rets_enter Try.func43 rfl Try.ntmps43 (by simp) ?_
  refine WT_seq ?_
  refine WT_region ?_
  refine WL_v rfl (ov_assign rfl) ?_
  refine WL_nil ?_
  refine WT_seq ?_
  refine WT_region ?_
  refine WL_v rfl (ov_move rfl) ?_
  refine WL_call rfl rfl cf_spec_l6Open (l6Open_ok hH hB) ?_; rintro _ w1 ⟨g, bv, bs', rfl, hB', hH1⟩
  refine WL_call rfl rfl cf_spec_l91Plan (l91Plan_ok hH1 hB' (by omega)) ?_; rintro _ w2 ⟨p, O, Is, p', hO, hl, hp', hH2⟩
  refine WL_v rfl (ov_assign rfl) ?_
  refine WL_nil ?_
  exact WT_ret1 Try.func43 Try.results43 rfl (drew_of hO hl hH2)

theorem giveOf_len (p : List Nd) : (giveOf p).length = if planOk p = true then p.length else 0 := by
  unfold giveOf
  split
  · exact giveTo_len _ _
  · rfl

theorem drawBufferFits_ok (hH : H w h Ls) {cv : Value} {bs : List Int} (hB : Bytes h cv bs) : Rets Try.prog 31 #[cv] w fun v w' => ∃ pv lv, v = .tuple #[pv, lv] ∧ DrewL h Ls pv lv w' := by
  refine rets_enter Try.func31 rfl Try.ntmps31 (by simp) ?_
  refine WT_seq ?_
  refine WT_region ?_
  refine WL_v rfl (ov_assign rfl) ?_
  refine WL_v rfl (ov_assign rfl) ?_
  refine WL_nil ?_
  refine WT_seq ?_
  refine WT_region ?_
  refine WL_v rfl (ov_move rfl) ?_
  refine WL_call rfl rfl cf_spec_l6Open (l6Open_ok hH hB) ?_; rintro _ w1 ⟨g, bv, bs', rfl, hB', hH1⟩
  refine WL_v rfl (ov_assign rfl) ?_
  refine WL_nil ?_
  refine WT_seq ?_
  refine WT_region ?_
  refine WL_v rfl (ov_move rfl) ?_
  refine WL_call rfl rfl cf_spec_l91Plan (l91Plan_ok hH1 hB' (by omega)) ?_; rintro pv w2 ⟨p, O, Is, p1, hO, hl, hp1, hH2⟩
  refine WL_v rfl (ov_assign rfl) ?_
  refine WL_nil ?_
  refine WT_seq ?_
  refine WT_region ?_
  refine WL_v rfl (ov_move rfl) ?_
  obtain ⟨h', hle, hH3, hP, _⟩ := hO.freeze (Ls := rdr g bv p1 :: Ls) (hH2.perm (by
    have := (List.perm_middle (a := rdr g bv p1) (l₁ := O :: Is) (l₂ := Ls)).symm
    simpa using this))
  have hBm := hB'.mono hle
  have hgl := giveOf_len p
  refine WL_call rfl rfl cf_spec_BufferGive (sBufferGive_ok hH3 hP (by omega)) ?_; rintro lv w4 ⟨X, hX, hH4⟩
  refine WL_v rfl (ov_assign rfl) ?_
  refine WL_nil ?_
  refine WT_seq ?_
  refine WT_seq ?_
  refine WT_region ?_
  refine WL_v rfl (ov_move rfl) ?_
  refine WL_v rfl (ov_len rfl hX.sl st_sl_int) ?_
  refine WL_v rfl (ov_gtr rfl rfl) ?_
  refine WL_nil ?_
  generalize giveOf p = G at hX hgl
  have hG : G.length ≤ 11 := by rw [hgl]; split <;> omega
  have fin : ∀ {w : World} {X : Heaplet} {G : List Int} {q : Nat}, IRow X 3 lv G → G.length ≤ 11 → H w h' (X :: rdr g bv q :: Ls) → DrewL h Ls pv lv w := fun hX hG hH => by
    obtain ⟨h2, hle2, hH5, hI⟩ := hX.freezeP hH
    exact ⟨h2, p, _, hle.trans hle2, hP.mono hle2, hl, hI, by omega, hH5.drop⟩
  refine WT_cond rfl (fun h0 => ?_) (fun h0 => ?_)
  · skip
    first | with_reducible replace h0 := of_decide_eq_true h0 | with_reducible replace h0 := bn_T h0 | with_reducible replace h0 := bb_T h0 | skip
    refine WT_seq ?_
    refine WT_region ?_
    refine WL_v rfl (ov_move rfl) ?_
    refine WL_call rfl rfl cf_p_spec_l6Rd_pick (pick_ok hH4.swap hBm (by omega) 4) ?_; rintro _ w5 ⟨r1, rfl, hr1, hH5⟩
    refine WL_nil ?_
    refine WT_block ?_
    refine WT_seq ?_
    refine WT_region ?_
    refine WL_v rfl (ov_eql rfl rfl) ?_
    refine WL_v rfl (ov_assign rfl) ?_
    refine WL_nil ?_
    refine WT_cond rfl (fun h1 => ?_) (fun h1 => ?_)
    · skip
      first | with_reducible replace h1 := of_decide_eq_true h1 | with_reducible replace h1 := bn_T h1 | with_reducible replace h1 := bb_T h1 | skip
      refine WT_region ?_
      refine WL_v rfl (ov_move rfl) ?_
      refine WL_v rfl (ov_move rfl) ?_
      refine WL_v rfl (ov_move rfl) ?_
      refine WL_v rfl (ov_len rfl hX.sl st_sl_int) ?_
      refine WL_call rfl rfl cf_p_spec_l6Rd_pick (pick_ok hH5 hBm (by omega) G.length) ?_; rintro _ w6 ⟨r2, rfl, hr2, hH6⟩
      refine WL_v rfl (ov_move rfl) ?_
      refine WL_call rfl rfl cf_p_spec_l6Rd_pick (pick_ok hH6 hBm (by omega) 4) ?_; rintro _ w7 ⟨r3, rfl, hr3, hH7⟩
      refine WL_v rfl (ov_index rfl rfl st_sl_int hX.sl (by have := hr2.1 (by omega); omega)) ?_
      refine WL_storeI hH7 rfl rfl (i := 1) rfl hX (by have := hr2.1 (by omega); omega) sz_int ?_; rintro X2 w8 hX2 hH8
      refine WL_nil ?_
      refine WT_inBlock ?_
      refine WT_seq ?_
      refine WT_region ?_
      refine WL_v rfl (ov_move rfl) ?_
      refine WL_v rfl (ov_move rfl) ?_
      refine WL_v rfl (ov_assign rfl) ?_
      refine WL_v rfl (ov_assign rfl) ?_
      refine WL_nil ?_
      exact WT_ret2 Try.func31 Try.results31 rfl rfl ⟨pv, lv, rfl, fin hX2 (by simpa using hG) hH8.swap⟩
    first | with_reducible replace h1 := of_decide_eq_false h1 | with_reducible replace h1 := bn_F h1 | with_reducible replace h1 := bb_F h1 | skip
    refine WT_seq ?_
    refine WT_region ?_
    refine WL_v rfl (ov_eql rfl rfl) ?_
    refine WL_v rfl (ov_assign rfl) ?_
    refine WL_nil ?_
    refine WT_cond rfl (fun h2 => ?_) (fun h2 => ?_)
    · skip
      first | with_reducible replace h2 := of_decide_eq_true h2 | with_reducible replace h2 := bn_T h2 | with_reducible replace h2 := bb_T h2 | skip
      refine WT_region ?_
      refine WL_v rfl (ov_move rfl) ?_
      refine WL_v rfl (ov_move rfl) ?_
      refine WL_v rfl (ov_len rfl hX.sl st_sl_int) ?_
      refine WL_v rfl (ov_as (ov_sub rfl rfl (by omega)) (congrArg (Value.int .i64) ((show (G.length : Int) - 1 = ((G.length - 1 : Nat) : Int) by omega)))) ?_
      refine WL_v rfl (ov_index rfl rfl st_sl_int hX.sl (by omega)) ?_
      refine WL_storeI hH5 rfl rfl (i := 1) rfl hX (by omega) sz_int ?_; rintro X2 w8 hX2 hH8
      refine WL_nil ?_
      refine WT_inBlock ?_
      refine WT_seq ?_
      refine WT_region ?_
      refine WL_v rfl (ov_move rfl) ?_
      refine WL_v rfl (ov_move rfl) ?_
      refine WL_v rfl (ov_assign rfl) ?_
      refine WL_v rfl (ov_assign rfl) ?_
      refine WL_nil ?_
      exact WT_ret2 Try.func31 Try.results31 rfl rfl ⟨pv, lv, rfl, fin hX2 (by simpa using hG) hH8.swap⟩
    first | with_reducible replace h2 := of_decide_eq_false h2 | with_reducible replace h2 := bn_F h2 | with_reducible replace h2 := bb_F h2 | skip
    refine WT_skip ?_
    refine WT_inBlock ?_
    refine WT_seq ?_
    refine WT_region ?_
    refine WL_v rfl (ov_move rfl) ?_
    refine WL_v rfl (ov_move rfl) ?_
    refine WL_v rfl (ov_assign rfl) ?_
    refine WL_v rfl (ov_assign rfl) ?_
    refine WL_nil ?_
    exact WT_ret2 Try.func31 Try.results31 rfl rfl ⟨pv, lv, rfl, fin hX hG hH5.swap⟩
  first | with_reducible replace h0 := of_decide_eq_false h0 | with_reducible replace h0 := bn_F h0 | with_reducible replace h0 := bb_F h0 | skip
  refine WT_skip ?_
  refine WT_seq ?_
  refine WT_region ?_
  refine WL_v rfl (ov_move rfl) ?_
  refine WL_v rfl (ov_move rfl) ?_
  refine WL_v rfl (ov_assign rfl) ?_
  refine WL_v rfl (ov_assign rfl) ?_
  refine WL_nil ?_
  exact WT_ret2 Try.func31 Try.results31 rfl rfl ⟨pv, lv, rfl, fin hX hG hH4⟩

theorem fits_get {p : List Nd} {pl : List Int} (h : fitsPl p pl = true) : planOk p = true ∧ pl.length = p.length ∧ ∀ i, i < p.length → placeOk (endsTo p p.length) pl i := by
  unfold fitsPl at h
  rw [Bool.and_eq_true, decide_eq_true_eq] at h
  exact ⟨h.1, h.2.1, h.2.2⟩

theorem fnBufferFits_walk (hH : H w h Ls) {cv : Value} {bs : List Int} (hB : Bytes h cv bs) : Rets Try.prog 8 #[cv] w fun v w' => v = .bool true ∧ H w' h Ls := by
  refine rets_enter Try.func8 rfl Try.ntmps8 (by simp) ?_
  refine WT_seq ?_
  refine WT_region ?_
  refine WL_v rfl (ov_assign rfl) ?_
  refine WL_nil ?_
  refine WT_seq ?_
  refine WT_seq ?_
  refine WT_region ?_
  refine WL_v rfl (ov_move rfl) ?_
  refine WL_v rfl (ov_len rfl hB.sl st_sl_uint8) ?_
  refine WL_v rfl (ov_gtr rfl rfl) ?_
  refine WL_nil ?_
  refine WT_cond rfl (fun hl => ?_) (fun hl => ?_)
  · skip
    first | with_reducible replace hl := of_decide_eq_true hl | with_reducible replace hl := bn_T hl | with_reducible replace hl := bb_T hl | skip
    refine WT_seq ?_
    refine WT_region ?_
    refine WL_v rfl (ov_assign rfl) ?_
    refine WL_nil ?_
    exact WT_ret1 Try.func8 Try.results8 rfl ⟨rfl, hH⟩
  first | with_reducible replace hl := of_decide_eq_false hl | with_reducible replace hl := bn_F hl | with_reducible replace hl := bb_F hl | skip
  refine WT_skip ?_
  refine WT_seq ?_
  refine WT_region ?_
  refine WL_v rfl (ov_move rfl) ?_
  refine WL_call rfl rfl cf_spec_DrawBufferFits (drawBufferFits_ok hH hB) ?_; rintro _ w1 ⟨pv, lv, rfl, h', p, pl, hle, hP, hpl, hL, hll, hH1⟩
  refine WL_v rfl (ov_move rfl) ?_
  refine WL_v rfl (ov_extract rfl rfl) ?_
  refine WL_v rfl (ov_extract rfl rfl) ?_
  refine WL_v rfl (ov_assign rfl) ?_
  refine WL_v rfl (ov_assign rfl) ?_
  refine WL_nil ?_
  refine WT_seq ?_
  refine WT_region ?_
  refine WL_v rfl (ov_move rfl) ?_
  refine WL_v rfl (ov_move rfl) ?_
  refine WL_call rfl rfl cf_impl_BufferFits (bufferFits_ok hH1 hP hL) ?_; rintro _ w2 ⟨rfl, hH2⟩
  refine WL_v rfl (ov_assign rfl) ?_
  refine WL_nil ?_
  refine WT_seq ?_
  refine WT_region ?_
  refine WL_v rfl (ov_move rfl) ?_
  refine WL_v rfl (ov_move rfl) ?_
  refine WL_call rfl rfl cf_spec_BufferFits (sBufferFits_ok hH2 hP hL (by omega)) ?_; rintro _ w3 ⟨rfl, hH3⟩
  refine WL_v rfl (ov_assign rfl) ?_
  refine WL_nil ?_
  refine WT_seq ?_
  refine WT_seq ?_
  refine WT_region ?_
  refine WL_v rfl (ov_move rfl) ?_
  refine WL_v rfl (ov_move rfl) ?_
  refine WL_v rfl (ov_F (ov_neqB rfl rfl Try.underlying4) (by simp)) ?_
  refine WL_v rfl (ov_move rfl) ?_
  refine WL_guardOn rfl rfl ?_
  refine WL_v rfl (ov_move rfl) ?_
  refine WL_guardOn rfl rfl ?_
  refine WL_v rfl (ov_not rfl) ?_
  refine WL_v rfl (ov_pickF rfl rfl) ?_
  refine WL_nil ?_
  refine WT_cond rfl (fun hf => ?_) (fun hf => ?_)
  · skip
    first | with_reducible replace hf := of_decide_eq_true hf | with_reducible replace hf := bn_T hf | with_reducible replace hf := bb_T hf | skip
    refine WT_seq ?_
    refine WT_region ?_
    refine WL_v rfl (ov_move rfl) ?_
    refine WL_v rfl (ov_move rfl) ?_
    refine WL_v rfl (ov_T (ov_eqlB rfl rfl Try.underlying4) (by simp)) ?_
    refine WL_v rfl (ov_assign rfl) ?_
    refine WL_nil ?_
    exact WT_ret1 Try.func8 Try.results8 rfl ⟨rfl, hH3.weak hle⟩
  first | with_reducible replace hf := of_decide_eq_false hf | with_reducible replace hf := bn_F hf | with_reducible replace hf := bb_F hf | skip
  obtain ⟨hv, hne, hpk⟩ := fits_get hf
  have hlen := PlanOk.len hv
  have hel := endsTo_len p p.length
  refine WT_skip ?_
  refine WT_seq ?_
  refine WT_region ?_
  refine WL_v rfl (ov_move rfl) ?_
  refine WL_call rfl rfl cf_impl_BufferEnds (bufferEnds_ok hH3 hP) ?_; rintro ev w4 ⟨X, hX, hH4⟩
  refine WL_v rfl (ov_assign rfl) ?_
  refine WL_nil ?_
  refine WT_seq ?_
  refine WT_seq ?_
  refine WT_region ?_
  refine WL_v rfl (ov_assign rfl) ?_
  refine WL_nil ?_
  refine WT_block ?_
  rw [if_pos hv] at hX
  refine WT_while (fun s : Nat => [(3, pv), (4, lv), (7, ev), (8, .int .i64 (s : Int))]) (fun k w => k ≤ p.length ∧ H w h' (X :: Ls)) (fun k => p.length - k) 0 (by repeat (first | exact trivial | refine ⟨rfl, ?_⟩)) ⟨by omega, hH4⟩ ?_
  clear hH hH1 hH2 hH3 hH4
  rintro k w5 ⟨hk, hH⟩ again
  refine WT_seq ?_
  refine WT_seq ?_
  refine WT_region ?_
  refine WL_v rfl (ov_move rfl) ?_
  refine WL_v rfl (ov_move rfl) ?_
  refine WL_v rfl (ov_len rfl hP.sl st_sl_impl_Node) ?_
  refine WL_v rfl (ov_lss rfl rfl) ?_
  refine WL_nil ?_
  refine WT_cond rfl (fun hc => ?_) (fun hc => ?_)
  · skip
    first | with_reducible replace hc := of_decide_eq_true hc | with_reducible replace hc := bn_T hc | with_reducible replace hc := bb_T hc | skip
    have hkp : k < p.length := by omega
    refine WT_skip ?_
    refine WT_seq ?_
    refine WT_block ?_
    refine WT_seq ?_
    refine WT_region ?_
    refine WL_v rfl (ov_assign rfl) ?_
    refine WL_nil ?_
    refine WT_block ?_
    refine WT_while (fun s : Nat => [(3, pv), (4, lv), (7, ev), (8, .int .i64 (k : Int)), (9, .int .i64 (s : Int))]) (fun j w => j ≤ k ∧ H w h' (X :: Ls)) (fun j => k - j) 0 (by repeat (first | exact trivial | refine ⟨rfl, ?_⟩)) ⟨by omega, hH⟩ ?_
    clear hH
    rintro j w6 ⟨hj, hH⟩ again2
    refine WT_seq ?_
    refine WT_seq ?_
    refine WT_region ?_
    refine WL_v rfl (ov_move rfl) ?_
    refine WL_v rfl (ov_move rfl) ?_
    refine WL_v rfl (ov_lss rfl rfl) ?_
    refine WL_nil ?_
    refine WT_cond rfl (fun hc2 => ?_) (fun hc2 => ?_)
    · skip
      first | with_reducible replace hc2 := of_decide_eq_true hc2 | with_reducible replace hc2 := bn_T hc2 | with_reducible replace hc2 := bb_T hc2 | skip
      have hjk : j < k := by omega
      have hje : j < (endsTo p p.length).length := by omega
      have hjl : j < pl.length := by omega
      have hkl : k < pl.length := by omega
      by_cases hge : (k : Int) ≤ (endsTo p p.length)[j]
      case neg =>
        refine WT_skip ?_
        refine WT_seq ?_
        refine WT_block ?_
        refine WT_seq ?_
        refine WT_quiet mixed (by kernel_rfl) hH ?_
        clear hH
        refine WQ_v rfl (fun _ _ => ov_move rfl) ?_
        refine WQ_v rfl (fun _ _ => ov_move rfl) ?_
        refine WQ_v rfl (fun _ _ => ov_index rfl rfl st_sl_int hX.sl hje) ?_
        refine WQ_v rfl (fun _ hH => ov_load rfl one_int (hX.cell hH (i := 0) rfl hje)) ?_
        refine WQ_v rfl (fun _ _ => ov_move rfl) ?_
        refine WQ_v rfl (fun _ _ => ov_F (ov_geq rfl rfl) (by first | exact decide_eq_false hge | exact nb_F hge | exact mb_F hge | exact hge | (simp only [decide_eq_false_iff_not]; omega) | simpa using hge)) ?_
        refine WQ_v rfl (fun _ _ => ov_move rfl) ?_
        refine WQ_guardOff rfl rfl rfl rfl ?_
        refine WQ_guardOff rfl rfl rfl rfl ?_
        refine WQ_guardOff rfl rfl rfl rfl ?_
        refine WQ_guardOff rfl rfl rfl rfl ?_
        refine WQ_guardOff rfl rfl rfl rfl ?_
        refine WQ_guardOff rfl rfl rfl rfl ?_
        refine WQ_guardOff rfl rfl rfl rfl ?_
        refine WQ_guardOff rfl rfl rfl rfl ?_
        refine WQ_guardOff rfl rfl rfl rfl ?_
        refine WQ_v rfl (fun _ _ => ov_pickF rfl rfl) ?_
        refine WQ_nil ?_
        intro w8 hH
        refine WT_condF rfl ?_
        refine WT_skip ?_
        refine WT_inBlock ?_
        refine WT_region ?_
        refine WL_v rfl (ov_move rfl) ?_
        refine WL_v rfl (ov_add rfl rfl (by omega)) ?_
        refine WL_v rfl (ov_assign rfl) ?_
        refine WL_nil ?_
        refine again2 (j + 1) _ _ (by omega) (by repeat (first | exact trivial | refine ⟨rfl, ?_⟩)) ⟨by omega, hH⟩
      have hcl := (hpk k hkp).2 j hjk
      unfold clash at hcl
      rw [getD_elem hje, getD_elem hjl, getD_elem hkl] at hcl
      refine WT_skip ?_
      refine WT_seq ?_
      refine WT_block ?_
      refine WT_seq ?_
      refine WT_quiet mixed (by kernel_rfl) hH ?_
      clear hH
      refine WQ_v rfl (fun _ _ => ov_move rfl) ?_
      refine WQ_v rfl (fun _ _ => ov_move rfl) ?_
      refine WQ_v rfl (fun _ _ => ov_index rfl rfl st_sl_int hX.sl hje) ?_
      refine WQ_v rfl (fun _ hH => ov_load rfl one_int (hX.cell hH (i := 0) rfl hje)) ?_
      refine WQ_v rfl (fun _ _ => ov_move rfl) ?_
      refine WQ_v rfl (fun _ _ => ov_T (ov_geq rfl rfl) (by first | exact decide_eq_true hge | exact nb_T hge | exact mb_T hge | exact hge | (simp only [decide_eq_true_eq]; omega) | simpa using hge)) ?_
      refine WQ_v rfl (fun _ _ => ov_move rfl) ?_
      refine WQ_guardOn rfl rfl ?_
      refine WQ_v rfl (fun _ _ => ov_move rfl) ?_
      refine WQ_guardOn rfl rfl ?_
      refine WQ_v rfl (fun _ _ => ov_move rfl) ?_
      refine WQ_guardOn rfl rfl ?_
      refine WQ_v rfl (fun _ _ => ov_index rfl rfl st_sl_int hL.sl hjl) ?_
      refine WQ_guardOn rfl rfl ?_
      refine WQ_v rfl (fun _ hH => ov_load rfl one_int (hL.cell hH hjl)) ?_
      refine WQ_guardOn rfl rfl ?_
      refine WQ_v rfl (fun _ _ => ov_move rfl) ?_
      refine WQ_guardOn rfl rfl ?_
      refine WQ_v rfl (fun _ _ => ov_move rfl) ?_
      refine WQ_guardOn rfl rfl ?_
      refine WQ_v rfl (fun _ _ => ov_index rfl rfl st_sl_int hL.sl hkl) ?_
      refine WQ_guardOn rfl rfl ?_
      refine WQ_v rfl (fun _ hH => ov_load rfl one_int (hL.cell hH hkl)) ?_
      refine WQ_guardOn rfl rfl ?_
      refine WQ_v rfl (fun _ _ => ov_F (ov_eql rfl rfl) (decide_eq_false fun he => hcl ⟨hge, he⟩)) ?_
      refine WQ_v rfl (fun _ _ => ov_pickT rfl rfl) ?_
      refine WQ_nil ?_
      intro w8 hH
      refine WT_condF rfl ?_
      refine WT_skip ?_
      refine WT_inBlock ?_
      refine WT_region ?_
      refine WL_v rfl (ov_move rfl) ?_
      refine WL_v rfl (ov_add rfl rfl (by omega)) ?_
      refine WL_v rfl (ov_assign rfl) ?_
      refine WL_nil ?_
      refine again2 (j + 1) _ _ (by omega) (by repeat (first | exact trivial | refine ⟨rfl, ?_⟩)) ⟨by omega, hH⟩
    first | with_reducible replace hc2 := of_decide_eq_false hc2 | with_reducible replace hc2 := bn_F hc2 | with_reducible replace hc2 := bb_F hc2 | skip
    obtain rfl : j = k := by omega
    refine WT_exit rfl ?_
    refine WT_inBlock ?_
    refine WT_region ?_
    refine WL_v rfl (ov_move rfl) ?_
    refine WL_v rfl (ov_add rfl rfl (by omega)) ?_
    refine WL_v rfl (ov_assign rfl) ?_
    refine WL_nil ?_
    refine again (j + 1) _ _ (by omega) (by repeat (first | exact trivial | refine ⟨rfl, ?_⟩)) ⟨by omega, hH⟩
  first | with_reducible replace hc := of_decide_eq_false hc | with_reducible replace hc := bn_F hc | with_reducible replace hc := bb_F hc | skip
  refine WT_exit rfl ?_
  refine WT_seq ?_
  refine WT_region ?_
  refine WL_v rfl (ov_move rfl) ?_
  refine WL_v rfl (ov_len rfl hL.sl st_sl_int) ?_
  refine WL_v rfl (ov_move rfl) ?_
  refine WL_v rfl (ov_len rfl hP.sl st_sl_impl_Node) ?_
  refine WL_v rfl (ov_T (ov_eql rfl rfl) (decide_eq_true (by omega))) ?_
  refine WL_v rfl (ov_assign rfl) ?_
  refine WL_nil ?_
  exact WT_ret1 Try.func8 Try.results8 rfl ⟨rfl, (hH.weak hle).drop⟩

theorem fnBufferGive_walk (hH : H w h Ls) {cv : Value} {bs : List Int} (hB : Bytes h cv bs) : Rets Try.prog 13 #[cv] w fun v w' => v = .bool true ∧ H w' h Ls := by
  refine rets_enter Try.func13 rfl Try.ntmps13 (by simp) ?_
  refine WT_seq ?_
  refine WT_region ?_
  refine WL_v rfl (ov_assign rfl) ?_
  refine WL_nil ?_
  refine WT_seq ?_
  refine WT_seq ?_
  refine WT_region ?_
  refine WL_v rfl (ov_move rfl) ?_
  refine WL_v rfl (ov_len rfl hB.sl st_sl_uint8) ?_
  refine WL_v rfl (ov_gtr rfl rfl) ?_
  refine WL_nil ?_
  refine WT_cond rfl (fun hl => ?_) (fun hl => ?_)
  · skip
    first | with_reducible replace hl := of_decide_eq_true hl | with_reducible replace hl := bn_T hl | with_reducible replace hl := bb_T hl | skip
    refine WT_seq ?_
    refine WT_region ?_
    refine WL_v rfl (ov_assign rfl) ?_
    refine WL_nil ?_
    exact WT_ret1 Try.func13 Try.results13 rfl ⟨rfl, hH⟩
  first | with_reducible replace hl := of_decide_eq_false hl | with_reducible replace hl := bn_F hl | with_reducible replace hl := bb_F hl | skip
  refine WT_skip ?_
  refine WT_seq ?_
  refine WT_region ?_
  refine WL_v rfl (ov_move rfl) ?_
  refine WL_call rfl rfl cf_spec_DrawBufferGive (drawBufferGive_ok hH hB) ?_; rintro pv w1 ⟨h', p, hle, hP, hpl, hH1⟩
  refine WL_v rfl (ov_assign rfl) ?_
  refine WL_nil ?_
  refine WT_seq ?_
  refine WT_region ?_
  refine WL_v rfl (ov_move rfl) ?_
  refine WL_call rfl rfl cf_impl_BufferGive (bufferGive_ok hH1 hP) ?_; rintro ov w2 ⟨X, hX, hH2⟩
  refine WL_v rfl (ov_assign rfl) ?_
  refine WL_nil ?_
  refine WT_seq ?_
  refine WT_region ?_
  refine WL_v rfl (ov_move rfl) ?_
  refine WL_call rfl rfl cf_spec_BufferGive (sBufferGive_ok hH2 hP (by omega)) ?_; rintro sv w3 ⟨Y, hY, hH3⟩
  refine WL_v rfl (ov_assign rfl) ?_
  refine WL_nil ?_
  refine WT_seq ?_
  refine WT_seq ?_
  refine WT_region ?_
  refine WL_v rfl (ov_move rfl) ?_
  refine WL_v rfl (ov_move rfl) ?_
  refine WL_call rfl rfl cf_laws_sameRow (sameRow_ok hH3 (hX.rdl (i := 1) rfl) (hY.rdl (i := 0) rfl)) ?_; rintro _ w4 ⟨rfl, hH4⟩
  refine WL_v rfl (ov_F (ov_not rfl) (by simp)) ?_
  refine WL_v rfl (ov_move rfl) ?_
  refine WL_guardOn rfl rfl ?_
  refine WL_v rfl (ov_move rfl) ?_
  refine WL_guardOn rfl rfl ?_
  refine WL_call rfl rfl cf_spec_PlanValid (sPlanValid_ok hH4 hP (by omega)) ?_; rintro _ w5 ⟨rfl, hH5⟩
  refine WL_guardOn rfl rfl ?_
  refine WL_v rfl (ov_not rfl) ?_
  refine WL_v rfl (ov_pickF rfl rfl) ?_
  refine WL_nil ?_
  refine WT_cond rfl (fun hv => ?_) (fun hv => ?_)
  · skip
    first | with_reducible replace hv := of_decide_eq_true hv | with_reducible replace hv := bn_T hv | with_reducible replace hv := bb_T hv | skip
    refine WT_seq ?_
    refine WT_region ?_
    refine WL_v rfl (ov_move rfl) ?_
    refine WL_v rfl (ov_move rfl) ?_
    refine WL_call rfl rfl cf_laws_sameRow (sameRow_ok hH5 (hX.rdl (i := 1) rfl) (hY.rdl (i := 0) rfl)) ?_; rintro _ w6 ⟨rfl, hH6⟩
    refine WL_v rfl (ov_assign rfl) ?_
    refine WL_nil ?_
    exact WT_ret1 Try.func13 Try.results13 rfl ⟨by simp, (hH6.weak hle).drop.drop⟩
  first | with_reducible replace hv := of_decide_eq_false hv | with_reducible replace hv := bn_F hv | with_reducible replace hv := bb_F hv | skip
  obtain ⟨h2, hle2, hH6, hI⟩ := hX.freezeP hH5.swap
  refine WT_skip ?_
  refine WT_seq ?_
  refine WT_region ?_
  refine WL_v rfl (ov_move rfl) ?_
  refine WL_v rfl (ov_move rfl) ?_
  refine WL_call rfl rfl cf_impl_BufferFits (bufferFits_ok hH6 (hP.mono hle2) hI) ?_; rintro _ w7 ⟨rfl, hH7⟩
  refine WL_v rfl (ov_assign rfl) ?_
  refine WL_nil ?_
  exact WT_ret1 Try.func13 Try.results13 rfl ⟨by rw [give_fits hv], (hH7.weak (hle.trans hle2)).drop⟩

theorem fnBufferGiveMost_walk (hH : H w h Ls) {cv : Value} {bs : List Int} (hB : Bytes h cv bs) : Rets Try.prog 14 #[cv] w fun v w' => v = .bool true ∧ H w' h Ls := by
  refine rets_enter Try.func14 rfl Try.ntmps14 (by simp) ?_
  refine WT_seq ?_
  refine WT_region ?_
  refine WL_v rfl (ov_assign rfl) ?_
  refine WL_nil ?_
  refine WT_seq ?_
  refine WT_seq ?_
  refine WT_region ?_
  refine WL_v rfl (ov_move rfl) ?_
  refine WL_v rfl (ov_len rfl hB.sl st_sl_uint8) ?_
  refine WL_v rfl (ov_gtr rfl rfl) ?_
  refine WL_nil ?_
  refine WT_cond rfl (fun hl => ?_) (fun hl => ?_)
  · skip
    first | with_reducible replace hl := of_decide_eq_true hl | with_reducible replace hl := bn_T hl | with_reducible replace hl := bb_T hl | skip
    refine WT_seq ?_
    refine WT_region ?_
    refine WL_v rfl (ov_assign rfl) ?_
    refine WL_nil ?_
    exact WT_ret1 Try.func14 Try.results14 rfl ⟨rfl, hH⟩
  first | with_reducible replace hl := of_decide_eq_false hl | with_reducible replace hl := bn_F hl | with_reducible replace hl := bb_F hl | skip
  refine WT_skip ?_
  refine WT_seq ?_
  refine WT_region ?_
  refine WL_v rfl (ov_move rfl) ?_
  refine WL_call rfl rfl cf_spec_DrawBufferGive (drawBufferGive_ok hH hB) ?_; rintro pv w1 ⟨h', p, hle, hP, hpl, hH1⟩
  refine WL_v rfl (ov_assign rfl) ?_
  refine WL_nil ?_
  refine WT_seq ?_
  refine WT_region ?_
  refine WL_v rfl (ov_move rfl) ?_
  refine WL_call rfl rfl cf_impl_BufferGive (bufferGive_ok hH1 hP) ?_; rintro ov w2 ⟨X, hX, hH2⟩
  refine WL_v rfl (ov_assign rfl) ?_
  refine WL_nil ?_
  refine WT_seq ?_
  refine WT_region ?_
  refine WL_v rfl (ov_move rfl) ?_
  refine WL_call rfl rfl cf_spec_BufferGive (sBufferGive_ok hH2 hP (by omega)) ?_; rintro sv w3 ⟨Y, hY, hH3⟩
  refine WL_v rfl (ov_assign rfl) ?_
  refine WL_nil ?_
  refine WT_seq ?_
  refine WT_seq ?_
  refine WT_region ?_
  refine WL_v rfl (ov_move rfl) ?_
  refine WL_v rfl (ov_move rfl) ?_
  refine WL_call rfl rfl cf_laws_sameRow (sameRow_ok hH3 (hX.rdl (i := 1) rfl) (hY.rdl (i := 0) rfl)) ?_; rintro _ w4 ⟨rfl, hH4⟩
  refine WL_v rfl (ov_F (ov_not rfl) (by simp)) ?_
  refine WL_v rfl (ov_move rfl) ?_
  refine WL_guardOn rfl rfl ?_
  refine WL_v rfl (ov_move rfl) ?_
  refine WL_guardOn rfl rfl ?_
  refine WL_v rfl (ov_len rfl hY.sl st_sl_int) ?_
  refine WL_guardOn rfl rfl ?_
  refine WL_v rfl (ov_eql rfl rfl) ?_
  refine WL_v rfl (ov_pickF rfl rfl) ?_
  refine WL_nil ?_
  refine WT_cond rfl (fun h0 => ?_) (fun h0 => ?_)
  · skip
    first | with_reducible replace h0 := of_decide_eq_true h0 | with_reducible replace h0 := bn_T h0 | with_reducible replace h0 := bb_T h0 | skip
    refine WT_seq ?_
    refine WT_region ?_
    refine WL_v rfl (ov_move rfl) ?_
    refine WL_v rfl (ov_move rfl) ?_
    refine WL_call rfl rfl cf_laws_sameRow (sameRow_ok hH4 (hX.rdl (i := 1) rfl) (hY.rdl (i := 0) rfl)) ?_; rintro _ w6 ⟨rfl, hH6⟩
    refine WL_v rfl (ov_assign rfl) ?_
    refine WL_nil ?_
    exact WT_ret1 Try.func14 Try.results14 rfl ⟨by simp, (hH6.weak hle).drop.drop⟩
  first | with_reducible replace h0 := of_decide_eq_false h0 | with_reducible replace h0 := bn_F h0 | with_reducible replace h0 := bb_F h0 | skip
  have hgl := giveOf_len p
  have hv : planOk p = true := by
    cases hp : planOk p with
    | true => rfl
    | false => rw [hp] at hgl; simp at hgl; rw [hgl] at h0; exact absurd rfl h0
  rw [if_pos hv] at hgl
  have hlen := PlanOk.len hv
  have hgo : giveOf p = giveTo (endsTo p p.length) p.length := by unfold giveOf; rw [if_pos hv]
  refine WT_skip ?_
  refine WT_seq ?_
  refine WT_region ?_
  refine WL_v rfl (ov_assign rfl) ?_
  refine WL_nil ?_
  refine WT_seq ?_
  refine WT_seq ?_
  refine WT_region ?_
  refine WL_v rfl (ov_assign rfl) ?_
  refine WL_nil ?_
  refine WT_block ?_
  refine WT_while (fun s : Nat => [(3, pv), (4, ov), (6, .int .i64 (mostOf ((giveOf p).take s))), (7, .int .i64 (s : Int))]) (fun k w => k ≤ p.length ∧ H w h' (Y :: X :: Ls)) (fun k => p.length - k) 0 (by repeat (first | exact trivial | refine ⟨rfl, ?_⟩)) ⟨by omega, hH4⟩ ?_
  clear hH hH1 hH2 hH3 hH4
  rintro k w5 ⟨hk, hH⟩ again
  refine WT_seq ?_
  refine WT_seq ?_
  refine WT_region ?_
  refine WL_v rfl (ov_move rfl) ?_
  refine WL_v rfl (ov_move rfl) ?_
  refine WL_v rfl (ov_len rfl hX.sl st_sl_int) ?_
  refine WL_v rfl (ov_lss rfl rfl) ?_
  refine WL_nil ?_
  refine WT_cond rfl (fun hc => ?_) (fun hc => ?_)
  · skip
    first | with_reducible replace hc := of_decide_eq_true hc | with_reducible replace hc := bn_T hc | with_reducible replace hc := bb_T hc | skip
    have hkg : k < (giveOf p).length := by omega
    refine WT_skip ?_
    refine WT_seq ?_
    refine WT_block ?_
    refine WT_region ?_
    refine WL_v rfl (ov_move rfl) ?_
    refine WL_v rfl (ov_move rfl) ?_
    refine WL_v rfl (ov_move rfl) ?_
    refine WL_v rfl (ov_index rfl rfl st_sl_int hX.sl hkg) ?_
    refine WL_v rfl (ov_load rfl one_int (hX.cell hH (i := 1) rfl hkg)) ?_
    refine WL_v rfl (ov_as (ov_max rfl rfl) (congrArg (Value.int .i64) (by rw [List.take_succ_eq_append_getElem hkg, mostOf_snoc] : max (mostOf ((giveOf p).take k)) (giveOf p)[k] = mostOf ((giveOf p).take (k + 1))))) ?_
    refine WL_v rfl (ov_assign rfl) ?_
    refine WL_nil ?_
    refine WT_inBlock ?_
    refine WT_region ?_
    refine WL_v rfl (ov_move rfl) ?_
    refine WL_v rfl (ov_add rfl rfl (by omega)) ?_
    refine WL_v rfl (ov_assign rfl) ?_
    refine WL_nil ?_
    refine again (k + 1) _ _ (by omega) (by repeat (first | exact trivial | refine ⟨rfl, ?_⟩)) ⟨by omega, hH⟩
  first | with_reducible replace hc := of_decide_eq_false hc | with_reducible replace hc := bn_F hc | with_reducible replace hc := bb_F hc | skip
  obtain rfl : k = p.length := by omega
  have htk : (giveOf p).take p.length = giveOf p := List.take_of_length_le (by omega)
  rw [htk]
  have hmo := give_most (endsTo p p.length) (n := p.length) (by omega) (mostOf (giveOf p)) (by rw [← hgo]; exact mostOf_eq _) (by rw [← hgo]; exact fun a ha => le_mostOf ha)
  have hrr := rowsTo_rg (endsTo p p.length) p.length
  refine WT_exit rfl ?_
  refine WT_seq ?_
  refine WT_region ?_
  refine WL_v rfl (ov_move rfl) ?_
  refine WL_v rfl (ov_add rfl rfl (by omega)) ?_
  refine WL_v rfl (ov_move rfl) ?_
  refine WL_call rfl rfl cf_impl_BufferMost (bufferMost_ok hH hP) ?_; rintro _ w6 ⟨rfl, hH6⟩
  refine WL_v rfl (ov_T (ov_eql rfl rfl) (decide_eq_true (by rw [if_pos hv]; exact hmo))) ?_
  refine WL_v rfl (ov_assign rfl) ?_
  refine WL_nil ?_
  exact WT_ret1 Try.func14 Try.results14 rfl ⟨rfl, (hH6.weak hle).drop.drop⟩

theorem fnBufferFitsAll_walk (hH : H w h Ls) {cv : Value} {bs : List Int} (hB : Bytes h cv bs) : Rets Try.prog 12 #[cv] w fun v w' => v = .bool true ∧ H w' h Ls := by
  refine rets_enter Try.func12 rfl Try.ntmps12 (by simp) ?_
  refine WT_seq ?_
  refine WT_region ?_
  refine WL_v rfl (ov_assign rfl) ?_
  refine WL_nil ?_
  refine WT_seq ?_
  refine WT_seq ?_
  refine WT_region ?_
  refine WL_v rfl (ov_move rfl) ?_
  refine WL_v rfl (ov_len rfl hB.sl st_sl_uint8) ?_
  refine WL_v rfl (ov_gtr rfl rfl) ?_
  refine WL_nil ?_
  refine WT_cond rfl (fun hl => ?_) (fun hl => ?_)
  · skip
    first | with_reducible replace hl := of_decide_eq_true hl | with_reducible replace hl := bn_T hl | with_reducible replace hl := bb_T hl | skip
    refine WT_seq ?_
    refine WT_region ?_
    refine WL_v rfl (ov_assign rfl) ?_
    refine WL_nil ?_
    exact WT_ret1 Try.func12 Try.results12 rfl ⟨rfl, hH⟩
  first | with_reducible replace hl := of_decide_eq_false hl | with_reducible replace hl := bn_F hl | with_reducible replace hl := bb_F hl | skip
  refine WT_skip ?_
  refine WT_seq ?_
  refine WT_region ?_
  refine WL_v rfl (ov_move rfl) ?_
  refine WL_call rfl rfl cf_spec_DrawBufferGive (drawBufferGive_ok hH hB) ?_; rintro pv w1 ⟨h', p, hle, hP, hpl, hH1⟩
  refine WL_v rfl (ov_assign rfl) ?_
  refine WL_nil ?_
  refine WT_seq ?_
  refine WT_region ?_
  refine WL_v rfl (ov_move rfl) ?_
  by_cases hv0 : planOk p = true ∧ 0 < p.length
  case neg =>
    by_cases hv : planOk p = true
    · skip
      have hp0 : p.length = 0 := Nat.eq_zero_of_not_pos fun hh => hv0 ⟨hv, hh⟩
      refine WL_call rfl rfl cf_impl_BufferGive (bufferGive_ok hH1 hP) ?_; rintro ov w2 ⟨X, hX, hH2⟩
      refine WL_v rfl (ov_assign rfl) ?_
      refine WL_nil ?_
      refine WT_seq ?_
      refine WT_region ?_
      refine WL_v rfl (ov_move rfl) ?_
      refine WL_call rfl rfl cf_spec_BufferGive (sBufferGive_ok hH2 hP (by omega)) ?_; rintro sv w3 ⟨Y, hY, hH3⟩
      refine WL_v rfl (ov_assign rfl) ?_
      refine WL_nil ?_
      refine WT_seq ?_
      refine WT_seq ?_
      refine WT_region ?_
      refine WL_v rfl (ov_move rfl) ?_
      refine WL_v rfl (ov_move rfl) ?_
      refine WL_call rfl rfl cf_laws_sameRow (sameRow_ok hH3 (hX.rdl (i := 1) rfl) (hY.rdl (i := 0) rfl)) ?_; rintro _ w4 ⟨rfl, hH4⟩
      refine WL_v rfl (ov_F (ov_not rfl) (by simp)) ?_
      refine WL_v rfl (ov_move rfl) ?_
      refine WL_guardOn rfl rfl ?_
      refine WL_v rfl (ov_move rfl) ?_
      refine WL_guardOn rfl rfl ?_
      refine WL_call rfl rfl cf_spec_PlanValid (sPlanValid_ok hH4 hP (by omega)) ?_; rintro _ w5 ⟨rfl, hH5⟩
      refine WL_guardOn rfl rfl ?_
      refine WL_v rfl (ov_F (ov_not rfl) (by first | exact decide_eq_false hv | exact nb_F hv | exact mb_F hv | exact hv | (simp only [decide_eq_false_iff_not]; omega) | simpa using hv)) ?_
      refine WL_v rfl (ov_pickF rfl rfl) ?_
      refine WL_v rfl (ov_move rfl) ?_
      refine WL_guardOn rfl rfl ?_
      refine WL_v rfl (ov_move rfl) ?_
      refine WL_guardOn rfl rfl ?_
      refine WL_v rfl (ov_len rfl hP.sl st_sl_impl_Node) ?_
      refine WL_guardOn rfl rfl ?_
      refine WL_v rfl (ov_eql rfl rfl) ?_
      refine WL_v rfl (ov_pickF rfl rfl) ?_
      refine WL_nil ?_
      refine WT_cond rfl (fun hx => ?_) (fun hx => ?_)
      · skip
        first | with_reducible replace hx := of_decide_eq_true hx | with_reducible replace hx := bn_T hx | with_reducible replace hx := bb_T hx | skip
        refine WT_seq ?_
        refine WT_region ?_
        refine WL_v rfl (ov_move rfl) ?_
        refine WL_v rfl (ov_move rfl) ?_
        refine WL_call rfl rfl cf_laws_sameRow (sameRow_ok hH5 (hX.rdl (i := 1) rfl) (hY.rdl (i := 0) rfl)) ?_; rintro _ w6 ⟨rfl, hH6⟩
        refine WL_v rfl (ov_assign rfl) ?_
        refine WL_nil ?_
        exact WT_ret1 Try.func12 Try.results12 rfl ⟨by simp, (hH6.weak hle).drop.drop⟩
      first | with_reducible replace hx := of_decide_eq_false hx | with_reducible replace hx := bn_F hx | with_reducible replace hx := bb_F hx | skip
      omega
    have hv' : planOk p = false := by simpa using hv
    refine WL_call rfl rfl cf_impl_BufferGive (bufferGive_ok hH1 hP) ?_; rintro ov w2 ⟨X, hX, hH2⟩
    refine WL_v rfl (ov_assign rfl) ?_
    refine WL_nil ?_
    refine WT_seq ?_
    refine WT_region ?_
    refine WL_v rfl (ov_move rfl) ?_
    refine WL_call rfl rfl cf_spec_BufferGive (sBufferGive_ok hH2 hP (by omega)) ?_; rintro sv w3 ⟨Y, hY, hH3⟩
    refine WL_v rfl (ov_assign rfl) ?_
    refine WL_nil ?_
    refine WT_seq ?_
    refine WT_seq ?_
    refine WT_region ?_
    refine WL_v rfl (ov_move rfl) ?_
    refine WL_v rfl (ov_move rfl) ?_
    refine WL_call rfl rfl cf_laws_sameRow (sameRow_ok hH3 (hX.rdl (i := 1) rfl) (hY.rdl (i := 0) rfl)) ?_; rintro _ w4 ⟨rfl, hH4⟩
    refine WL_v rfl (ov_F (ov_not rfl) (by simp)) ?_
    refine WL_v rfl (ov_move rfl) ?_
    refine WL_guardOn rfl rfl ?_
    refine WL_v rfl (ov_move rfl) ?_
    refine WL_guardOn rfl rfl ?_
    refine WL_call rfl rfl cf_spec_PlanValid (sPlanValid_ok hH4 hP (by omega)) ?_; rintro _ w5 ⟨rfl, hH5⟩
    refine WL_guardOn rfl rfl ?_
    refine WL_v rfl (ov_T (ov_not rfl) (by first | exact decide_eq_true hv' | exact nb_T hv' | exact mb_T hv' | exact hv' | (simp only [decide_eq_true_eq]; omega) | simpa using hv')) ?_
    refine WL_v rfl (ov_pickF rfl rfl) ?_
    refine WL_v rfl (ov_move rfl) ?_
    refine WL_guardOff rfl rfl rfl rfl ?_
    refine WL_guardOff rfl rfl rfl rfl ?_
    refine WL_guardOff rfl rfl rfl rfl ?_
    refine WL_v rfl (ov_pickT rfl rfl) ?_
    refine WL_nil ?_
    refine WT_condT rfl ?_
    refine WT_seq ?_
    refine WT_region ?_
    refine WL_v rfl (ov_move rfl) ?_
    refine WL_v rfl (ov_move rfl) ?_
    refine WL_call rfl rfl cf_laws_sameRow (sameRow_ok hH5 (hX.rdl (i := 1) rfl) (hY.rdl (i := 0) rfl)) ?_; rintro _ w6 ⟨rfl, hH6⟩
    refine WL_v rfl (ov_assign rfl) ?_
    refine WL_nil ?_
    exact WT_ret1 Try.func12 Try.results12 rfl ⟨by simp, (hH6.weak hle).drop.drop⟩
  obtain ⟨hv, hp0⟩ := hv0
  have hlen := PlanOk.len hv
  have hgl := giveOf_len p
  rw [if_pos hv] at hgl
  refine WL_call rfl rfl cf_impl_BufferGive (bufferGive_ok hH1 hP) ?_; rintro ov w2 ⟨X, hX, hH2⟩
  refine WL_v rfl (ov_assign rfl) ?_
  refine WL_nil ?_
  refine WT_seq ?_
  refine WT_region ?_
  refine WL_v rfl (ov_move rfl) ?_
  refine WL_call rfl rfl cf_spec_BufferGive (sBufferGive_ok hH2 hP (by omega)) ?_; rintro sv w3 ⟨Y, hY, hH3⟩
  refine WL_v rfl (ov_assign rfl) ?_
  refine WL_nil ?_
  refine WT_seq ?_
  refine WT_seq ?_
  refine WT_region ?_
  refine WL_v rfl (ov_move rfl) ?_
  refine WL_v rfl (ov_move rfl) ?_
  refine WL_call rfl rfl cf_laws_sameRow (sameRow_ok hH3 (hX.rdl (i := 1) rfl) (hY.rdl (i := 0) rfl)) ?_; rintro _ w4 ⟨rfl, hH4⟩
  refine WL_v rfl (ov_F (ov_not rfl) (by simp)) ?_
  refine WL_v rfl (ov_move rfl) ?_
  refine WL_guardOn rfl rfl ?_
  refine WL_v rfl (ov_move rfl) ?_
  refine WL_guardOn rfl rfl ?_
  refine WL_call rfl rfl cf_spec_PlanValid (sPlanValid_ok hH4 hP (by omega)) ?_; rintro _ w5 ⟨rfl, hH5⟩
  refine WL_guardOn rfl rfl ?_
  refine WL_v rfl (ov_F (ov_not rfl) (by first | exact decide_eq_false hv | exact nb_F hv | exact mb_F hv | exact hv | (simp only [decide_eq_false_iff_not]; omega) | simpa using hv)) ?_
  refine WL_v rfl (ov_pickF rfl rfl) ?_
  refine WL_v rfl (ov_move rfl) ?_
  refine WL_guardOn rfl rfl ?_
  refine WL_v rfl (ov_move rfl) ?_
  refine WL_guardOn rfl rfl ?_
  refine WL_v rfl (ov_len rfl hP.sl st_sl_impl_Node) ?_
  refine WL_guardOn rfl rfl ?_
  refine WL_v rfl (ov_F (ov_eql rfl rfl) (decide_eq_false (by omega))) ?_
  refine WL_v rfl (ov_pickF rfl rfl) ?_
  refine WL_nil ?_
  refine WT_condF rfl ?_
  refine WT_skip ?_
  refine WT_seq ?_
  refine WT_region ?_
  refine WL_bsI0 rfl hH5 run_bs_int0 ?_; rintro Z0 zv0 w6 hZ0 hH6
  refine WL_v rfl (ov_assign rfl) ?_
  refine WL_nil ?_
  refine WT_seq ?_
  refine WT_seq ?_
  refine WT_region ?_
  refine WL_v rfl (ov_assign rfl) ?_
  refine WL_nil ?_
  refine WT_block ?_
  refine WT_while (fun s : Nat × Value => [(3, pv), (4, ov), (6, s.2), (7, .int .i64 (s.1 : Int))]) (fun s w => s.1 ≤ p.length ∧ ∃ Z, IRow Z 3 s.2 (toI (List.range s.1)) ∧ H w h' (Z :: Y :: X :: Ls)) (fun s => p.length - s.1) (0, zv0) (by repeat (first | exact trivial | refine ⟨rfl, ?_⟩)) ⟨by omega, Z0, hZ0, hH6⟩ ?_
  clear hH hH1 hH2 hH3 hH4 hH5 hH6 hZ0
  rintro ⟨k, zv⟩ w7 ⟨hk, Z, hZ, hH⟩ again
  simp only at hk hZ
  have hrl : (toI (List.range k)).length = k := by rw [toI_len, List.length_range]
  refine WT_seq ?_
  refine WT_seq ?_
  refine WT_region ?_
  refine WL_v rfl (ov_move rfl) ?_
  refine WL_v rfl (ov_move rfl) ?_
  refine WL_v rfl (ov_len rfl hP.sl st_sl_impl_Node) ?_
  refine WL_v rfl (ov_lss rfl rfl) ?_
  refine WL_nil ?_
  refine WT_cond rfl (fun hc => ?_) (fun hc => ?_)
  · skip
    first | with_reducible replace hc := of_decide_eq_true hc | with_reducible replace hc := bn_T hc | with_reducible replace hc := bb_T hc | skip
    simp only at hc
    refine WT_skip ?_
    refine WT_seq ?_
    refine WT_block ?_
    refine WT_region ?_
    refine WL_v rfl (ov_move rfl) ?_
    refine WL_v rfl (ov_move rfl) ?_
    refine WL_bsI rfl hH rfl (run_bs_int _) ?_; rintro A av w8 hA hH8
    refine WL_appI (i := 1) (j := 0) rfl hH8 rfl rfl st_sl_int rfl hZ rfl hA (by rw [hrl]; simp only [List.length_cons, List.length_nil]; omega) (by rw [hrl]; simp only [List.length_cons, List.length_nil]; omega) ?_; rintro Z2 zv2 w9 hZ2 hH9
    refine WL_v rfl (ov_assign rfl) ?_
    refine WL_nil ?_
    refine WT_inBlock ?_
    refine WT_region ?_
    refine WL_v rfl (ov_move rfl) ?_
    refine WL_v rfl (ov_add rfl rfl (by omega)) ?_
    refine WL_v rfl (ov_assign rfl) ?_
    refine WL_nil ?_
    refine again (k + 1, zv2) _ _ (by simp only; omega) (by repeat (first | exact trivial | refine ⟨rfl, ?_⟩)) ⟨by simp only; omega, Z2, by rw [List.range_succ, toI_snoc]; exact hZ2, hH9.drop⟩
  first | with_reducible replace hc := of_decide_eq_false hc | with_reducible replace hc := bn_F hc | with_reducible replace hc := bb_F hc | skip
  simp only at hc
  obtain rfl : k = p.length := by omega
  obtain ⟨h2, hle2, hH2, hI⟩ := hZ.freezeP hH
  have hI2 := hI.reslice (lo := 0) (hi := p.length - 1) (by omega) (by omega)
  have hf1 : fitsPl p (toI (List.range p.length)) = true := all_fits hv
  have hf2 : fitsPl p (((toI (List.range p.length)).drop 0).take (p.length - 1 - 0)) = false := by
    unfold fitsPl
    rw [decide_eq_false (fun hh => by have := hh.1; simp [hrl] at this; omega), Bool.and_false]
  have hc1 := bufferFits_ok hH2 (hP.mono hle2) hI
  rw [hf1] at hc1
  have hc2 : ∀ w, H w h2 (Y :: X :: Ls) → Rets Try.prog 32 #[pv, reslice zv 0 (p.length - 1) 1] w fun v w' => v = .bool false ∧ H w' h2 (Y :: X :: Ls) := fun w hw => by
    have := bufferFits_ok hw (hP.mono hle2) hI2
    rw [hf2] at this
    exact this
  refine WT_exit rfl ?_
  refine WT_seq ?_
  refine WT_region ?_
  refine WL_v rfl (ov_move rfl) ?_
  refine WL_v rfl (ov_move rfl) ?_
  refine WL_call rfl rfl cf_impl_BufferFits (hc1) ?_; rintro _ w8 ⟨rfl, hH8⟩
  refine WL_v rfl (ov_move rfl) ?_
  refine WL_guardOn rfl rfl ?_
  refine WL_v rfl (ov_move rfl) ?_
  refine WL_guardOn rfl rfl ?_
  refine WL_v rfl (ov_move rfl) ?_
  refine WL_guardOn rfl rfl ?_
  refine WL_v rfl (ov_move rfl) ?_
  refine WL_guardOn rfl rfl ?_
  refine WL_v rfl (ov_len rfl hI.sl st_sl_int) ?_
  refine WL_guardOn rfl rfl ?_
  refine WL_v rfl (ov_as (ov_sub rfl rfl (by omega)) (congrArg (Value.int .i64) ((show ((toI (List.range p.length)).length : Int) - 1 = ((p.length - 1 : Nat) : Int) by omega)))) ?_
  refine WL_guardOn rfl rfl ?_
  refine WL_v rfl (ov_sliceHi rfl rfl st_sl_int hI.sl (by omega)) ?_
  refine WL_guardOn rfl rfl ?_
  refine WL_call rfl rfl cf_impl_BufferFits (hc2 _ hH8) ?_; rintro _ w9 ⟨rfl, hH9⟩
  refine WL_guardOn rfl rfl ?_
  refine WL_v rfl (ov_T (ov_not rfl) rfl) ?_
  refine WL_v rfl (ov_pickT rfl rfl) ?_
  refine WL_v rfl (ov_move rfl) ?_
  refine WL_guardOn rfl rfl ?_
  refine WL_v rfl (ov_move rfl) ?_
  refine WL_guardOn rfl rfl ?_
  refine WL_v rfl (ov_len rfl hX.sl st_sl_int) ?_
  refine WL_guardOn rfl rfl ?_
  refine WL_v rfl (ov_move rfl) ?_
  refine WL_guardOn rfl rfl ?_
  refine WL_v rfl (ov_len rfl hP.sl st_sl_impl_Node) ?_
  refine WL_guardOn rfl rfl ?_
  refine WL_v rfl (ov_T (ov_eql rfl rfl) (decide_eq_true (by omega))) ?_
  refine WL_v rfl (ov_pickT rfl rfl) ?_
  refine WL_v rfl (ov_assign rfl) ?_
  refine WL_nil ?_
  exact WT_ret1 Try.func12 Try.results12 rfl ⟨rfl, (hH9.weak (hle.trans hle2)).drop.drop⟩
end
end Go.Proofs.Ytieoacpffdpgeaa
