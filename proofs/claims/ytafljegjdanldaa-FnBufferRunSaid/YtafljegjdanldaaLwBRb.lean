/- The law BufferRun: its walk. -/
import Derived.Test.YtafljegjdanldaaBj4
namespace Go.Proofs.Ytafljegjdanldaa
open Go.RowKit

theorem le_lastOr {l : List Nat} (hp : l.Pairwise (· < ·)) {a : Nat} (ha : a ∈ l) (d : Nat) : a ≤ lastOr l d := by
  rcases List.eq_nil_or_concat l with rfl | ⟨r, b, rfl⟩
  · simp at ha
  · rw [List.concat_eq_append] at hp ha ⊢
    rw [lastOr_snoc]
    rcases List.mem_append.1 ha with h | h
    · exact Nat.le_of_lt ((List.pairwise_append.1 hp).2.2 a h b (by simp))
    · rw [List.mem_singleton] at h; omega
theorem ends_user {p : List Nd} (hv : planOk p = true) {i f : Nat} (hi : i < p.length) (hf : (f : Int) ∈ (p.getD i default).frm) : (i : Int) ≤ (endsTo p p.length).getD f 0 := by
  have h1 := frm_pos hv hi f hf
  rw [endsTo_getD hv (Nat.le_refl _) (by omega)]
  have h2 : (usersTo p p.length f).Pairwise (· < ·) := List.pairwise_lt_range.filter _
  have h3 := le_lastOr h2 (a := i) (List.mem_filter.2 ⟨List.mem_range.2 hi, by simpa using hf⟩) f
  omega
theorem fits_parts {p : List Nd} {pl : List Int} (h : fitsPl p pl = true) : planOk p = true ∧ pl.length = p.length ∧ ∀ i, i < p.length → placeOk (endsTo p p.length) pl i := by
  unfold fitsPl at h
  rw [Bool.and_eq_true] at h
  exact ⟨h.1, (of_decide_eq_true h.2).1, (of_decide_eq_true h.2).2⟩
theorem run_ok {p : List Nd} {pl : List Int} (h : fitsPl p pl = true) {i f k : Nat} (hi : i < p.length) (hf : (f : Int) ∈ (p.getD i default).frm) (hfk : f < k) (hki : k < i) : pl.getD k 0 ≠ pl.getD f 0 := fun he => by
  obtain ⟨hv, _, hp⟩ := fits_parts h
  have h1 := ends_user hv hi hf
  exact (hp k (by omega)).2 f hfk ⟨by omega, he.symm⟩
/-- What lies in the places when some nodes are done. -/
def MemOk (p : List Nd) (pl : List Int) (i : Nat) (mem : Nat → List Int) : Prop := ∀ f, f < i → pl.getD f 0 < 20 → (∀ k, f < k → k < i → pl.getD k 0 ≠ pl.getD f 0) → mem (pl.getD f 0).toNat = (valsL p).getD f []
theorem MemOk.next {p : List Nd} {pl : List Int} {i : Nat} {mem mem' : Nat → List Int} (h : MemOk p pl i mem) (hpos : ∀ f, f ≤ i → 0 ≤ pl.getD f 0)
    (hm : ∀ c, c < 20 → mem' c = if pl.getD i 0 = (c : Int) then (valsL p).getD i [] else mem c) : MemOk p pl (i + 1) mem' := fun f hf h20 hno => by
  have h0 := hpos f (by omega)
  rw [hm _ (by omega)]
  rcases Nat.lt_or_ge f i with h1 | h1
  · rw [if_neg (by have := hno i h1 (by omega); omega)]
    exact h f h1 h20 fun k hk hki => hno k hk (by omega)
  · obtain rfl : f = i := by omega
    rw [if_pos (by omega)]

section
variable {h : GH} {Ls : List Heaplet} {w : World}

theorem sameRow_oneB (hH : H w h Ls) {av bv : Value} {xs : List Int} (hA : RdL h Ls av xs) (hB : RdL h Ls bv xs) : Rets Try.prog 15 #[av, bv] w fun v w' => v = .bool true ∧ H w' h Ls := by
  have := sameRow_ok hH hA hB
  rwa [decide_eq_true rfl] at this

set_option maxHeartbeats 1000000 in
theorem fnBufferRun_walk (hH : H w h Ls) {cv : Value} {bs : List Int} (hB : Bytes h cv bs) : Rets Try.prog 3 #[cv] w fun v w' => v = .bool true ∧ H w' h Ls := by
  refine rets_enter Try.func3 rfl Try.ntmps3 (by simp) ?_
  refine WT_seq ?_
  refine WT_region ?_
  refine WL_v rfl (ov_assign rfl) ?_
  refine WL_nil ?_
  refine WT_seq ?_
  refine WT_seq ?_
  refine WT_region ?_
  refine WL_v rfl (ov_move rfl) ?_
  refine WL_v rfl (ov_len rfl hB.sl st_sl_uint8) ?_
  refine WL_v rfl (ov_gtr rfl rfl) ?_
  refine WL_nil ?_
  refine WT_cond rfl (fun hl => ?_) (fun hl => ?_)
  · skip
    first | with_reducible replace hl := of_decide_eq_true hl | with_reducible replace hl := bn_T hl | with_reducible replace hl := bb_T hl | skip
    refine WT_seq ?_
    refine WT_region ?_
    refine WL_v rfl (ov_assign rfl) ?_
    refine WL_nil ?_
    exact WT_ret1 Try.func3 Try.results3 rfl ⟨rfl, hH⟩
  first | with_reducible replace hl := of_decide_eq_false hl | with_reducible replace hl := bn_F hl | with_reducible replace hl := bb_F hl | skip
  refine WT_skip ?_
  refine WT_seq ?_
  refine WT_region ?_
  refine WL_v rfl (ov_move rfl) ?_
  refine WL_call rfl rfl cf_spec_DrawBufferFits (drawBufferFits_ok hH hB) ?_; rintro _ w1 ⟨pv, lv, rfl, h', p, pl, hle, hP, hpl, hL, hll, hH1⟩
  refine WL_v rfl (ov_move rfl) ?_
  refine WL_v rfl (ov_extract rfl rfl) ?_
  refine WL_v rfl (ov_extract rfl rfl) ?_
  refine WL_v rfl (ov_assign rfl) ?_
  refine WL_v rfl (ov_assign rfl) ?_
  refine WL_nil ?_
  refine WT_seq ?_
  refine WT_region ?_
  refine WL_v rfl (ov_move rfl) ?_
  refine WL_v rfl (ov_move rfl) ?_
  refine WL_call rfl rfl cf_impl_BufferFits (bufferFits_ok hH1 hP hL) ?_; rintro _ w2 ⟨rfl, hH2⟩
  refine WL_v rfl (ov_assign rfl) ?_
  refine WL_nil ?_
  refine WT_seq ?_
  refine WT_region ?_
  refine WL_v rfl (ov_move rfl) ?_
  refine WL_v rfl (ov_move rfl) ?_
  refine WL_call rfl rfl cf_spec_BufferFits (sBufferFits_ok hH2 hP hL (by omega)) ?_; rintro _ w3 ⟨rfl, hH3⟩
  refine WL_v rfl (ov_assign rfl) ?_
  refine WL_nil ?_
  refine WT_seq ?_
  refine WT_seq ?_
  refine WT_region ?_
  refine WL_v rfl (ov_move rfl) ?_
  refine WL_v rfl (ov_move rfl) ?_
  clear hH hH1 hH2
  by_cases hfit : fitsPl p pl = true
  case neg =>
    rw [show fitsPl p pl = false by simpa using hfit]
    refine WL_v rfl (ov_F (ov_neqB rfl rfl Try.underlying4) (by simp)) ?_
    refine WL_v rfl (ov_move rfl) ?_
    refine WL_guardOn rfl rfl ?_
    refine WL_v rfl (ov_move rfl) ?_
    refine WL_guardOn rfl rfl ?_
    refine WL_v rfl (ov_T (ov_not rfl) (by first | exact decide_eq_true rfl | exact nb_T rfl | exact mb_T rfl | exact rfl | (simp only [decide_eq_true_eq]; omega) | simpa using rfl)) ?_
    refine WL_v rfl (ov_pickF rfl rfl) ?_
    refine WL_nil ?_
    refine WT_condT rfl ?_
    refine WT_seq ?_
    refine WT_region ?_
    refine WL_v rfl (ov_move rfl) ?_
    refine WL_v rfl (ov_move rfl) ?_
    refine WL_v rfl (ov_T (ov_eqlB rfl rfl Try.underlying4) (by simp)) ?_
    refine WL_v rfl (ov_assign rfl) ?_
    refine WL_nil ?_
    exact WT_ret1 Try.func3 Try.results3 rfl ⟨rfl, hH3.weak hle⟩
  obtain ⟨hv, hplen, hplc⟩ := fits_parts hfit
  have hlen := PlanOk.len hv
  rw [hfit]
  refine WL_v rfl (ov_F (ov_neqB rfl rfl Try.underlying4) (by simp)) ?_
  refine WL_v rfl (ov_move rfl) ?_
  refine WL_guardOn rfl rfl ?_
  refine WL_v rfl (ov_move rfl) ?_
  refine WL_guardOn rfl rfl ?_
  refine WL_v rfl (ov_F (ov_not rfl) (by first | exact decide_eq_false rfl | exact nb_F rfl | exact mb_F rfl | exact rfl | (simp only [decide_eq_false_iff_not]; omega) | simpa using rfl)) ?_
  refine WL_v rfl (ov_pickF rfl rfl) ?_
  refine WL_nil ?_
  refine WT_condF rfl ?_
  refine WT_skip ?_
  refine WT_seq ?_
  refine WT_region ?_
  refine WL_buildSlice (sz := 1) (parts := []) (vs := []) [] rfl hH3 rfl run_bs_sl0 rfl (by omega) ?_; rintro M0 mv0 w4 hM0 hH4
  refine WL_v rfl (ov_assign rfl) ?_
  refine WL_nil ?_
  refine WT_seq ?_
  refine WT_seq ?_
  refine WT_region ?_
  refine WL_v rfl (ov_assign rfl) ?_
  refine WL_nil ?_
  refine WT_block ?_
  refine WT_while (fun s : Nat × Value => [(3, pv), (4, lv), (7, s.2), (8, .int .i64 (s.1 : Int))]) (fun s w => s.1 ≤ 20 ∧ ∃ M xs h2, h'.Le h2 ∧ Row M 24 1 s.2 s.1 xs ∧ (∀ j, j < s.1 → ∃ u, xs[j]? = some u ∧ Ints h2 u []) ∧ H w h2 (M :: Ls)) (fun s => 20 - s.1) (0, mv0) (by repeat (first | exact trivial | refine ⟨rfl, ?_⟩)) ⟨by omega, M0, [], h', GH.Le.refl h', hM0, fun j hj => absurd hj (Nat.not_lt_zero j), hH4⟩ ?_
  clear hH3 hH4 hM0
  rintro ⟨k, mv⟩ w5 ⟨hk, M, xs, h2, hle2, hM, hxs, hH⟩ again
  simp only at hk hM hxs hH
  refine WT_seq ?_
  refine WT_seq ?_
  refine WT_region ?_
  refine WL_v rfl (ov_move rfl) ?_
  refine WL_v rfl (ov_lss rfl rfl) ?_
  refine WL_nil ?_
  refine WT_cond rfl (fun hc => ?_) (fun hc => ?_)
  · skip
    first | with_reducible replace hc := of_decide_eq_true hc | with_reducible replace hc := bn_T hc | with_reducible replace hc := bb_T hc | skip
    have hk20 : k < 20 := by simp only at hc; omega
    have hxl := hM.len
    refine WT_skip ?_
    refine WT_seq ?_
    refine WT_block ?_
    refine WT_region ?_
    refine WL_v rfl (ov_move rfl) ?_
    refine WL_bsI0 rfl hH run_bs_int0 ?_; rintro T tv w6 hT hH6; obtain ⟨At, ct, htv, _⟩ := hT.sl.form; obtain ⟨h3, hle3, hH7, hI⟩ := hT.freezeP hH6
    refine WL_buildSlice (sz := 1) [tv] rfl hH7 rfl (fun W => by rw [htv]; exact run_bs_sl1 _ _ _ W) rfl (by omega) ?_; rintro Z zv w8 hZ hH8
    refine WL_append1 (i := 1) (j := 0) (n := k) (m := 1) rfl hH8 rfl rfl st_sl_sl_int (by omega) rfl hM rfl hZ (ones_cons hT.sl.one ones_nil) (by omega) (by omega) ?_; rintro M2 mv2 w9 hM2 hH9
    refine WL_v rfl (ov_assign rfl) ?_
    refine WL_nil ?_
    refine WT_inBlock ?_
    refine WT_region ?_
    refine WL_v rfl (ov_move rfl) ?_
    refine WL_v rfl (ov_add rfl rfl (by omega)) ?_
    refine WL_v rfl (ov_assign rfl) ?_
    refine WL_nil ?_
    refine again (k + 1, mv2) _ _ (by simp only; omega) (by repeat (first | exact trivial | refine ⟨rfl, ?_⟩)) ⟨by simp only; omega, M2, _, h3, hle2.trans hle3, hM2, fun j hj => ?_, hH9.drop⟩
    simp only at hj
    rcases Nat.lt_or_ge j k with h4 | h4
    · obtain ⟨u, h5, h6⟩ := hxs j h4
      exact ⟨u, by rw [List.getElem?_append_left (by omega)]; exact h5, h6.mono hle3⟩
    · obtain rfl : j = k := by omega
      exact ⟨tv, by rw [List.getElem?_append_right (by omega), show j - xs.length = 0 by omega]; rfl, hI⟩
  first | with_reducible replace hc := of_decide_eq_false hc | with_reducible replace hc := bn_F hc | with_reducible replace hc := bb_F hc | skip
  have hk20 : k = 20 := by simp only at hc; omega
  subst hk20
  clear again hc
  refine WT_exit rfl ?_
  refine WT_seq ?_
  refine WT_region ?_
  refine WL_v rfl (ov_move rfl) ?_
  refine WL_call rfl rfl cf_impl_ValuesOf (valuesOf_yes hH (hP.mono hle2) hv) ?_; rintro _ w6 ⟨rv, O, Is, rfl, hO, hH6⟩; obtain ⟨h3, hle3, hH7, hV, _⟩ := hO.freeze hH6
  refine WL_v rfl (ov_move rfl) ?_
  refine WL_v rfl (ov_extract rfl rfl) ?_
  refine WL_v rfl (ov_extract rfl rfl) ?_
  refine WL_v rfl (ov_assign rfl) ?_
  refine WL_v rfl (ov_assign rfl) ?_
  refine WL_nil ?_
  refine WT_seq ?_
  refine WT_seq ?_
  refine WT_region ?_
  refine WL_v rfl (ov_assign rfl) ?_
  refine WL_nil ?_
  refine WT_block ?_
  have hP3 := (hP.mono hle2).mono hle3
  have hL3 : Ints h3 lv pl := (hL.mono hle2).mono hle3
  have hvl : (valsL p).length = p.length := valsTo_len p _
  refine WT_while (fun s : Nat => [(3, pv), (4, lv), (7, mv), (9, rv), (10, .bool true), (11, .int .i64 (s : Int))]) (fun s w => s ≤ p.length ∧ ∃ M xs mem, Row M 24 1 mv 20 xs ∧ (∀ j, j < 20 → ∃ u, xs[j]? = some u ∧ Ints h3 u (mem j)) ∧ MemOk p pl s mem ∧ H w h3 (M :: Ls)) (fun s => p.length - s) 0 (by repeat (first | exact trivial | refine ⟨rfl, ?_⟩)) ⟨by omega, M, xs, fun _ => [], hM, fun j hj => by obtain ⟨u, h5, h6⟩ := hxs j hj; exact ⟨u, h5, h6.mono hle3⟩, fun f hf => absurd hf (Nat.not_lt_zero f), hH7⟩ ?_
  clear hH hH6 hH7 hM hxs M xs
  rintro i w7 ⟨hi, M, xs, mem, hM, hxs, hmem, hH⟩ again
  refine WT_seq ?_
  refine WT_seq ?_
  refine WT_region ?_
  refine WL_v rfl (ov_move rfl) ?_
  refine WL_v rfl (ov_move rfl) ?_
  refine WL_v rfl (ov_len rfl hP3.sl st_sl_impl_Node) ?_
  refine WL_v rfl (ov_lss rfl rfl) ?_
  refine WL_nil ?_
  refine WT_cond rfl (fun hc => ?_) (fun hc => ?_)
  · skip
    first | with_reducible replace hc := of_decide_eq_true hc | with_reducible replace hc := bn_T hc | with_reducible replace hc := bb_T hc | skip
    have hip : i < p.length := by omega
    obtain ⟨fv, rv', hf, hr, hcell⟩ := hP3.node hip
    have hN := PlanOk.node hv hip
    have hfl := hf.sl.lim
    have hxl := hM.len
    refine WT_skip ?_
    refine WT_seq ?_
    refine WT_block ?_
    refine WT_seq ?_
    refine WT_seq ?_
    refine WT_region ?_
    refine WL_v rfl (ov_assign rfl) ?_
    refine WL_nil ?_
    refine WT_block ?_
    refine WT_while (fun s : Nat => [(3, pv), (4, lv), (7, mv), (9, rv), (10, .bool true), (11, .int .i64 (i : Int)), (12, .int .i64 (s : Int))]) (fun s w => s ≤ p[i].frm.length ∧ H w h3 (M :: Ls)) (fun s => p[i].frm.length - s) 0 (by repeat (first | exact trivial | refine ⟨rfl, ?_⟩)) ⟨by omega, hH⟩ ?_
    clear hH
    rintro j w8 ⟨hj, hH⟩ again2
    refine WT_seq ?_
    refine WT_seq ?_
    refine WT_region ?_
    refine WL_v rfl (ov_move rfl) ?_
    refine WL_v rfl (ov_move rfl) ?_
    refine WL_v rfl (ov_move rfl) ?_
    refine WL_v rfl (ov_index rfl rfl st_sl_impl_Node hP3.sl hip) ?_
    refine WL_v rfl (ov_field rfl fo_impl_Node_1) ?_
    refine WL_v rfl (ov_load rfl one_sl_int (hcell _ _ hH 1 _ rfl)) ?_
    refine WL_v rfl (ov_len rfl hf.sl st_sl_int) ?_
    refine WL_v rfl (ov_lss rfl rfl) ?_
    refine WL_nil ?_
    refine WT_cond rfl (fun hc2 => ?_) (fun hc2 => ?_)
    · skip
      first | with_reducible replace hc2 := of_decide_eq_true hc2 | with_reducible replace hc2 := bn_T hc2 | with_reducible replace hc2 := bb_T hc2 | skip
      have hjl : j < p[i].frm.length := by omega
      have hfb := hN.frm p[i].frm[j] (List.getElem_mem hjl)
      obtain ⟨f, hfn⟩ := Int.eq_ofNat_of_zero_le hfb.1
      have hfi : f < i := by omega
      have hfm : (f : Int) ∈ (p.getD i default).frm := by rw [getD_of hip, ← hfn]; exact List.getElem_mem hjl
      have hfpl : f < pl.length := by omega
      have hfv : f < (valsL p).length := by omega
      have hplf : pl.getD f 0 = pl[f] := getD_elem hfpl
      have hp0 := (hplc f (by omega)).1
      obtain ⟨c, hcf⟩ := Int.eq_ofNat_of_zero_le hp0
      have hgc : pl[f] = (c : Int) := by rw [← hplf]; exact hcf
      obtain ⟨u2, hu2, hu2c⟩ := hV.elem (h := h3) hfv
      refine WT_skip ?_
      refine WT_seq ?_
      refine WT_block ?_
      refine WT_seq ?_
      refine WT_region ?_
      refine WL_v rfl (ov_move rfl) ?_
      refine WL_v rfl (ov_move rfl) ?_
      refine WL_v rfl (ov_index rfl rfl st_sl_impl_Node hP3.sl hip) ?_
      refine WL_v rfl (ov_field rfl fo_impl_Node_1) ?_
      refine WL_v rfl (ov_load rfl one_sl_int (hcell _ _ hH 1 _ rfl)) ?_
      refine WL_v rfl (ov_move rfl) ?_
      refine WL_v rfl (ov_index rfl rfl st_sl_int hf.sl hjl) ?_
      refine WL_v rfl (ov_load rfl one_int (hf.cell hH hjl)) ?_; rw [hfn]
      refine WL_v rfl (ov_assign rfl) ?_
      refine WL_nil ?_
      refine WT_seq ?_
      by_cases h20 : c < 20
      · obtain ⟨u, hu, huI⟩ := hxs c h20
        have hme : mem c = (valsL p)[f] := by
          have h9 := hmem f hfi (by omega) fun k hk hki => run_ok hfit hip hfm hk hki
          rw [hcf, Int.toNat_natCast, List.getD_eq_getElem?_getD, List.getElem?_eq_getElem hfv] at h9
          exact h9
        rw [hme] at huI
        refine WT_quiet mixed (by kernel_rfl) hH ?_
        clear hH
        refine WQ_v rfl (fun _ _ => ov_move rfl) ?_
        refine WQ_v rfl (fun _ _ => ov_move rfl) ?_
        refine WQ_v rfl (fun _ _ => ov_index rfl rfl st_sl_int hL3.sl hfpl) ?_
        refine WQ_v rfl (fun _ hH => ov_load rfl one_int (hL3.cell hH hfpl)) ?_; rw [hgc]
        refine WQ_v rfl (fun _ _ => ov_T (ov_lss rfl rfl) (decide_eq_true (by omega))) ?_
        refine WQ_v rfl (fun _ _ => ov_move rfl) ?_
        refine WQ_guardOn rfl rfl ?_
        refine WQ_v rfl (fun _ _ => ov_move rfl) ?_
        refine WQ_guardOn rfl rfl ?_
        refine WQ_v rfl (fun _ _ => ov_move rfl) ?_
        refine WQ_guardOn rfl rfl ?_
        refine WQ_v rfl (fun _ _ => ov_move rfl) ?_
        refine WQ_guardOn rfl rfl ?_
        refine WQ_v rfl (fun _ _ => ov_index rfl rfl st_sl_int hL3.sl hfpl) ?_
        refine WQ_guardOn rfl rfl ?_
        refine WQ_v rfl (fun _ hH => ov_load rfl one_int (hL3.cell hH hfpl)) ?_; rw [hgc]
        refine WQ_guardOn rfl rfl ?_
        refine WQ_v rfl (fun _ _ => ov_index rfl rfl st_sl_sl_int hM.sl h20) ?_
        refine WQ_guardOn rfl rfl ?_
        refine WQ_v rfl (fun _ hH => ov_load rfl one_sl_int (by rw [Nat.mul_one]; exact hM.cell hH (i := 0) rfl hu)) ?_
        refine WQ_guardOn rfl rfl ?_
        refine WQ_v rfl (fun _ _ => ov_move rfl) ?_
        refine WQ_guardOn rfl rfl ?_
        refine WQ_v rfl (fun _ _ => ov_move rfl) ?_
        refine WQ_guardOn rfl rfl ?_
        refine WQ_v rfl (fun _ _ => ov_index rfl rfl st_sl_sl_int hV.sl hfv) ?_
        refine WQ_guardOn rfl rfl ?_
        refine WQ_v rfl (fun _ hH => ov_load rfl one_sl_int (hu2c hH)) ?_
        refine WQ_guardOn rfl rfl ?_
        refine WQ_call rfl rfl cf_laws_sameRow (fun _ hH => sameRow_oneB hH (huI.rdl _) (hu2.rdl _)) ?_
        refine WQ_guardOn rfl rfl ?_
        refine WQ_v rfl (fun _ _ => ov_F (ov_not rfl) (by first | exact decide_eq_false rfl | exact nb_F rfl | exact mb_F rfl | exact rfl | (simp only [decide_eq_false_iff_not]; omega) | simpa using rfl)) ?_
        refine WQ_v rfl (fun _ _ => ov_pickT rfl rfl) ?_
        refine WQ_nil ?_
        intro w9 hH
        refine WT_condF rfl ?_
        refine WT_skip ?_
        refine WT_inBlock ?_
        refine WT_region ?_
        refine WL_v rfl (ov_move rfl) ?_
        refine WL_v rfl (ov_add rfl rfl (by omega)) ?_
        refine WL_v rfl (ov_assign rfl) ?_
        refine WL_nil ?_
        exact again2 (j + 1) _ _ (by omega) (by repeat (first | exact trivial | refine ⟨rfl, ?_⟩)) ⟨by omega, hH⟩
      · skip
        refine WT_quiet mixed (by kernel_rfl) hH ?_
        clear hH
        refine WQ_v rfl (fun _ _ => ov_move rfl) ?_
        refine WQ_v rfl (fun _ _ => ov_move rfl) ?_
        refine WQ_v rfl (fun _ _ => ov_index rfl rfl st_sl_int hL3.sl hfpl) ?_
        refine WQ_v rfl (fun _ hH => ov_load rfl one_int (hL3.cell hH hfpl)) ?_; rw [hgc]
        refine WQ_v rfl (fun _ _ => ov_F (ov_lss rfl rfl) (decide_eq_false (by omega))) ?_
        refine WQ_v rfl (fun _ _ => ov_move rfl) ?_
        refine WQ_guardOff rfl rfl rfl rfl ?_
        refine WQ_guardOff rfl rfl rfl rfl ?_
        refine WQ_guardOff rfl rfl rfl rfl ?_
        refine WQ_guardOff rfl rfl rfl rfl ?_
        refine WQ_guardOff rfl rfl rfl rfl ?_
        refine WQ_guardOff rfl rfl rfl rfl ?_
        refine WQ_guardOff rfl rfl rfl rfl ?_
        refine WQ_guardOff rfl rfl rfl rfl ?_
        refine WQ_guardOff rfl rfl rfl rfl ?_
        refine WQ_guardOff rfl rfl rfl rfl ?_
        refine WQ_guardOff rfl rfl rfl rfl ?_
        refine WQ_guardOff rfl rfl rfl rfl ?_
        refine WQ_guardOff rfl rfl rfl rfl ?_
        refine WQ_v rfl (fun _ _ => ov_pickF rfl rfl) ?_
        refine WQ_nil ?_
        intro w9 hH
        refine WT_condF rfl ?_
        refine WT_skip ?_
        refine WT_inBlock ?_
        refine WT_region ?_
        refine WL_v rfl (ov_move rfl) ?_
        refine WL_v rfl (ov_add rfl rfl (by omega)) ?_
        refine WL_v rfl (ov_assign rfl) ?_
        refine WL_nil ?_
        exact again2 (j + 1) _ _ (by omega) (by repeat (first | exact trivial | refine ⟨rfl, ?_⟩)) ⟨by omega, hH⟩
    first | with_reducible replace hc2 := of_decide_eq_false hc2 | with_reducible replace hc2 := bn_F hc2 | with_reducible replace hc2 := bb_F hc2 | skip
    have hipl : i < pl.length := by omega
    have hiv : i < (valsL p).length := by omega
    have hpli : pl.getD i 0 = pl[i] := getD_elem hipl
    obtain ⟨c, hcf⟩ := Int.eq_ofNat_of_zero_le (hplc i hip).1
    have hgc : pl[i] = (c : Int) := by rw [← hpli]; exact hcf
    have hvg : (valsL p).getD i [] = (valsL p)[i] := by rw [List.getD_eq_getElem?_getD, List.getElem?_eq_getElem hiv]; rfl
    obtain ⟨u2, hu2, hu2c⟩ := hV.elem (h := h3) hiv
    refine WT_exit rfl ?_
    refine WT_seq ?_
    refine WT_region ?_
    refine WL_v rfl (ov_move rfl) ?_
    refine WL_v rfl (ov_move rfl) ?_
    refine WL_v rfl (ov_index rfl rfl st_sl_int hL3.sl hipl) ?_
    refine WL_v rfl (ov_load rfl one_int (hL3.cell hH hipl)) ?_; rw [hgc]
    refine WL_v rfl (ov_lss rfl rfl) ?_
    refine WL_nil ?_
    refine WT_cond rfl (fun h20 => ?_) (fun h20 => ?_)
    · skip
      first | with_reducible replace h20 := of_decide_eq_true h20 | with_reducible replace h20 := bn_T h20 | with_reducible replace h20 := bb_T h20 | skip
      have h20' : c < 20 := by omega
      have hcx : c < xs.length := by omega
      refine WT_mixL [(0, 0), (1, 0), (2, 0), (3, 0), (4, 0), (5, 0), (6, 0), (7, 0), (8, 0), (9, 0), (10, 3)] mixed (by kernel_rfl) hH ?_
      clear hH
      intro w9 hH hC
      refine WM_v rfl rfl hC (fun _ _ => ov_move rfl) ?_
      refine WM_v rfl rfl hC (fun _ _ => ov_move rfl) ?_
      refine WM_v rfl rfl hC (fun _ _ => ov_move rfl) ?_
      refine WM_v rfl rfl hC (fun _ _ => ov_index rfl rfl st_sl_int hL3.sl hipl) ?_
      refine WM_v rfl rfl hC (fun _ ⟨_, hH⟩ => ov_load rfl one_int (hL3.cell hH hipl)) ?_; rw [hgc]
      refine WM_v rfl rfl hC (fun _ _ => ov_move rfl) ?_
      refine WM_v rfl rfl hC (fun _ _ => ov_move rfl) ?_
      refine WM_v rfl rfl hC (fun _ _ => ov_index rfl rfl st_sl_sl_int hV.sl hiv) ?_
      refine WM_v rfl rfl hC (fun _ ⟨_, hH⟩ => ov_load rfl one_sl_int (hu2c hH)) ?_
      refine WM_v rfl rfl hC (fun _ _ => ov_index rfl rfl st_sl_sl_int hM.sl h20') ?_
      refine WM_e rfl ?_
      refine WL_storeRow (j := c * 1) hH rfl rfl (i := 0) rfl hM (by omega) hu2.sl.one sz_sl_int ?_; rintro M2 w10 hM2 hH10; rw [Nat.mul_one] at hM2
      refine WL_mix (fun h => absurd rfl h) ?_
      refine WM_nil ?_
      refine WT_inBlock ?_
      refine WT_region ?_
      refine WL_v rfl (ov_move rfl) ?_
      refine WL_v rfl (ov_add rfl rfl (by omega)) ?_
      refine WL_v rfl (ov_assign rfl) ?_
      refine WL_nil ?_
      refine again (i + 1) _ _ (by omega) (by repeat (first | exact trivial | refine ⟨rfl, ?_⟩)) ⟨by omega, M2, _, fun j => if j = c then (valsL p)[i] else mem j, hM2, fun j hj => ?_, hmem.next (fun f hf => (hplc f (by omega)).1) (fun c2 hc2 => ?_), hH10⟩
      · rw [List.getElem?_set]
        by_cases hjc : j = c
        · subst hjc
          exact ⟨u2, by rw [if_pos rfl, if_pos hcx], by show Ints h3 u2 (if j = j then (valsL p)[i] else mem j); rw [if_pos rfl]; exact hu2⟩
        · obtain ⟨u, hu, huI⟩ := hxs j hj
          exact ⟨u, by rw [if_neg (fun he => hjc he.symm)]; exact hu, by show Ints h3 u (if j = c then (valsL p)[i] else mem j); rw [if_neg hjc]; exact huI⟩
      · rw [hvg, hcf]
        by_cases hjc : c2 = c
        · rw [if_pos hjc, if_pos (by omega)]
        · rw [if_neg hjc, if_neg (by omega)]
    first | with_reducible replace h20 := of_decide_eq_false h20 | with_reducible replace h20 := bn_F h20 | with_reducible replace h20 := bb_F h20 | skip
    refine WT_skip ?_
    refine WT_inBlock ?_
    refine WT_region ?_
    refine WL_v rfl (ov_move rfl) ?_
    refine WL_v rfl (ov_add rfl rfl (by omega)) ?_
    refine WL_v rfl (ov_assign rfl) ?_
    refine WL_nil ?_
    refine again (i + 1) _ _ (by omega) (by repeat (first | exact trivial | refine ⟨rfl, ?_⟩)) ⟨by omega, M, xs, mem, hM, hxs, hmem.next (fun f hf => (hplc f (by omega)).1) (fun c2 hc2 => ?_), hH⟩
    rw [hcf, if_neg (by omega)]
  first | with_reducible replace hc := of_decide_eq_false hc | with_reducible replace hc := bn_F hc | with_reducible replace hc := bb_F hc | skip
  refine WT_exit rfl ?_
  refine WT_seq ?_
  refine WT_region ?_
  refine WL_v rfl (ov_move rfl) ?_
  refine WL_v rfl (ov_assign rfl) ?_
  refine WL_nil ?_
  exact WT_ret1 Try.func3 Try.results3 rfl ⟨rfl, (hH.weak (hle.trans (hle2.trans hle3))).drop⟩
end
end Go.Proofs.Ytafljegjdanldaa
