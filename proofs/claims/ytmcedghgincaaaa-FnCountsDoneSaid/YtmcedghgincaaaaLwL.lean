/- The laws on counts. -/
import Derived.Test.YtmcedghgincaaaaWkFF
import Derived.Test.YtmcedghgincaaaaWkV
import Derived.Test.YtmcedghgincaaaaWkQ
import Derived.Test.YtmcedghgincaaaaPlO
import Derived.Test.YtmcedghgincaaaaSlF
namespace Go.Proofs.Ytmcedghgincaaaa
open Go.RowKit

section
variable {h : GH} {Ls : List Heaplet} {w : World}

/-- A drawn plan, counts and a node, shared. -/
def DrewC (h : GH) (Ls : List Heaplet) (v : Value) (w' : World) : Prop := ∃ pv cv a, v = .tuple #[pv, cv, .int .i64 a] ∧ -1 ≤ a ∧ a ≤ 11 ∧ ∃ h' p c, h.Le h' ∧ Plan h' pv p ∧ p.length ≤ 11 ∧ Ints h' cv c ∧ c.length ≤ 11 ∧ H w' h' Ls

theorem irow_freezeC {X : Heaplet} {e : TypeId} {v : Value} {xs : List Int} (hX : IRow X e v xs) (hH : H w h (X :: Ls)) : ∃ h', h.Le h' ∧ H w h' Ls ∧ Ints h' v xs := by
  obtain ⟨h', hle, hH2, hX2, hnd, _⟩ := H.freeze hH
  exact ⟨h', hle, hH2, hX.ints fun q hq => (hX2 q hq).1⟩
theorem countsOf_len (p : List Nd) : (countsOf p).length = if planOk p = true then p.length else 0 := by
  unfold countsOf
  split
  · exact countsL_len p
  · rfl

theorem drawCountsOf_ok (hH : H w h Ls) {cv : Value} {bs : List Int} (hB : Bytes h cv bs) : Rets Try.prog 20 #[cv] w (Drew h Ls) := by
  refine rets_enter Try.func20 rfl Try.ntmps20 (by simp) ?_
  refine WT_seq ?_
  refine WT_region ?_
  refine WL_v rfl (ov_assign rfl) ?_
  refine WL_nil ?_
  refine WT_seq ?_
  refine WT_region ?_
  refine WL_v rfl (ov_move rfl) ?_
  refine WL_call rfl rfl cf_spec_l6Open (l6Open_ok hH hB) ?_; rintro _ w1 ⟨g, bv, bs', rfl, hB', hH1⟩
  refine WL_call rfl rfl cf_spec_l91Plan (l91Plan_ok hH1 hB' (by omega)) ?_; rintro _ w2 ⟨p, O, Is, p', hO, hl, hp', hH2⟩
  refine WL_v rfl (ov_assign rfl) ?_
  refine WL_nil ?_
  exact WT_ret1 Try.func20 Try.results20 rfl (drew_of hO hl hH2)

theorem drawCountsDone_ok (hH : H w h Ls) {cv : Value} {bs : List Int} (hB : Bytes h cv bs) : Rets Try.prog 44 #[cv] w (DrewC h Ls) := by
  refine rets_enter Try.func44 rfl Try.ntmps44 (by simp) ?_
  refine WT_seq ?_
  refine WT_region ?_
  refine WL_v rfl (ov_assign rfl) ?_
  refine WL_v rfl (ov_assign rfl) ?_
  refine WL_v rfl (ov_assign rfl) ?_
  refine WL_nil ?_
  refine WT_seq ?_
  refine WT_region ?_
  refine WL_v rfl (ov_move rfl) ?_
  refine WL_call rfl rfl cf_spec_l6Open (l6Open_ok hH hB) ?_; rintro _ w1 ⟨g, bv, bs', rfl, hB', hH1⟩
  refine WL_v rfl (ov_assign rfl) ?_
  refine WL_nil ?_
  refine WT_seq ?_
  refine WT_region ?_
  refine WL_v rfl (ov_move rfl) ?_
  refine WL_call rfl rfl cf_spec_l91At (l91At_ok hH1 hB' (by omega)) ?_; rintro _ w2 ⟨pv, p, O, Is, p1, a, rfl, ha1, ha2, hO, hl, hp1, hH2⟩
  refine WL_v rfl (ov_move rfl) ?_
  refine WL_v rfl (ov_extract rfl rfl) ?_
  refine WL_v rfl (ov_extract rfl rfl) ?_
  refine WL_v rfl (ov_assign rfl) ?_
  refine WL_v rfl (ov_assign rfl) ?_
  refine WL_nil ?_
  refine WT_seq ?_
  refine WT_region ?_
  refine WL_v rfl (ov_move rfl) ?_
  obtain ⟨h', hle, hH3, hP, _⟩ := hO.freeze (Ls := rdr g bv p1 :: Ls) (hH2.perm (by
    have := (List.perm_middle (a := rdr g bv p1) (l₁ := O :: Is) (l₂ := Ls)).symm
    simpa using this))
  have hBm := hB'.mono hle
  have hgl := countsOf_len p
  have hG : (countsOf p).length ≤ 11 := by rw [hgl]; split <;> omega
  have hrg : ∀ i (hi : i < (countsOf p).length), 0 ≤ (countsOf p)[i] ∧ (countsOf p)[i] ≤ 1000 := fun i hi => by
    by_cases hv : planOk p = true
    · have hco : countsOf p = countsL p := by unfold countsOf; rw [if_pos hv]
      have hi2 : i < (countsL p).length := by rw [← hco]; exact hi
      have h1 : (countsOf p)[i] = ((needTo (p.getD i default).frm).length : Int) := by simp only [hco]; exact countsL_get hi2
      have h2 := needTo_len (p.getD i default).frm
      have h3 : i < p.length := by rw [countsL_len] at hi2; exact hi2
      have h4 : (p.getD i default).frm.length ≤ 2 := by rw [getD_of h3]; exact NodeOk.len2 (PlanOk.node hv h3)
      omega
    · rw [hgl, if_neg hv] at hi; omega
  have fin : ∀ {w : World} {X : Heaplet} {G : List Int} {q : Nat} {lv : Value}, IRow X 3 lv G → G.length ≤ 11 → H w h' (X :: rdr g bv q :: Ls) → DrewC h Ls (.tuple #[pv, lv, .int .i64 a]) w := fun hX hG hH => by
    obtain ⟨h2, hle2, hH5, hI⟩ := irow_freezeC hX hH
    exact ⟨pv, _, a, rfl, ha1, ha2, h2, p, _, hle.trans hle2, hP.mono hle2, hl, hI, hG, hH5.drop⟩
  refine WL_call rfl rfl cf_spec_CountsOf (sCountsOf_ok hH3 hP (by omega)) ?_; rintro lv w4 ⟨X, hX, hH4⟩
  refine WL_v rfl (ov_assign rfl) ?_
  refine WL_nil ?_
  refine WT_seq ?_
  refine WT_seq ?_
  refine WT_region ?_
  refine WL_v rfl (ov_move rfl) ?_
  generalize countsOf p = G at hX hG hrg
  clear hgl
  by_cases h0 : (0 : Int) < (G.length : Int)
  case neg =>
    refine WL_v rfl (ov_len rfl hX.sl st_sl_int) ?_
    refine WL_v rfl (ov_F (ov_gtr rfl rfl) (by first | exact decide_eq_false h0 | exact nb_F h0 | exact mb_F h0 | exact h0 | (simp only [decide_eq_false_iff_not]; omega) | simpa using h0)) ?_
    refine WL_v rfl (ov_move rfl) ?_
    refine WL_guardOff rfl rfl rfl rfl ?_
    refine WL_guardOff rfl rfl rfl rfl ?_
    refine WL_guardOff rfl rfl rfl rfl ?_
    refine WL_v rfl (ov_pickF rfl rfl) ?_
    refine WL_nil ?_
    refine WT_condF rfl ?_
    refine WT_skip ?_
    refine WT_seq ?_
    refine WT_region ?_
    refine WL_v rfl (ov_move rfl) ?_
    refine WL_v rfl (ov_move rfl) ?_
    refine WL_v rfl (ov_move rfl) ?_
    refine WL_v rfl (ov_assign rfl) ?_
    refine WL_v rfl (ov_assign rfl) ?_
    refine WL_v rfl (ov_assign rfl) ?_
    refine WL_nil ?_
    exact WT_ret3 Try.func44 Try.results44 rfl rfl rfl (fin hX hG hH4)
  refine WL_v rfl (ov_len rfl hX.sl st_sl_int) ?_
  refine WL_v rfl (ov_T (ov_gtr rfl rfl) (by first | exact decide_eq_true h0 | exact nb_T h0 | exact mb_T h0 | exact h0 | (simp only [decide_eq_true_eq]; omega) | simpa using h0)) ?_
  refine WL_v rfl (ov_move rfl) ?_
  refine WL_guardOn rfl rfl ?_
  refine WL_v rfl (ov_move rfl) ?_
  refine WL_guardOn rfl rfl ?_
  refine WL_call rfl rfl cf_p_spec_l6Rd_pick (pick_ok hH4.swap hBm (by omega) 5) ?_; rintro _ w5 ⟨r1, rfl, hr1, hH5⟩
  refine WL_guardOn rfl rfl ?_
  refine WL_v rfl (ov_eql rfl rfl) ?_
  refine WL_v rfl (ov_pickT rfl rfl) ?_
  refine WL_nil ?_
  refine WT_cond rfl (fun h1 => ?_) (fun h1 => ?_)
  · skip
    first | with_reducible replace h1 := of_decide_eq_true h1 | with_reducible replace h1 := bn_T h1 | with_reducible replace h1 := bb_T h1 | skip
    refine WT_seq ?_
    refine WT_region ?_
    refine WL_v rfl (ov_move rfl) ?_
    refine WL_v rfl (ov_move rfl) ?_
    refine WL_v rfl (ov_len rfl hX.sl st_sl_int) ?_
    refine WL_call rfl rfl cf_p_spec_l6Rd_pick (pick_ok hH5 hBm (by omega) G.length) ?_; rintro _ w6 ⟨r2, rfl, hr2, hH6⟩
    refine WL_v rfl (ov_assign rfl) ?_
    refine WL_nil ?_
    have hr2G : r2 < G.length := by have := hr2.1 (by omega); omega
    have hrr := hrg r2 hr2G
    refine WT_mixO (i := 1) [(0, 0), (1, 0), (2, 0), (3, 0), (4, 0), (5, 0), (6, 0), (7, 0), (8, 1), (9, 0), (10, 0), (11, 2)] mixed (by kernel_rfl) hH6 rfl ?_
    clear hH6
    intro w7 hH6 hC
    refine WM_v rfl rfl hC (fun _ _ => ov_move rfl) ?_
    refine WM_v rfl rfl hC (fun _ _ => ov_move rfl) ?_
    refine WM_v rfl rfl hC (fun _ _ => ov_move rfl) ?_
    refine WM_v rfl rfl hC (fun _ _ => ov_move rfl) ?_
    refine WM_v rfl rfl hC (fun _ _ => ov_index rfl rfl st_sl_int hX.sl hr2G) ?_
    refine WM_v rfl rfl hC (fun _ ⟨_, hH⟩ => ov_load rfl one_int (hX.cell hH (i := 1) rfl hr2G)) ?_
    refine WM_v rfl rfl hC (fun _ _ => ov_sub rfl rfl (by omega)) ?_
    refine WM_v rfl rfl hC (fun _ _ => ov_move rfl) ?_
    refine WM_e rfl ?_
    refine WL_call rfl rfl cf_p_spec_l6Rd_pick (pick_ok hH6 hBm (by omega) 3) ?_; rintro _ w8 ⟨r3, rfl, hr3, hH8⟩
    replace hC : Cl _ _ _ := Cl.one hH8 (i := 1) rfl
    refine WL_mix (fun _ => hC) ?_
    refine WM_v rfl rfl hC (fun _ _ => ov_add rfl rfl (by have := hr3.1 (by omega); omega)) ?_
    refine WM_v rfl rfl hC (fun _ _ => ov_index rfl rfl st_sl_int hX.sl hr2G) ?_
    refine WM_e rfl ?_
    refine WL_storeI hH8 rfl rfl (i := 1) rfl hX hr2G sz_int ?_; rintro X2 w9 hX2 hH9
    refine WL_mix (fun h => absurd rfl h) ?_
    refine WM_nil ?_
    refine WT_seq ?_
    refine WT_region ?_
    refine WL_v rfl (ov_move rfl) ?_
    refine WL_v rfl (ov_move rfl) ?_
    refine WL_v rfl (ov_move rfl) ?_
    refine WL_v rfl (ov_assign rfl) ?_
    refine WL_v rfl (ov_assign rfl) ?_
    refine WL_v rfl (ov_assign rfl) ?_
    refine WL_nil ?_
    exact WT_ret3 Try.func44 Try.results44 rfl rfl rfl (fin hX2 (by simpa using hG) hH9.swap)
  first | with_reducible replace h1 := of_decide_eq_false h1 | with_reducible replace h1 := bn_F h1 | with_reducible replace h1 := bb_F h1 | skip
  refine WT_skip ?_
  refine WT_seq ?_
  refine WT_region ?_
  refine WL_v rfl (ov_move rfl) ?_
  refine WL_v rfl (ov_move rfl) ?_
  refine WL_v rfl (ov_move rfl) ?_
  refine WL_v rfl (ov_assign rfl) ?_
  refine WL_v rfl (ov_assign rfl) ?_
  refine WL_v rfl (ov_assign rfl) ?_
  refine WL_nil ?_
  exact WT_ret3 Try.func44 Try.results44 rfl rfl rfl (fin hX hG hH5.swap)

theorem rdl_cons {X : Heaplet} {v : Value} {xs : List Int} (hA : RdL h Ls v xs) : RdL h (X :: Ls) v xs := ⟨hA.sl, fun hH _ hj => hA.cell hH.drop hj⟩

theorem fnCountsAll_walk (hH : H w h Ls) {cv : Value} {bs : List Int} (hB : Bytes h cv bs) : Rets Try.prog 4 #[cv] w fun v w' => v = .bool true ∧ H w' h Ls := by
  refine rets_enter Try.func4 rfl Try.ntmps4 (by simp) ?_
  refine WT_seq ?_
  refine WT_region ?_
  refine WL_v rfl (ov_assign rfl) ?_
  refine WL_nil ?_
  refine WT_seq ?_
  refine WT_seq ?_
  refine WT_region ?_
  refine WL_v rfl (ov_move rfl) ?_
  refine WL_v rfl (ov_len rfl hB.sl st_sl_uint8) ?_
  refine WL_v rfl (ov_gtr rfl rfl) ?_
  refine WL_nil ?_
  refine WT_cond rfl (fun hl => ?_) (fun hl => ?_)
  · skip
    first | with_reducible replace hl := of_decide_eq_true hl | with_reducible replace hl := bn_T hl | with_reducible replace hl := bb_T hl | skip
    refine WT_seq ?_
    refine WT_region ?_
    refine WL_v rfl (ov_assign rfl) ?_
    refine WL_nil ?_
    exact WT_ret1 Try.func4 Try.results4 rfl ⟨rfl, hH⟩
  first | with_reducible replace hl := of_decide_eq_false hl | with_reducible replace hl := bn_F hl | with_reducible replace hl := bb_F hl | skip
  refine WT_skip ?_
  refine WT_seq ?_
  refine WT_region ?_
  refine WL_v rfl (ov_move rfl) ?_
  refine WL_call rfl rfl cf_spec_DrawCountsOf (drawCountsOf_ok hH hB) ?_; rintro pv w1 ⟨h', p, hle, hP, hpl, hH1⟩
  refine WL_v rfl (ov_assign rfl) ?_
  refine WL_nil ?_
  refine WT_seq ?_
  refine WT_region ?_
  refine WL_v rfl (ov_move rfl) ?_
  refine WL_call rfl rfl cf_impl_CountsOf (countsOf_ok hH1 hP) ?_; rintro ov w2 ⟨X, hX, hH2⟩
  refine WL_v rfl (ov_assign rfl) ?_
  refine WL_nil ?_
  refine WT_seq ?_
  refine WT_region ?_
  refine WL_v rfl (ov_move rfl) ?_
  refine WL_call rfl rfl cf_spec_CountsOf (sCountsOf_ok hH2 hP (by omega)) ?_; rintro sv w3 ⟨Y, hY, hH3⟩
  refine WL_v rfl (ov_assign rfl) ?_
  refine WL_nil ?_
  refine WT_seq ?_
  refine WT_seq ?_
  refine WT_region ?_
  refine WL_v rfl (ov_move rfl) ?_
  refine WL_v rfl (ov_move rfl) ?_
  refine WL_call rfl rfl cf_laws_sameRow (sameRow_ok hH3 (hX.rdl (i := 1) rfl) (hY.rdl (i := 0) rfl)) ?_; rintro _ w4 ⟨rfl, hH4⟩
  refine WL_v rfl (ov_F (ov_not rfl) (by simp)) ?_
  refine WL_v rfl (ov_move rfl) ?_
  refine WL_guardOn rfl rfl ?_
  refine WL_v rfl (ov_move rfl) ?_
  refine WL_guardOn rfl rfl ?_
  refine WL_v rfl (ov_len rfl hY.sl st_sl_int) ?_
  refine WL_guardOn rfl rfl ?_
  refine WL_v rfl (ov_eql rfl rfl) ?_
  refine WL_v rfl (ov_pickF rfl rfl) ?_
  refine WL_nil ?_
  refine WT_cond rfl (fun h0 => ?_) (fun h0 => ?_)
  · skip
    first | with_reducible replace h0 := of_decide_eq_true h0 | with_reducible replace h0 := bn_T h0 | with_reducible replace h0 := bb_T h0 | skip
    refine WT_seq ?_
    refine WT_region ?_
    refine WL_v rfl (ov_move rfl) ?_
    refine WL_v rfl (ov_move rfl) ?_
    refine WL_call rfl rfl cf_laws_sameRow (sameRow_ok hH4 (hX.rdl (i := 1) rfl) (hY.rdl (i := 0) rfl)) ?_; rintro _ w6 ⟨rfl, hH6⟩
    refine WL_v rfl (ov_assign rfl) ?_
    refine WL_nil ?_
    exact WT_ret1 Try.func4 Try.results4 rfl ⟨by simp, (hH6.weak hle).drop.drop⟩
  first | with_reducible replace h0 := of_decide_eq_false h0 | with_reducible replace h0 := bn_F h0 | with_reducible replace h0 := bb_F h0 | skip
  have hgl := countsOf_len p
  have hv : planOk p = true := by
    cases hp : planOk p with
    | true => rfl
    | false => rw [hp] at hgl; simp at hgl; rw [hgl] at h0; exact absurd rfl h0
  have hlen := PlanOk.len hv
  have hco : countsOf p = leftK p 0 := by unfold countsOf countsL; rw [if_pos hv, leftK_zero]
  rw [hco] at hX
  refine WT_skip ?_
  refine WT_seq ?_
  refine WT_region ?_
  refine WL_v rfl (ov_move rfl) ?_
  refine WL_v rfl (ov_assign rfl) ?_
  refine WL_nil ?_
  refine WT_seq ?_
  refine WT_seq ?_
  refine WT_region ?_
  refine WL_v rfl (ov_assign rfl) ?_
  refine WL_nil ?_
  refine WT_block ?_
  refine WT_while (fun s : Nat × Value => [(3, pv), (6, s.2), (7, .int .i64 (s.1 : Int))]) (fun s w => s.1 ≤ p.length ∧ ∃ Z, IRow Z 3 s.2 (leftK p s.1) ∧ H w h' (Z :: Ls)) (fun s => p.length - s.1) (0, ov) (by repeat (first | exact trivial | refine ⟨rfl, ?_⟩)) ⟨by omega, X, hX, hH4.drop⟩ ?_
  clear hH hH1 hH2 hH3 hH4 hX hY
  rintro ⟨k, xv⟩ w5 ⟨hk, Z, hZ, hH⟩ again
  simp only at hk hZ
  have hll := leftK_len p k
  refine WT_seq ?_
  refine WT_seq ?_
  refine WT_region ?_
  refine WL_v rfl (ov_move rfl) ?_
  refine WL_v rfl (ov_move rfl) ?_
  refine WL_v rfl (ov_len rfl hP.sl st_sl_impl_Node) ?_
  refine WL_v rfl (ov_lss rfl rfl) ?_
  refine WL_nil ?_
  refine WT_cond rfl (fun hc => ?_) (fun hc => ?_)
  · skip
    first | with_reducible replace hc := of_decide_eq_true hc | with_reducible replace hc := bn_T hc | with_reducible replace hc := bb_T hc | skip
    simp only at hc
    have hkp : k < p.length := by omega
    obtain ⟨g1, g2, g3⟩ := leftK_ok hv hkp
    have hkl : k < (leftK p k).length := by omega
    have hck := countsDone_ok hH hP (hZ.rdl (i := 0) rfl) (by omega) (k : Int)
    rw [getD_elem hkl] at g3
    refine WT_skip ?_
    refine WT_seq ?_
    refine WT_block ?_
    refine WT_seq ?_
    refine WT_region ?_
    refine WL_v rfl (ov_move rfl) ?_
    refine WL_v rfl (ov_move rfl) ?_
    refine WL_v rfl (ov_move rfl) ?_
    refine WL_call rfl rfl cf_impl_CountsDone (hck) ?_; rintro _ w6 ⟨X2, Y2, xv2, yv2, rfl, hX2, hY2, hH6⟩
    refine WL_v rfl (ov_move rfl) ?_
    refine WL_v rfl (ov_extract rfl rfl) ?_
    refine WL_v rfl (ov_extract rfl rfl) ?_
    refine WL_v rfl (ov_extract rfl rfl) ?_
    refine WL_v rfl (ov_assign rfl) ?_
    refine WL_v rfl (ov_assign rfl) ?_
    refine WL_v rfl (ov_assign rfl) ?_
    refine WL_nil ?_
    refine WT_seq ?_
    refine WT_seq ?_
    refine WT_region ?_
    refine WL_v rfl (ov_move rfl) ?_
    refine WL_v rfl (ov_F (ov_not rfl) (by rw [g1]; rfl)) ?_
    refine WL_v rfl (ov_move rfl) ?_
    refine WL_guardOn rfl rfl ?_
    refine WL_v rfl (ov_move rfl) ?_
    refine WL_guardOn rfl rfl ?_
    refine WL_v rfl (ov_move rfl) ?_
    refine WL_guardOn rfl rfl ?_
    refine WL_v rfl (ov_index rfl rfl st_sl_int hZ.sl hkl) ?_
    refine WL_guardOn rfl rfl ?_
    refine WL_v rfl (ov_load rfl one_int (hZ.cell hH6 (i := 2) rfl hkl)) ?_
    refine WL_guardOn rfl rfl ?_
    refine WL_v rfl (ov_F (ov_neq rfl rfl) (by rw [g3]; rfl)) ?_
    refine WL_v rfl (ov_pickF rfl rfl) ?_
    refine WL_nil ?_
    refine WT_condF rfl ?_
    refine WT_skip ?_
    refine WT_region ?_
    refine WL_v rfl (ov_move rfl) ?_
    refine WL_v rfl (ov_assign rfl) ?_
    refine WL_nil ?_
    refine WT_inBlock ?_
    refine WT_region ?_
    refine WL_v rfl (ov_move rfl) ?_
    refine WL_v rfl (ov_add rfl rfl (by omega)) ?_
    refine WL_v rfl (ov_assign rfl) ?_
    refine WL_nil ?_
    refine again (k + 1, xv2) _ _ (by simp only; omega) (by repeat (first | exact trivial | refine ⟨rfl, ?_⟩)) ⟨by simp only; omega, X2, ?_, (hH6.del 2 rfl).del 1 rfl⟩
    unfold doneCo at hX2
    rw [if_pos g1, g2] at hX2
    exact hX2
  first | with_reducible replace hc := of_decide_eq_false hc | with_reducible replace hc := bn_F hc | with_reducible replace hc := bb_F hc | skip
  simp only at hc
  obtain rfl : k = p.length := by omega
  have hz : zerosL (leftK p p.length) (leftK p p.length).length = List.range p.length := by
    rw [leftK_all hv, List.length_replicate]
    refine List.filter_eq_self.2 fun i hi => ?_
    have := List.mem_range.1 hi
    simp [this]
  refine WT_exit rfl ?_
  refine WT_seq ?_
  refine WT_region ?_
  refine WL_v rfl (ov_move rfl) ?_
  refine WL_call rfl rfl cf_impl_CountsReady (countsReady_ok hH (hZ.rdl (i := 0) rfl) (by omega)) ?_; rintro _ w6 ⟨R, hR, hH6⟩
  refine WL_v rfl (ov_len rfl hR.sl st_sl_int) ?_
  refine WL_v rfl (ov_move rfl) ?_
  refine WL_v rfl (ov_len rfl hP.sl st_sl_impl_Node) ?_
  refine WL_v rfl (ov_T (ov_eql rfl rfl) (by rw [hz]; simp [toI])) ?_
  refine WL_v rfl (ov_assign rfl) ?_
  refine WL_nil ?_
  exact WT_ret1 Try.func4 Try.results4 rfl ⟨rfl, (hH6.weak hle).drop.drop⟩
end
end Go.Proofs.Ytmcedghgincaaaa
