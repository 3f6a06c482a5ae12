/- Walks: the first ones that do the same. -/
import Derived.Test.YtmcedghgincaaaaWkKK
namespace Go.Proofs.Ytmcedghgincaaaa
open Go.RowKit

section
variable {h : GH} {Ls : List Heaplet} {w : World}

theorem ten_of {l : List Int} (h : l.length = 10) : ∃ a0 a1 a2 a3 a4 a5 a6 a7 a8 a9, l = [a0, a1, a2, a3, a4, a5, a6, a7, a8, a9] := by
  match l, h with
  | [a0, a1, a2, a3, a4, a5, a6, a7, a8, a9], _ => exact ⟨a0, a1, a2, a3, a4, a5, a6, a7, a8, a9, rfl⟩
/-- What the map holds. -/
def mapL (L : List (List Int × Int)) : List (Value × Value) := L.map fun q => (.agg (q.1.map (Value.int .i64)).toArray, .int .i64 q.2)
theorem agg_inj {a b : List Int} (h : Value.agg (a.map (Value.int .i64)).toArray = .agg (b.map (Value.int .i64)).toArray) : a = b := by
  injection h with h1
  have h2 := congrArg Array.toList h1
  exact (List.map_inj_right (f := Value.int .i64) (fun x y hxy => by injection hxy)).1 h2
theorem und_map : Try.prog.underlying 112 = some (.map 115 3) := by kernel_rfl
theorem zero_int0 (W : World) : (zeroValue 3).run Try.prog W = .ok (.int .i64 0) W := by kernel_rfl
/-- A key's numbers are small. -/
theorem keyL_rg {p : List Nd} (hv : planOk p = true) {k : Nat} (hk : k < p.length) {fs : List Int} {L : List (List Int × Int)} (h : Shr p k fs L) : ∀ n ∈ keyL p[k] fs, -9223372036854775808 ≤ n ∧ n ≤ 9223372036854775807 := by
  have hN := PlanOk.node hv hk
  have hfr := hN.frm
  have hlen := PlanOk.len hv
  have hfs : ∀ f ∈ p[k].frm, 0 ≤ fs.getD f.toNat 0 ∧ fs.getD f.toNat 0 ≤ 10 := fun f hf => by
    have h1 := hfr f hf
    obtain ⟨j, h2, h3, _⟩ := h.first (i := f.toNat) (by omega)
    omega
  have hA : -1 ≤ keyA p[k] fs ∧ keyA p[k] fs ≤ 10 := by
    unfold keyA
    cases hx : p[k].frm with
    | nil => simp
    | cons f r => have := hfs f (by rw [hx]; simp); simp only; omega
  have hB : -1 ≤ keyB p[k] fs ∧ keyB p[k] fs ≤ 10 := by
    unfold keyB
    cases hx : p[k].frm with
    | nil => simp
    | cons f r =>
      cases r with
      | nil => simp
      | cons g r => have := hfs g (by rw [hx]; simp); simp only; omega
  have hkk : 0 ≤ p[k].kind ∧ p[k].kind ≤ 5 := by simpa [kindOk] using hN.kind
  have hrl := rowOk_six hN.row
  have hrv : ∀ x ∈ p[k].row, 0 ≤ x ∧ x ≤ 1008 := by
    have := hN.row
    unfold rowOk at this
    rw [Bool.and_eq_true, List.all_eq_true] at this
    exact fun x hx => of_decide_eq_true (this.1 x hx)
  intro n hn
  unfold keyL at hn
  simp only [List.mem_cons] at hn
  rcases hn with rfl | rfl | rfl | rfl | hn
  · omega
  · split <;> omega
  · split <;> omega
  · omega
  · rcases List.mem_append.1 (List.mem_of_mem_take hn) with hn | hn
    · have := hrv n hn; omega
    · have := List.eq_of_mem_replicate hn; omega

set_option maxHeartbeats 1000000 in
theorem shareFirst_ok (hH : H w h Ls) {pv : Value} {p : List Nd} (hP : Plan h pv p) (hv : planOk p = true) : Rets Try.prog 65 #[pv] w fun v w' => ∃ X fs L, IRow X 3 v fs ∧ Shr p p.length fs L ∧ H w' h (X :: Ls) := by
  have hlen := PlanOk.len hv
  refine rets_enter Try.func65 rfl Try.ntmps65 (by simp) ?_
  refine WT_seq ?_
  refine WT_region ?_
  refine WL_v rfl (ov_assign rfl) ?_
  refine WL_nil ?_
  refine WT_seq ?_
  refine WT_seq ?_
  refine WT_region ?_
  refine WL_v rfl (ov_move rfl) ?_
  refine WL_call rfl rfl cf_impl_PlanValid (planValid_ok hH hP) ?_; rintro _ w1 ⟨rfl, hH1⟩
  refine WL_v rfl (ov_F (ov_not rfl) (by first | exact decide_eq_false hv | exact nb_F hv | exact mb_F hv | exact hv | (simp only [decide_eq_false_iff_not]; omega) | simpa using hv)) ?_
  refine WL_nil ?_
  refine WT_condF rfl ?_
  refine WT_skip ?_
  refine WT_seq ?_
  refine WT_region ?_
  refine WL_makeMap shG rfl hH1 ?_; rintro M0 mv w2 hM0 hH2
  refine WL_v rfl (ov_assign rfl) ?_
  refine WL_nil ?_
  refine WT_seq ?_
  refine WT_region ?_
  refine WL_v rfl (ov_move rfl) ?_
  refine WL_v rfl (ov_len rfl hP.sl st_sl_impl_Node) ?_
  refine WL_make (sz := 1) (n := 0) (c := p.length) rfl hH2 rfl rfl st_sl_int (by omega) (by omega) (by omega) (by omega) ?_; rintro X0 fv0 w3 hX0 hH3
  refine WL_v rfl (ov_assign rfl) ?_
  refine WL_nil ?_
  refine WT_seq ?_
  refine WT_seq ?_
  refine WT_region ?_
  refine WL_v rfl (ov_move rfl) ?_
  refine WL_v rfl (ov_len rfl hP.sl st_sl_impl_Node) ?_
  refine WL_v rfl (ov_move rfl) ?_
  refine WL_nil ?_
  refine WT_block ?_
  refine WT_while (fun s : Nat × Value => [(0, pv), (3, mv), (4, s.2), (17, pv), (18, .int .i64 (p.length : Int)), (19, .int .i64 (s.1 : Int))]) (fun s w => s.1 ≤ p.length ∧ ∃ X M fs L, IRow X 3 s.2 fs ∧ MRow M shG mv (mapL L) ∧ Shr p s.1 fs L ∧ H w h (X :: M :: Ls)) (fun s => p.length - s.1) (0, fv0) (by repeat (first | exact trivial | refine ⟨rfl, ?_⟩)) ⟨by omega, X0, M0, [], [], by simpa [IRow] using hX0, hM0, Shr.nil p, hH3⟩ ?_
  clear hH hH1 hH2 hH3 hX0 hM0
  rintro ⟨k, fv⟩ w4 ⟨hk, X, M, fs, L, hX, hM, hS, hH⟩ again
  simp only at hk hX hS
  refine WT_seq ?_
  refine WT_region ?_
  refine WL_v rfl (ov_lss rfl rfl) ?_
  refine WL_nil ?_
  refine WT_seq ?_
  refine WT_cond rfl (fun hc => ?_) (fun hc => ?_)
  · skip
    first | with_reducible replace hc := of_decide_eq_true hc | with_reducible replace hc := bn_T hc | with_reducible replace hc := bb_T hc | skip
    have hkp : k < p.length := by simp only at hc; omega
    obtain ⟨ffv, rv, hf, hr, hcell⟩ := hP.node hkp
    have hN := PlanOk.node hv hkp
    have hfl := hS.len
    have hfb : ∀ x ∈ p[k].frm, 0 ≤ x ∧ x < (fs.length : Int) := fun x hx => by rw [hfl]; exact hN.frm x hx
    obtain ⟨a0, a1, a2, a3, a4, a5, a6, a7, a8, a9, hkey⟩ := ten_of (keyL_len p[k] fs)
    have hG : shG (.agg #[.int .i64 a0, .int .i64 a1, .int .i64 a2, .int .i64 a3, .int .i64 a4, .int .i64 a5, .int .i64 a6, .int .i64 a7, .int .i64 a8, .int .i64 a9]) := by
      have := sh_key (keyL_len p[k] fs) (keyL_rg hv hkp hS)
      rw [hkey] at this
      exact this
    have hko : ∀ {w Ls'} (hH : H w h Ls') {sv : Value}, RdL h Ls' sv fs → Rets Try.prog 103 #[.agg [.int .i64 p[k].kind, ffv, rv].toArray, sv] w fun v w' => v = .agg #[.int .i64 a0, .int .i64 a1, .int .i64 a2, .int .i64 a3, .int .i64 a4, .int .i64 a5, .int .i64 a6, .int .i64 a7, .int .i64 a8, .int .i64 a9] ∧ H w' h Ls' := fun hH _ hSv =>
      (shareKeyOf_ok hH (hf.rdl _) (hr.rdl _) hSv (rowOk_six hN.row) hfb).mono fun _ _ hh => ⟨by rw [hh.1, show keyL ⟨p[k].kind, p[k].frm, p[k].row⟩ fs = keyL p[k] fs from rfl, hkey]; rfl, hh.2⟩
    refine WT_skip ?_
    refine WT_seq ?_
    refine WT_block ?_
    refine WT_seq ?_
    refine WT_region ?_
    refine WL_v rfl (ov_move rfl) ?_
    refine WL_v rfl (ov_index rfl rfl st_sl_impl_Node hP.sl hkp) ?_
    refine WL_v rfl (ov_loadN [.int .i64 p[k].kind, ffv, rv] rfl agg_impl_Node rfl ((hcell _ _ hH))) ?_
    refine WL_alloc _ rfl hH zero_impl_Node rfl ?_; rintro g w5 hH5
    refine WL_v rfl (ov_assign rfl) ?_
    refine WL_storeN hH5 rfl rfl (i := 0) rfl rfl rfl (ones_cons rfl (ones_cons hf.sl.one (ones_cons hr.sl.one ones_nil))) sz_impl_Node ?_; rintro w6 hH6
    refine WL_nil ?_
    refine WT_seq ?_
    refine WT_region ?_
    refine WL_v rfl (ov_loadN [.int .i64 p[k].kind, ffv, rv] rfl agg_impl_Node rfl ((fun j v hj => by rw [show Addr.add ⟨g, 0, none⟩ j = ⟨g, j, none⟩ by simp [add_of]]; exact (hH6.cb 0 rfl j).trans (by simpa using hj)))) ?_
    refine WL_v rfl (ov_move rfl) ?_
    refine WL_call rfl rfl cf_impl_shareKeyOf (hko hH6 (hX.rdl (i := 1) rfl)) ?_; rintro _ w7 ⟨rfl, hH7⟩
    refine WL_alloc _ rfl hH7 zero_key rfl ?_; rintro g2 w8 hH8
    refine WL_storeN hH8 rfl rfl (i := 0) rfl rfl rfl (ones_cons rfl (ones_cons rfl (ones_cons rfl (ones_cons rfl (ones_cons rfl (ones_cons rfl (ones_cons rfl (ones_cons rfl (ones_cons rfl (ones_cons rfl ones_nil)))))))))) sz_impl_shareKey ?_; rintro w9 hH9
    refine WL_nil ?_
    refine WT_seq ?_
    refine WT_region ?_
    refine WL_v rfl (ov_move rfl) ?_
    refine WL_v rfl (ov_loadN [.int .i64 a0, .int .i64 a1, .int .i64 a2, .int .i64 a3, .int .i64 a4, .int .i64 a5, .int .i64 a6, .int .i64 a7, .int .i64 a8, .int .i64 a9] rfl agg_impl_shareKey rfl ((fun j v hj => by rw [show Addr.add ⟨g2, 0, none⟩ j = ⟨g2, j, none⟩ by simp [add_of]]; exact (hH9.cb 0 rfl j).trans (by simpa using hj)))) ?_
    rcases Classical.em (∀ q ∈ mapL L, q.1 ≠ .agg #[.int .i64 a0, .int .i64 a1, .int .i64 a2, .int .i64 a3, .int .i64 a4, .int .i64 a5, .int .i64 a6, .int .i64 a7, .int .i64 a8, .int .i64 a9]) with hno | hyes
    · skip
      refine WL_lookup (i := 3) rfl hH9 rfl rfl und_map zero_int0 shK rfl hM hG (fun _ => ?_) (fun j u hj => absurd rfl (hno _ (List.mem_of_getElem? hj)))
      refine WL_v rfl (ov_move rfl) ?_
      refine WL_v rfl (ov_extract rfl rfl) ?_
      refine WL_v rfl (ov_extract rfl rfl) ?_
      refine WL_v rfl (ov_assign rfl) ?_
      refine WL_v rfl (ov_assign rfl) ?_
      refine WL_nil ?_
      refine WT_seq ?_
      refine WT_seq ?_
      refine WT_region ?_
      refine WL_v rfl (ov_move rfl) ?_
      refine WL_v rfl (ov_not rfl) ?_
      refine WL_nil ?_
      refine WT_cond rfl (fun hx => ?_) (fun hx => ?_)
      · skip
        first | with_reducible replace hx := of_decide_eq_true hx | with_reducible replace hx := bn_T hx | with_reducible replace hx := bb_T hx | skip
        refine WT_seq ?_
        refine WT_region ?_
        refine WL_v rfl (ov_move rfl) ?_
        refine WL_v rfl (ov_assign rfl) ?_
        refine WL_nil ?_
        refine WT_region ?_
        refine WL_v rfl (ov_move rfl) ?_
        refine WL_v rfl (ov_loadN [.int .i64 a0, .int .i64 a1, .int .i64 a2, .int .i64 a3, .int .i64 a4, .int .i64 a5, .int .i64 a6, .int .i64 a7, .int .i64 a8, .int .i64 a9] rfl agg_impl_shareKey rfl ((fun j v hj => by rw [show Addr.add ⟨g2, 0, none⟩ j = ⟨g2, j, none⟩ by simp [add_of]]; exact (hH9.cb 0 rfl j).trans (by simpa using hj)))) ?_
        refine WL_v rfl (ov_move rfl) ?_
        refine WL_mapNew (i := 3) hH9 rfl rfl rfl und_map shK rfl hM hG hno ?_; rintro M2 w10 hM2 hH10
        refine WL_nil ?_
        refine WT_region ?_
        refine WL_v rfl (ov_move rfl) ?_
        refine WL_v rfl (ov_move rfl) ?_
        refine WL_bsI rfl hH10 rfl (run_bs_int _) ?_; rintro Z zv w11 hZ hH11
        refine WL_appI (i := 3) (j := 0) rfl hH11 rfl rfl st_sl_int rfl hX rfl hZ (by simp; omega) (by simp; omega) ?_; rintro X2 fv2 w12 hX2 hH12
        refine WL_v rfl (ov_assign rfl) ?_
        refine WL_nil ?_
        refine WT_inBlock ?_
        refine WT_region ?_
        refine WL_v rfl (ov_add rfl rfl (by omega)) ?_
        refine WL_v rfl (ov_move rfl) ?_
        refine WL_nil ?_
        have hne : ∀ q ∈ L, q.1 ≠ keyL (p.getD k default) fs := fun q hq he => hno _ (List.mem_map.2 ⟨q, hq, rfl⟩) (by rw [he, getD_of hkp, hkey]; rfl)
        have hS2 := hS.new hv hkp hne
        rw [getD_of hkp, hkey] at hS2
        refine again (k + 1, fv2) _ _ (by simp only; omega) (by repeat (first | exact trivial | refine ⟨rfl, ?_⟩)) ⟨by simp only; omega, X2, M2, _, _, hX2, by simpa [mapL] using hM2, hS2, hH12.drop.drop.drop⟩
      first | with_reducible replace hx := of_decide_eq_false hx | with_reducible replace hx := bn_F hx | with_reducible replace hx := bb_F hx | skip
      simp at hx
    have hfind : ∀ (j : Nat) (u : Value), (mapL L)[j]? = some (.agg #[.int .i64 a0, .int .i64 a1, .int .i64 a2, .int .i64 a3, .int .i64 a4, .int .i64 a5, .int .i64 a6, .int .i64 a7, .int .i64 a8, .int .i64 a9], u) → ∃ i : Int, u = .int .i64 i ∧ L[j]? = some (keyL (p.getD k default) fs, i) := fun j u hj => by
      unfold mapL at hj
      rw [List.getElem?_map] at hj
      cases hq : L[j]? with
      | none => rw [hq] at hj; cases hj
      | some q =>
        rw [hq] at hj
        simp only [Option.map_some, Option.some.injEq, Prod.mk.injEq] at hj
        obtain ⟨h1, h2⟩ := hj
        refine ⟨q.2, h2.symm, ?_⟩
        have h3 : q.1 = keyL p[k] fs := agg_inj (by rw [hkey]; exact h1)
        rw [getD_of hkp, ← h3]
    refine WL_lookup (i := 3) rfl hH9 rfl rfl und_map zero_int0 shK rfl hM hG (fun hno => absurd hno hyes) (fun j u hj => ?_); obtain ⟨i, rfl, hjL⟩ := hfind j u hj
    refine WL_v rfl (ov_move rfl) ?_
    refine WL_v rfl (ov_extract rfl rfl) ?_
    refine WL_v rfl (ov_extract rfl rfl) ?_
    refine WL_v rfl (ov_assign rfl) ?_
    refine WL_v rfl (ov_assign rfl) ?_
    refine WL_nil ?_
    refine WT_seq ?_
    refine WT_seq ?_
    refine WT_region ?_
    refine WL_v rfl (ov_move rfl) ?_
    refine WL_v rfl (ov_not rfl) ?_
    refine WL_nil ?_
    refine WT_cond rfl (fun hx => ?_) (fun hx => ?_)
    · skip
      first | with_reducible replace hx := of_decide_eq_true hx | with_reducible replace hx := bn_T hx | with_reducible replace hx := bb_T hx | skip
      simp at hx
    first | with_reducible replace hx := of_decide_eq_false hx | with_reducible replace hx := bn_F hx | with_reducible replace hx := bb_F hx | skip
    refine WT_skip ?_
    refine WT_region ?_
    refine WL_v rfl (ov_move rfl) ?_
    refine WL_v rfl (ov_move rfl) ?_
    refine WL_bsI rfl hH9 rfl (run_bs_int _) ?_; rintro Z zv w11 hZ hH11
    refine WL_appI (i := 3) (j := 0) rfl hH11 rfl rfl st_sl_int rfl hX rfl hZ (by simp; omega) (by simp; omega) ?_; rintro X2 fv2 w12 hX2 hH12
    refine WL_v rfl (ov_assign rfl) ?_
    refine WL_nil ?_
    refine WT_inBlock ?_
    refine WT_region ?_
    refine WL_v rfl (ov_add rfl rfl (by omega)) ?_
    refine WL_v rfl (ov_move rfl) ?_
    refine WL_nil ?_
    have hS2 := hS.old hv hkp hjL
    refine again (k + 1, fv2) _ _ (by simp only; omega) (by repeat (first | exact trivial | refine ⟨rfl, ?_⟩)) ⟨by simp only; omega, X2, M, _, L, hX2, hM, hS2, hH12.drop.drop.drop⟩
  first | with_reducible replace hc := of_decide_eq_false hc | with_reducible replace hc := bn_F hc | with_reducible replace hc := bb_F hc | skip
  have hkl : k = p.length := by simp only at hc; omega
  subst hkl
  refine WT_exit rfl ?_
  refine WT_seq ?_
  refine WT_region ?_
  refine WL_v rfl (ov_move rfl) ?_
  refine WL_v rfl (ov_assign rfl) ?_
  refine WL_nil ?_
  exact WT_ret1 Try.func65 Try.results65 rfl ⟨X, fs, L, hX, hS, hH.swap.drop⟩
end
end Go.Proofs.Ytmcedghgincaaaa
