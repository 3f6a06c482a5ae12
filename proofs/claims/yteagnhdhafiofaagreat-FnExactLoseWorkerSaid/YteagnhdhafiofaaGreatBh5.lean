/- Walks: a crew is valid: the reference. -/
import Derived.Test.YteagnhdhafiofaaGreatBh4
import Derived.Test.YteagnhdhafiofaaGreatSlM
namespace Go.Proofs.YteagnhdhafiofaaGreat
open Go.RowKit

theorem addr_eq : ∀ {a b : Addr}, a.block = b.block → a.off = b.off → a.spot = b.spot → a = b
  | ⟨_, _, _⟩, ⟨_, _, _⟩, rfl, rfl, rfl => rfl

section
variable {h : GH} {Ls : List Heaplet} {w : World}

theorem RdL.take {v : Value} {xs : List Int} {k : Nat} (hA : RdL h Ls v xs) (hk : k ≤ xs.length) : RdL h Ls (reslice v 0 k 1) (xs.take k) :=
  ⟨by
    have := reslice_sl (sz := 1) hA.sl (lo := 0) (hi := k) (by omega) hk
    rw [List.length_take, Nat.min_eq_left hk]
    simpa using this, fun hH j hj => by
    rw [List.length_take] at hj
    obtain ⟨h1, h2, h3⟩ := reslice_at (sz := 1) hA.sl (lo := 0) (hi := k) (by omega) hk
    obtain ⟨c, _, _, hsp⟩ := hA.sl.some (by omega)
    have : slA (reslice v 0 k 1) = slA v := addr_eq h1 (by rw [h3]; omega) (by rw [h2, hsp])
    rw [this, List.getElem_take]
    exact hA.cell hH (by omega)⟩

theorem l13Same_ok (hH : H w h Ls) {av bv : Value} {xs ys : List Int} (hA : RdL h Ls av xs) (hB : RdL h Ls bv ys) : Rets Tryz.prog 69 #[av, bv] w fun v w' => v = .bool (decide (xs = ys)) ∧ H w' h Ls := by
  have hal := hA.sl.lim
  refine rets_enter Tryz.func69 rfl Tryz.ntmps69 (by simp) ?_
  refine WT_seq ?_
  refine WT_region ?_
  refine WL_v rfl (ov_assign rfl) ?_
  refine WL_nil ?_
  refine WT_seq ?_
  refine WT_seq ?_
  refine WT_region ?_
  refine WL_v rfl (ov_move rfl) ?_
  refine WL_v rfl (ov_len rfl hA.sl st_sl_int) ?_
  refine WL_v rfl (ov_move rfl) ?_
  refine WL_v rfl (ov_len rfl hB.sl st_sl_int) ?_
  refine WL_v rfl (ov_neq rfl rfl) ?_
  refine WL_nil ?_
  refine WT_cond rfl (fun hne => ?_) (fun hne => ?_)
  · skip
    first | with_reducible replace hne := of_decide_eq_true hne | with_reducible replace hne := bn_T hne | with_reducible replace hne := bb_T hne | skip
    refine WT_seq ?_
    refine WT_region ?_
    refine WL_v rfl (ov_assign rfl) ?_
    refine WL_nil ?_
    exact WT_ret1 Tryz.func69 Tryz.results69 rfl ⟨congrArg Value.bool (decide_eq_false fun h => by subst h; exact hne rfl).symm, hH⟩
  first | with_reducible replace hne := of_decide_eq_false hne | with_reducible replace hne := bn_F hne | with_reducible replace hne := bb_F hne | skip
  have hlen : xs.length = ys.length := by omega
  refine WT_skip ?_
  refine WT_seq ?_
  refine WT_seq ?_
  refine WT_region ?_
  refine WL_v rfl (ov_assign rfl) ?_
  refine WL_nil ?_
  refine WT_block ?_
  refine WT_while (fun s : Nat => [(0, av), (1, bv), (5, .int .i64 (s : Int))]) (fun k w => k ≤ xs.length ∧ (∀ j (_ : j < k) (h1 : j < xs.length) (h2 : j < ys.length), xs[j] = ys[j]) ∧ H w h Ls) (fun k => xs.length - k) 0 (by repeat (first | exact trivial | refine ⟨rfl, ?_⟩)) ⟨by omega, by omega, hH⟩ ?_
  clear hH
  rintro k w2 ⟨hk, hall, hH1⟩ again
  refine WT_seq ?_
  refine WT_seq ?_
  refine WT_region ?_
  refine WL_v rfl (ov_move rfl) ?_
  refine WL_v rfl (ov_move rfl) ?_
  refine WL_v rfl (ov_len rfl hA.sl st_sl_int) ?_
  refine WL_v rfl (ov_lss rfl rfl) ?_
  refine WL_nil ?_
  refine WT_cond rfl (fun hc => ?_) (fun hc => ?_)
  · skip
    first | with_reducible replace hc := of_decide_eq_true hc | with_reducible replace hc := bn_T hc | with_reducible replace hc := bb_T hc | skip
    have hkx : k < xs.length := by omega
    have hky : k < ys.length := by omega
    refine WT_skip ?_
    refine WT_seq ?_
    refine WT_block ?_
    refine WT_seq ?_
    refine WT_quiet mixed (by kernel_rfl) hH1 ?_
    clear hH1
    refine WQ_v rfl (fun _ _ => ov_move rfl) ?_
    refine WQ_v rfl (fun _ _ => ov_move rfl) ?_
    refine WQ_v rfl (fun _ _ => ov_index rfl rfl st_sl_int hA.sl hkx) ?_
    refine WQ_v rfl (fun _ hH => ov_load rfl one_int (hA.cell hH hkx)) ?_
    refine WQ_v rfl (fun _ _ => ov_move rfl) ?_
    refine WQ_v rfl (fun _ _ => ov_move rfl) ?_
    refine WQ_v rfl (fun _ _ => ov_index rfl rfl st_sl_int hB.sl hky) ?_
    refine WQ_v rfl (fun _ hH => ov_load rfl one_int (hB.cell hH hky)) ?_
    refine WQ_v rfl (fun _ _ => ov_neq rfl rfl) ?_
    refine WQ_nil ?_
    intro w3 hH1
    refine WT_cond rfl (fun hne => ?_) (fun hne => ?_)
    · skip
      first | with_reducible replace hne := of_decide_eq_true hne | with_reducible replace hne := bn_T hne | with_reducible replace hne := bb_T hne | skip
      refine WT_seq ?_
      refine WT_region ?_
      refine WL_v rfl (ov_assign rfl) ?_
      refine WL_nil ?_
      exact WT_ret1 Tryz.func69 Tryz.results69 rfl ⟨congrArg Value.bool (decide_eq_false fun h => by subst h; exact hne rfl).symm, hH1⟩
    first | with_reducible replace hne := of_decide_eq_false hne | with_reducible replace hne := bn_F hne | with_reducible replace hne := bb_F hne | skip
    refine WT_skip ?_
    refine WT_inBlock ?_
    refine WT_region ?_
    refine WL_v rfl (ov_move rfl) ?_
    refine WL_v rfl (ov_add rfl rfl (by omega)) ?_
    refine WL_v rfl (ov_assign rfl) ?_
    refine WL_nil ?_
    refine again (k + 1) _ _ (by omega) (by repeat (first | exact trivial | refine ⟨rfl, ?_⟩)) ⟨by omega, fun j hj h1 h2 => ?_, hH1⟩
    rcases Nat.lt_or_ge j k with h3 | h3
    · exact hall j h3 h1 h2
    · obtain rfl : j = k := by omega
      exact hne
  first | with_reducible replace hc := of_decide_eq_false hc | with_reducible replace hc := bn_F hc | with_reducible replace hc := bb_F hc | skip
  obtain rfl : k = xs.length := by omega
  refine WT_exit rfl ?_
  refine WT_seq ?_
  refine WT_region ?_
  refine WL_v rfl (ov_assign rfl) ?_
  refine WL_nil ?_
  exact WT_ret1 Tryz.func69 Tryz.results69 rfl ⟨congrArg Value.bool (decide_eq_true (List.ext_getElem hlen fun j h1 h2 => hall j h1 h1 h2)).symm, hH1⟩

theorem l13Order_ok (hH : H w h Ls) {pv dv : Value} {p : List Nd} {dn : List Int} (hP : Plan h pv p) (hv : planOk p = true) (hD : RdL h Ls dv dn) : Rets Tryz.prog 63 #[pv, dv] w fun v w' => v = .bool (orderB p dn) ∧ H w' h Ls := by
  have hlen := PlanOk.len hv
  have hlim := hD.sl.lim
  have hno : ∀ k, k < dn.length → ordAt p dn k = false → orderB p dn = false := fun k hk hf => by
    cases ho : orderB p dn with
    | false => rfl
    | true => rw [(orderB_iff p dn).1 ho k hk] at hf; cases hf
  refine rets_enter Tryz.func63 rfl Tryz.ntmps63 (by simp) ?_
  refine WT_seq ?_
  refine WT_region ?_
  refine WL_v rfl (ov_assign rfl) ?_
  refine WL_nil ?_
  refine WT_seq ?_
  refine WT_seq ?_
  refine WT_region ?_
  refine WL_v rfl (ov_assign rfl) ?_
  refine WL_nil ?_
  refine WT_block ?_
  refine WT_while (fun k : Nat => [(0, pv), (1, dv), (5, .int .i64 (k : Int))]) (fun k w => k ≤ dn.length ∧ (∀ i, i < k → ordAt p dn i = true) ∧ H w h Ls) (fun k => dn.length - k) 0 (by repeat (first | exact trivial | refine ⟨rfl, ?_⟩)) ⟨by omega, by omega, hH⟩ ?_
  clear hH
  rintro k w2 ⟨hk, hall, hH⟩ again
  refine WT_seq ?_
  refine WT_seq ?_
  refine WT_region ?_
  refine WL_v rfl (ov_move rfl) ?_
  refine WL_v rfl (ov_move rfl) ?_
  refine WL_v rfl (ov_len rfl hD.sl st_sl_int) ?_
  refine WL_v rfl (ov_lss rfl rfl) ?_
  refine WL_nil ?_
  refine WT_cond rfl (fun hc => ?_) (fun hc => ?_)
  · skip
    first | with_reducible replace hc := of_decide_eq_true hc | with_reducible replace hc := bn_T hc | with_reducible replace hc := bb_T hc | skip
    have hkd : k < dn.length := by omega
    have hgk := getDI' hkd
    have hiff := ordAt_iff p dn k
    rw [hgk] at hiff
    have hDk := hD.take (k := k) (by omega)
    have hli := fun {w : World} {Ls : List Heaplet} (hH : H w h Ls) => l6In_ok hH dn[k] 0 ((p.length : Int) - 1)
    by_cases hin : 0 ≤ dn[k] ∧ dn[k] < (p.length : Int)
    · skip
      obtain ⟨u, hu⟩ := Int.eq_ofNat_of_zero_le hin.1
      have hup : u < p.length := by omega
      obtain ⟨fv, rv, hf, hrr, hnc⟩ := hP.node hup
      have hpu : (p.getD dn[k].toNat default) = p[u] := by rw [hu, Int.toNat_natCast, getD_of hup]
      rw [decide_eq_true (show 0 ≤ dn[k] ∧ dn[k] ≤ (p.length : Int) - 1 by omega)] at hli
      have hhs := fun {w : World} (hH : H w h Ls) => l3HasR_ok hH hDk dn[k]
      by_cases hm : dn[k] ∈ dn.take k
      · skip
        rw [decide_eq_true hm] at hhs
        refine WT_skip ?_
        refine WT_seq ?_
        refine WT_block ?_
        refine WT_seq ?_
        refine WT_quiet mixed (by kernel_rfl) hH ?_
        clear hH
        refine WQ_v rfl (fun _ _ => ov_move rfl) ?_
        refine WQ_v rfl (fun _ _ => ov_move rfl) ?_
        refine WQ_v rfl (fun _ _ => ov_index rfl rfl st_sl_int hD.sl hkd) ?_
        refine WQ_v rfl (fun _ hH => ov_load rfl one_int (hD.cell hH hkd)) ?_
        refine WQ_v rfl (fun _ _ => ov_move rfl) ?_
        refine WQ_v rfl (fun _ _ => ov_len rfl hP.sl st_sl_impl_Node) ?_
        refine WQ_v rfl (fun _ _ => ov_sub rfl rfl (by omega)) ?_
        refine WQ_call rfl rfl cf_spec_l6In (fun _ hH => hli hH) ?_
        refine WQ_v rfl (fun _ _ => ov_not rfl) ?_
        refine WQ_v rfl (fun _ _ => ov_move rfl) ?_
        refine WQ_guardOn rfl rfl ?_
        refine WQ_v rfl (fun _ _ => ov_move rfl) ?_
        refine WQ_guardOn rfl rfl ?_
        refine WQ_v rfl (fun _ _ => ov_move rfl) ?_
        refine WQ_guardOn rfl rfl ?_
        refine WQ_v rfl (fun _ _ => ov_sliceHi rfl rfl st_sl_int hD.sl (by omega)) ?_
        refine WQ_guardOn rfl rfl ?_
        refine WQ_v rfl (fun _ _ => ov_move rfl) ?_
        refine WQ_guardOn rfl rfl ?_
        refine WQ_v rfl (fun _ _ => ov_move rfl) ?_
        refine WQ_guardOn rfl rfl ?_
        refine WQ_v rfl (fun _ _ => ov_index rfl rfl st_sl_int hD.sl hkd) ?_
        refine WQ_guardOn rfl rfl ?_
        refine WQ_v rfl (fun _ hH => ov_load rfl one_int (hD.cell hH hkd)) ?_
        refine WQ_guardOn rfl rfl ?_
        refine WQ_call rfl rfl cf_spec_l3Has (fun _ hH => hhs hH) ?_
        refine WQ_v rfl (fun _ _ => ov_pickF rfl rfl) ?_
        refine WQ_v rfl (fun _ _ => ov_move rfl) ?_
        refine WQ_guardOff rfl rfl rfl rfl ?_
        refine WQ_guardOff rfl rfl rfl rfl ?_
        refine WQ_guardOff rfl rfl rfl rfl ?_
        refine WQ_guardOff rfl rfl rfl rfl ?_
        refine WQ_guardOff rfl rfl rfl rfl ?_
        refine WQ_guardOff rfl rfl rfl rfl ?_
        refine WQ_guardOff rfl rfl rfl rfl ?_
        refine WQ_guardOff rfl rfl rfl rfl ?_
        refine WQ_guardOff rfl rfl rfl rfl ?_
        refine WQ_guardOff rfl rfl rfl rfl ?_
        refine WQ_guardOff rfl rfl rfl rfl ?_
        refine WQ_guardOff rfl rfl rfl rfl ?_
        refine WQ_guardOff rfl rfl rfl rfl ?_
        refine WQ_v rfl (fun _ _ => ov_pickT rfl rfl) ?_
        refine WQ_nil ?_
        intro w3 hH
        refine WT_condT rfl ?_
        refine WT_seq ?_
        refine WT_region ?_
        refine WL_v rfl (ov_assign rfl) ?_
        refine WL_nil ?_
        exact WT_ret1 Tryz.func63 Tryz.results63 rfl ⟨by rw [hno k hkd (by
          cases ho : ordAt p dn k with
          | false => rfl
          | true => exact absurd hm (hiff.1 ho).2.1)], hH⟩
      · skip
        rw [decide_eq_false hm] at hhs
        have hal := fun {w : World} (hH : H w h Ls) => l5All_ok hH hDk (hf.rdl _)
        refine WT_skip ?_
        refine WT_seq ?_
        refine WT_block ?_
        refine WT_seq ?_
        refine WT_quiet mixed (by kernel_rfl) hH ?_
        clear hH
        refine WQ_v rfl (fun _ _ => ov_move rfl) ?_
        refine WQ_v rfl (fun _ _ => ov_move rfl) ?_
        refine WQ_v rfl (fun _ _ => ov_index rfl rfl st_sl_int hD.sl hkd) ?_
        refine WQ_v rfl (fun _ hH => ov_load rfl one_int (hD.cell hH hkd)) ?_
        refine WQ_v rfl (fun _ _ => ov_move rfl) ?_
        refine WQ_v rfl (fun _ _ => ov_len rfl hP.sl st_sl_impl_Node) ?_
        refine WQ_v rfl (fun _ _ => ov_sub rfl rfl (by omega)) ?_
        refine WQ_call rfl rfl cf_spec_l6In (fun _ hH => hli hH) ?_
        refine WQ_v rfl (fun _ _ => ov_not rfl) ?_
        refine WQ_v rfl (fun _ _ => ov_move rfl) ?_
        refine WQ_guardOn rfl rfl ?_
        refine WQ_v rfl (fun _ _ => ov_move rfl) ?_
        refine WQ_guardOn rfl rfl ?_
        refine WQ_v rfl (fun _ _ => ov_move rfl) ?_
        refine WQ_guardOn rfl rfl ?_
        refine WQ_v rfl (fun _ _ => ov_sliceHi rfl rfl st_sl_int hD.sl (by omega)) ?_
        refine WQ_guardOn rfl rfl ?_
        refine WQ_v rfl (fun _ _ => ov_move rfl) ?_
        refine WQ_guardOn rfl rfl ?_
        refine WQ_v rfl (fun _ _ => ov_move rfl) ?_
        refine WQ_guardOn rfl rfl ?_
        refine WQ_v rfl (fun _ _ => ov_index rfl rfl st_sl_int hD.sl hkd) ?_
        refine WQ_guardOn rfl rfl ?_
        refine WQ_v rfl (fun _ hH => ov_load rfl one_int (hD.cell hH hkd)) ?_
        refine WQ_guardOn rfl rfl ?_
        refine WQ_call rfl rfl cf_spec_l3Has (fun _ hH => hhs hH) ?_
        refine WQ_v rfl (fun _ _ => ov_pickF rfl rfl) ?_
        refine WQ_v rfl (fun _ _ => ov_move rfl) ?_
        refine WQ_guardOn rfl rfl ?_
        refine WQ_v rfl (fun _ _ => ov_move rfl) ?_
        refine WQ_guardOn rfl rfl ?_
        refine WQ_v rfl (fun _ _ => ov_move rfl) ?_
        refine WQ_guardOn rfl rfl ?_
        refine WQ_v rfl (fun _ _ => ov_sliceHi rfl rfl st_sl_int hD.sl (by omega)) ?_
        refine WQ_guardOn rfl rfl ?_
        refine WQ_v rfl (fun _ _ => ov_move rfl) ?_
        refine WQ_guardOn rfl rfl ?_
        refine WQ_v rfl (fun _ _ => ov_move rfl) ?_
        refine WQ_guardOn rfl rfl ?_
        refine WQ_v rfl (fun _ _ => ov_move rfl) ?_
        refine WQ_guardOn rfl rfl ?_
        refine WQ_v rfl (fun _ _ => ov_index rfl rfl st_sl_int hD.sl hkd) ?_
        refine WQ_guardOn rfl rfl ?_
        refine WQ_v rfl (fun _ hH => ov_load rfl one_int (hD.cell hH hkd)) ?_; rw [hu]
        refine WQ_guardOn rfl rfl ?_
        refine WQ_v rfl (fun _ _ => ov_index rfl rfl st_sl_impl_Node hP.sl hup) ?_
        refine WQ_guardOn rfl rfl ?_
        refine WQ_v rfl (fun _ _ => ov_field rfl fo_impl_Node_1) ?_
        refine WQ_guardOn rfl rfl ?_
        refine WQ_v rfl (fun _ hH => ov_load rfl one_sl_int (hnc _ _ hH 1 fv rfl)) ?_
        refine WQ_guardOn rfl rfl ?_
        refine WQ_call rfl rfl cf_spec_l5All (fun _ hH => hal hH) ?_
        refine WQ_guardOn rfl rfl ?_
        refine WQ_v rfl (fun _ _ => ov_not rfl) ?_
        refine WQ_v rfl (fun _ _ => ov_pickF rfl rfl) ?_
        refine WQ_nil ?_
        intro w3 hH
        refine WT_cond rfl (fun hb => ?_) (fun hb => ?_)
        · skip
          first | with_reducible replace hb := of_decide_eq_true hb | with_reducible replace hb := bn_T hb | with_reducible replace hb := bb_T hb | skip
          have hb' : (p[u].frm.all fun f => decide (f ∈ dn.take k)) = false := by simpa using hb
          refine WT_seq ?_
          refine WT_region ?_
          refine WL_v rfl (ov_assign rfl) ?_
          refine WL_nil ?_
          exact WT_ret1 Tryz.func63 Tryz.results63 rfl ⟨by rw [hno k hkd (by
            cases ho : ordAt p dn k with
            | false => rfl
            | true =>
              have := (hiff.1 ho).2.2
              rw [hpu] at this
              rw [List.all_eq_true.2 (fun x hx => decide_eq_true (this x hx))] at hb'
              cases hb')], hH⟩
        first | with_reducible replace hb := of_decide_eq_false hb | with_reducible replace hb := bn_F hb | with_reducible replace hb := bb_F hb | skip
        have hb' : (p[u].frm.all fun f => decide (f ∈ dn.take k)) = true := by simpa using hb
        have hok : ordAt p dn k = true := hiff.2 ⟨hin, hm, fun f hf2 => by
          rw [hpu] at hf2
          exact of_decide_eq_true (List.all_eq_true.1 hb' f hf2)⟩
        refine WT_skip ?_
        refine WT_inBlock ?_
        refine WT_region ?_
        refine WL_v rfl (ov_move rfl) ?_
        refine WL_v rfl (ov_add rfl rfl (by omega)) ?_
        refine WL_v rfl (ov_assign rfl) ?_
        refine WL_nil ?_
        refine again (k + 1) _ _ (by omega) (by repeat (first | exact trivial | refine ⟨rfl, ?_⟩)) ⟨by omega, fun i hi => ?_, hH⟩
        rcases Nat.lt_or_ge i k with h1 | h1
        · exact hall i h1
        · obtain rfl : i = k := by omega
          exact hok
    · skip
      rw [decide_eq_false (show ¬ (0 ≤ dn[k] ∧ dn[k] ≤ (p.length : Int) - 1) by omega)] at hli
      refine WT_skip ?_
      refine WT_seq ?_
      refine WT_block ?_
      refine WT_seq ?_
      refine WT_quiet mixed (by kernel_rfl) hH ?_
      clear hH
      refine WQ_v rfl (fun _ _ => ov_move rfl) ?_
      refine WQ_v rfl (fun _ _ => ov_move rfl) ?_
      refine WQ_v rfl (fun _ _ => ov_index rfl rfl st_sl_int hD.sl hkd) ?_
      refine WQ_v rfl (fun _ hH => ov_load rfl one_int (hD.cell hH hkd)) ?_
      refine WQ_v rfl (fun _ _ => ov_move rfl) ?_
      refine WQ_v rfl (fun _ _ => ov_len rfl hP.sl st_sl_impl_Node) ?_
      refine WQ_v rfl (fun _ _ => ov_sub rfl rfl (by omega)) ?_
      refine WQ_call rfl rfl cf_spec_l6In (fun _ hH => hli hH) ?_
      refine WQ_v rfl (fun _ _ => ov_not rfl) ?_
      refine WQ_v rfl (fun _ _ => ov_move rfl) ?_
      refine WQ_guardOff rfl rfl rfl rfl ?_
      refine WQ_guardOff rfl rfl rfl rfl ?_
      refine WQ_guardOff rfl rfl rfl rfl ?_
      refine WQ_guardOff rfl rfl rfl rfl ?_
      refine WQ_guardOff rfl rfl rfl rfl ?_
      refine WQ_guardOff rfl rfl rfl rfl ?_
      refine WQ_guardOff rfl rfl rfl rfl ?_
      refine WQ_guardOff rfl rfl rfl rfl ?_
      refine WQ_v rfl (fun _ _ => ov_pickT rfl rfl) ?_
      refine WQ_v rfl (fun _ _ => ov_move rfl) ?_
      refine WQ_guardOff rfl rfl rfl rfl ?_
      refine WQ_guardOff rfl rfl rfl rfl ?_
      refine WQ_guardOff rfl rfl rfl rfl ?_
      refine WQ_guardOff rfl rfl rfl rfl ?_
      refine WQ_guardOff rfl rfl rfl rfl ?_
      refine WQ_guardOff rfl rfl rfl rfl ?_
      refine WQ_guardOff rfl rfl rfl rfl ?_
      refine WQ_guardOff rfl rfl rfl rfl ?_
      refine WQ_guardOff rfl rfl rfl rfl ?_
      refine WQ_guardOff rfl rfl rfl rfl ?_
      refine WQ_guardOff rfl rfl rfl rfl ?_
      refine WQ_guardOff rfl rfl rfl rfl ?_
      refine WQ_guardOff rfl rfl rfl rfl ?_
      refine WQ_v rfl (fun _ _ => ov_pickT rfl rfl) ?_
      refine WQ_nil ?_
      intro w3 hH
      refine WT_condT rfl ?_
      refine WT_seq ?_
      refine WT_region ?_
      refine WL_v rfl (ov_assign rfl) ?_
      refine WL_nil ?_
      exact WT_ret1 Tryz.func63 Tryz.results63 rfl ⟨by rw [hno k hkd (by
        cases ho : ordAt p dn k with
        | false => rfl
        | true => exact absurd (hiff.1 ho).1 hin)], hH⟩
  first | with_reducible replace hc := of_decide_eq_false hc | with_reducible replace hc := bn_F hc | with_reducible replace hc := bb_F hc | skip
  obtain rfl : k = dn.length := by omega
  refine WT_exit rfl ?_
  refine WT_seq ?_
  refine WT_region ?_
  refine WL_v rfl (ov_assign rfl) ?_
  refine WL_nil ?_
  exact WT_ret1 Tryz.func63 Tryz.results63 rfl ⟨by rw [(orderB_iff p dn).2 hall], hH⟩

theorem l13Counts_ok (hH : H w h Ls) {pv dv cv nv rv : Value} {p : List Nd} {c : Cr} (hP : Plan h pv p) (hv : planOk p = true) (ho : orderB p c.dn = true) (hC : RdCr h Ls dv cv nv rv c) : Rets Tryz.prog 64 #[pv, crV dv cv nv rv] w fun v w' => v = .bool (decide (cntL p c.dn = c.ct)) ∧ H w' h Ls := by
  have hlen := PlanOk.len hv
  have hol := nodup_lenI (order_nodup ho) (fun a ha => order_mem ho ha)
  obtain ⟨A2, c2, rfl, _⟩ := hC.dq.sl.form
  obtain ⟨A3, c3, rfl, _⟩ := hC.ct.sl.form
  obtain ⟨A4, c4, rfl, _⟩ := hC.dn.sl.form
  obtain ⟨A5, c5, rfl, _⟩ := hC.rw.sl.form
  refine rets_enter Tryz.func64 rfl Tryz.ntmps64 (by simp) ?_
  refine WT_seq ?_
  refine WT_region ?_
  refine WL_box _ rfl hH rfl rfl ?_; rintro b w1 hH1; replace hH1 : H w1 h (crbox b (.slice A2 c.dq.length c2) (.slice A3 c.ct.length c3) (.slice A4 c.dn.length c4) (.slice A5 c.rw.length c5) :: Ls) := hH1
  refine WL_v rfl (ov_assign rfl) ?_
  refine WL_nil ?_
  refine WT_seq ?_
  refine WT_region ?_
  refine WL_v rfl (ov_move rfl) ?_
  refine WL_call rfl rfl cf_spec_l11Counts (l11Counts_ok hH1 hP hv) ?_; rintro v0 w2 ⟨X0, hX0, hH2⟩
  refine WL_v rfl (ov_assign rfl) ?_
  refine WL_nil ?_
  refine WT_seq ?_
  refine WT_seq ?_
  refine WT_region ?_
  refine WL_v rfl (ov_assign rfl) ?_
  refine WL_nil ?_
  refine WT_block ?_
  rw [countsL_cnt] at hX0
  refine WT_while (fun s : Nat × Value => [(0, pv), (3, ptr b), (5, s.2), (6, .int .i64 (s.1 : Int))]) (fun s w => s.1 ≤ c.dn.length ∧ ∃ X, IRow X 3 s.2 (cntL p (c.dn.take s.1)) ∧ H w h (X :: crbox b (.slice A2 c.dq.length c2) (.slice A3 c.ct.length c3) (.slice A4 c.dn.length c4) (.slice A5 c.rw.length c5) :: Ls)) (fun s => c.dn.length - s.1) (0, v0) (by repeat (first | exact trivial | refine ⟨rfl, ?_⟩)) ⟨by simp, X0, by simpa using hX0, hH2⟩ ?_
  clear hH hH1 hH2 hX0 X0 v0
  rintro ⟨k, xv⟩ w3 ⟨hk, X, hX, hH⟩ again
  simp only at hk hX
  refine WT_seq ?_
  refine WT_seq ?_
  refine WT_region ?_
  refine WL_v rfl (ov_move rfl) ?_
  refine WL_v rfl (ov_field rfl fo_impl_Crew_2) ?_
  refine WL_v rfl (ov_load rfl one_sl_int (hH.cb 1 rfl 2)) ?_
  refine WL_v rfl (ov_len rfl hC.dn.sl st_sl_int) ?_
  refine WL_v rfl (ov_lss rfl rfl) ?_
  refine WL_nil ?_
  refine WT_cond rfl (fun hc => ?_) (fun hc => ?_)
  · skip
    first | with_reducible replace hc := of_decide_eq_true hc | with_reducible replace hc := bn_T hc | with_reducible replace hc := bb_T hc | skip
    have hkd : k < c.dn.length := by simp only at hc; omega
    obtain ⟨h1, h2⟩ := ord_step hv hkd ((orderB_iff p c.dn).1 ho k hkd)
    have hrg : ∀ u, -1000000 ≤ (cntL p (c.dn.take k)).getD u 0 ∧ (cntL p (c.dn.take k)).getD u 0 ≤ 1000000 := fun u => by
      rcases Nat.lt_or_ge u p.length with hu | hu
      · rw [cntL_getD hu]
        have h3 := cntB_le p (c.dn.take k) u
        have h4 := needTo_len (p.getD u default).frm
        have h5 := NodeOk.len2 (PlanOk.node hv hu)
        rw [getD_of hu] at h3 h4
        omega
      · rw [List.getD_eq_getElem?_getD, List.getElem?_eq_none (by rw [cntL_len]; exact hu)]
        simp
    refine WT_skip ?_
    refine WT_seq ?_
    refine WT_block ?_
    refine WT_seq ?_
    refine WT_region ?_
    refine WL_v rfl (ov_move rfl) ?_
    refine WL_v rfl (ov_move rfl) ?_
    refine WL_v rfl (ov_field rfl fo_impl_Crew_2) ?_
    refine WL_v rfl (ov_load rfl one_sl_int (hH.cb 1 rfl 2)) ?_
    refine WL_v rfl (ov_move rfl) ?_
    refine WL_v rfl (ov_index rfl rfl st_sl_int hC.dn.sl hkd) ?_
    refine WL_v rfl (ov_load rfl one_int (hC.dn.cell hH.drop.drop hkd)) ?_
    refine WL_call rfl rfl cf_spec_l11Done (l11Done_ok hH hP hv (hX.rdl (i := 0) rfl) (cntL_len _ _) hrg _) ?_; rintro _ w4 ⟨X2, Y2, xv2, yv2, rfl, hX2, hY2, hH4⟩
    refine WL_v rfl (ov_move rfl) ?_
    refine WL_v rfl (ov_extract rfl rfl) ?_
    refine WL_v rfl (ov_extract rfl rfl) ?_
    refine WL_v rfl (ov_assign rfl) ?_
    refine WL_v rfl (ov_assign rfl) ?_
    refine WL_nil ?_
    refine WT_region ?_
    refine WL_v rfl (ov_move rfl) ?_
    refine WL_v rfl (ov_assign rfl) ?_
    refine WL_nil ?_
    refine WT_inBlock ?_
    refine WT_region ?_
    refine WL_v rfl (ov_move rfl) ?_
    refine WL_v rfl (ov_add rfl rfl (by omega)) ?_
    refine WL_v rfl (ov_assign rfl) ?_
    refine WL_nil ?_
    rw [h2] at hX2
    refine again (k + 1, xv2) _ _ (by simp only; omega) (by repeat (first | exact trivial | refine ⟨rfl, ?_⟩)) ⟨by simp only; omega, X2, hX2, (hH4.del 2 rfl).del 1 rfl⟩
  first | with_reducible replace hc := of_decide_eq_false hc | with_reducible replace hc := bn_F hc | with_reducible replace hc := bb_F hc | skip
  obtain rfl : k = c.dn.length := by simp only at hc; omega
  rw [List.take_length] at hX
  refine WT_exit rfl ?_
  refine WT_seq ?_
  refine WT_region ?_
  refine WL_v rfl (ov_move rfl) ?_
  refine WL_v rfl (ov_field rfl fo_impl_Crew_1) ?_
  refine WL_v rfl (ov_load rfl one_sl_int (hH.cb 1 rfl 1)) ?_
  refine WL_call rfl rfl cf_spec_l13Same (l13Same_ok hH (hX.rdl (i := 0) rfl) hC.ct.up.up) ?_; rintro _ w4 ⟨rfl, hH4⟩
  refine WL_v rfl (ov_assign rfl) ?_
  refine WL_nil ?_
  exact WT_ret1 Tryz.func64 Tryz.results64 rfl ⟨rfl, hH4.drop.drop⟩

theorem l13At_ok (hH : H w h Ls) {dv cv nv rv : Value} {c : Cr} (hl : CrLim c) (hC : RdCr h Ls dv cv nv rv c) (a : Int) : Rets Tryz.prog 66 #[crV dv cv nv rv, .int .i64 a] w fun v w' => v = .tuple #[.int .i64 (c.dq.flatten.count a : Int), .int .i64 (lastW c.dq a c.dq.length)] ∧ H w' h Ls := by
  have hdl := hl.dd
  have hdq := hl.dq
  obtain ⟨A2, c2, rfl, _⟩ := hC.dq.sl.form
  obtain ⟨A3, c3, rfl, _⟩ := hC.ct.sl.form
  obtain ⟨A4, c4, rfl, _⟩ := hC.dn.sl.form
  obtain ⟨A5, c5, rfl, _⟩ := hC.rw.sl.form
  refine rets_enter Tryz.func66 rfl Tryz.ntmps66 (by simp) ?_
  refine WT_seq ?_
  refine WT_region ?_
  refine WL_box _ rfl hH rfl rfl ?_; rintro b w1 hH1; replace hH1 : H w1 h (crbox b (.slice A2 c.dq.length c2) (.slice A3 c.ct.length c3) (.slice A4 c.dn.length c4) (.slice A5 c.rw.length c5) :: Ls) := hH1
  refine WL_v rfl (ov_assign rfl) ?_
  refine WL_v rfl (ov_assign rfl) ?_
  refine WL_nil ?_
  refine WT_seq ?_
  refine WT_region ?_
  refine WL_v rfl (ov_assign rfl) ?_
  refine WL_nil ?_
  refine WT_seq ?_
  refine WT_region ?_
  refine WL_v rfl (ov_assign rfl) ?_
  refine WL_nil ?_
  refine WT_seq ?_
  refine WT_seq ?_
  refine WT_region ?_
  refine WL_v rfl (ov_assign rfl) ?_
  refine WL_nil ?_
  refine WT_block ?_
  refine WT_while (fun s : Nat => [(1, .int .i64 a), (2, ptr b), (6, .int .i64 ((c.dq.take s).flatten.count a : Int)), (7, .int .i64 (lastW c.dq a s)), (8, .int .i64 (s : Int))]) (fun s w => s ≤ c.dq.length ∧ H w h (crbox b (.slice A2 c.dq.length c2) (.slice A3 c.ct.length c3) (.slice A4 c.dn.length c4) (.slice A5 c.rw.length c5) :: Ls)) (fun s => c.dq.length - s) 0 (by repeat (first | exact trivial | refine ⟨rfl, ?_⟩)) ⟨by omega, hH1⟩ ?_
  clear hH hH1
  rintro k w2 ⟨hk, hH⟩ again
  refine WT_seq ?_
  refine WT_seq ?_
  refine WT_region ?_
  refine WL_v rfl (ov_move rfl) ?_
  refine WL_v rfl (ov_field rfl fo_impl_Crew_0) ?_
  refine WL_v rfl (ov_load rfl one_sl_sl_int (hH.cb 0 rfl 0)) ?_
  refine WL_v rfl (ov_len rfl hC.dq.sl st_sl_sl_int) ?_
  refine WL_v rfl (ov_lss rfl rfl) ?_
  refine WL_nil ?_
  refine WT_cond rfl (fun hc => ?_) (fun hc => ?_)
  · skip
    first | with_reducible replace hc := of_decide_eq_true hc | with_reducible replace hc := bn_T hc | with_reducible replace hc := bb_T hc | skip
    have hkd : k < c.dq.length := by omega
    obtain ⟨u, h1, h2⟩ := hC.dq.at_ hkd
    have htf := take_flat hkd
    have hle := take_flat_le c.dq (k + 1)
    have hle2 : (c.dq.take (k + 1)).flatten.length = (c.dq.take k).flatten.length + c.dq[k].length := by rw [htf, List.length_append]
    have hcl := List.count_le_length (a := a) (l := (c.dq.take k).flatten)
    refine WT_skip ?_
    refine WT_seq ?_
    refine WT_block ?_
    refine WT_seq ?_
    refine WT_region ?_
    refine WL_v rfl (ov_assign rfl) ?_
    refine WL_nil ?_
    refine WT_block ?_
    refine WT_while (fun i : Nat => [(1, .int .i64 a), (2, ptr b), (6, .int .i64 (((c.dq.take k).flatten.count a + (c.dq[k].take i).count a : Nat) : Int)), (7, .int .i64 (if a ∈ c.dq[k].take i then (k : Int) else lastW c.dq a k)), (8, .int .i64 (k : Int)), (9, .int .i64 (i : Int))]) (fun i w => i ≤ c.dq[k].length ∧ H w h (crbox b (.slice A2 c.dq.length c2) (.slice A3 c.ct.length c3) (.slice A4 c.dn.length c4) (.slice A5 c.rw.length c5) :: Ls)) (fun i => c.dq[k].length - i) 0 (by simp only [List.take_zero, List.count_nil, List.not_mem_nil, if_false, Nat.add_zero]; exact (by repeat (first | exact trivial | refine ⟨rfl, ?_⟩))) ⟨by omega, hH⟩ ?_
    clear hH
    rintro i w3 ⟨hi, hH⟩ again2
    refine WT_seq ?_
    refine WT_seq ?_
    refine WT_region ?_
    refine WL_v rfl (ov_move rfl) ?_
    refine WL_v rfl (ov_field rfl fo_impl_Crew_0) ?_
    refine WL_v rfl (ov_load rfl one_sl_sl_int (hH.cb 0 rfl 0)) ?_
    refine WL_v rfl (ov_move rfl) ?_
    refine WL_v rfl (ov_index rfl rfl st_sl_sl_int hC.dq.sl hkd) ?_
    refine WL_v rfl (ov_load rfl one_sl_int (h2 hH.drop)) ?_
    refine WL_v rfl (ov_len rfl h1.sl st_sl_int) ?_
    refine WL_v rfl (ov_lss rfl rfl) ?_
    refine WL_nil ?_
    refine WT_cond rfl (fun hc2 => ?_) (fun hc2 => ?_)
    · skip
      first | with_reducible replace hc2 := of_decide_eq_true hc2 | with_reducible replace hc2 := bn_T hc2 | with_reducible replace hc2 := bb_T hc2 | skip
      have hil : i < c.dq[k].length := by omega
      have htk : c.dq[k].take (i + 1) = c.dq[k].take i ++ [c.dq[k][i]] := List.take_succ_eq_append_getElem hil
      have hcl2 := List.count_le_length (a := a) (l := c.dq[k].take i)
      rw [List.length_take] at hcl2
      refine WT_skip ?_
      refine WT_seq ?_
      refine WT_block ?_
      refine WT_seq ?_
      refine WT_region ?_
      refine WL_v rfl (ov_field rfl fo_impl_Crew_0) ?_
      refine WL_v rfl (ov_load rfl one_sl_sl_int (hH.cb 0 rfl 0)) ?_
      refine WL_v rfl (ov_move rfl) ?_
      refine WL_v rfl (ov_index rfl rfl st_sl_sl_int hC.dq.sl hkd) ?_
      refine WL_v rfl (ov_load rfl one_sl_int (h2 hH.drop)) ?_
      refine WL_v rfl (ov_move rfl) ?_
      refine WL_v rfl (ov_index rfl rfl st_sl_int h1.sl hil) ?_
      refine WL_v rfl (ov_load rfl one_int (h1.cell hH.drop hil)) ?_
      refine WL_v rfl (ov_move rfl) ?_
      refine WL_v rfl (ov_eql rfl rfl) ?_
      refine WL_nil ?_
      refine WT_cond rfl (fun heq => ?_) (fun heq => ?_)
      · skip
        first | with_reducible replace heq := of_decide_eq_true heq | with_reducible replace heq := bn_T heq | with_reducible replace heq := bb_T heq | skip
        refine WT_seq ?_
        refine WT_region ?_
        refine WL_v rfl (ov_move rfl) ?_
        refine WL_v rfl (ov_as (ov_add rfl rfl (by omega)) (congrArg (Value.int .i64) ((show (((c.dq.take k).flatten.count a + (c.dq[k].take i).count a : Nat) : Int) + 1 = (((c.dq.take k).flatten.count a + (c.dq[k].take (i + 1)).count a : Nat) : Int) by rw [htk, List.count_append, heq]; simp; omega)))) ?_
        refine WL_v rfl (ov_assign rfl) ?_
        refine WL_nil ?_
        refine WT_region ?_
        refine WL_v rfl (ov_move rfl) ?_
        refine WL_v rfl (ov_assign rfl) ?_
        refine WL_nil ?_
        refine WT_inBlock ?_
        refine WT_region ?_
        refine WL_v rfl (ov_move rfl) ?_
        refine WL_v rfl (ov_add rfl rfl (by omega)) ?_
        refine WL_v rfl (ov_assign rfl) ?_
        refine WL_nil ?_
        refine again2 (i + 1) _ _ (by omega) ?_ ⟨by omega, hH⟩
        rw [if_pos (show a ∈ c.dq[k].take (i + 1) by rw [htk, heq]; simp)]
        exact (by repeat (first | exact trivial | refine ⟨rfl, ?_⟩))
      first | with_reducible replace heq := of_decide_eq_false heq | with_reducible replace heq := bn_F heq | with_reducible replace heq := bb_F heq | skip
      have hne : ¬ c.dq[k][i] = a := by simpa using heq
      refine WT_skip ?_
      refine WT_inBlock ?_
      refine WT_region ?_
      refine WL_v rfl (ov_move rfl) ?_
      refine WL_v rfl (ov_add rfl rfl (by omega)) ?_
      refine WL_v rfl (ov_assign rfl) ?_
      refine WL_nil ?_
      refine again2 (i + 1) _ _ (by omega) ?_ ⟨by omega, hH⟩
      have hm : (a ∈ c.dq[k].take (i + 1)) = (a ∈ c.dq[k].take i) := by
        rw [htk, List.mem_append, List.mem_singleton]
        have : ¬ a = c.dq[k][i] := fun hh => hne hh.symm
        simp [this]
      have hct : (c.dq[k].take (i + 1)).count a = (c.dq[k].take i).count a := by
        rw [htk, List.count_append, List.count_singleton]
        simp [hne]
      simp only [hm, hct]
      exact (by repeat (first | exact trivial | refine ⟨rfl, ?_⟩))
    first | with_reducible replace hc2 := of_decide_eq_false hc2 | with_reducible replace hc2 := bn_F hc2 | with_reducible replace hc2 := bb_F hc2 | skip
    obtain rfl : i = c.dq[k].length := by omega
    refine WT_exit rfl ?_
    refine WT_inBlock ?_
    refine WT_region ?_
    refine WL_v rfl (ov_move rfl) ?_
    refine WL_v rfl (ov_add rfl rfl (by omega)) ?_
    refine WL_v rfl (ov_assign rfl) ?_
    refine WL_nil ?_
    refine again (k + 1) _ _ (by omega) ?_ ⟨by omega, hH⟩
    rw [htf, List.count_append, lastW, getLDV hkd]
    simp only [List.take_length]
    exact (by repeat (first | exact trivial | refine ⟨rfl, ?_⟩))
  first | with_reducible replace hc := of_decide_eq_false hc | with_reducible replace hc := bn_F hc | with_reducible replace hc := bb_F hc | skip
  obtain rfl : k = c.dq.length := by omega
  rw [List.take_length]
  refine WT_exit rfl ?_
  refine WT_seq ?_
  refine WT_region ?_
  refine WL_v rfl (ov_move rfl) ?_
  refine WL_v rfl (ov_move rfl) ?_
  refine WL_v rfl (ov_assign rfl) ?_
  refine WL_v rfl (ov_assign rfl) ?_
  refine WL_nil ?_
  exact WT_ret2 Tryz.func66 Tryz.results66 rfl rfl ⟨rfl, hH.drop⟩
end
end Go.Proofs.YteagnhdhafiofaaGreat

/- Walks: a crew is valid, whole: the reference. -/
namespace Go.Proofs.YteagnhdhafiofaaGreat
open Go.RowKit

section
variable {h : GH} {Ls : List Heaplet} {w : World}

theorem H.behind2 {O X Y : Heaplet} {Is Ms : List Heaplet} (hH : H w h (O :: (Is ++ X :: Y :: Ms))) : H w h (X :: Y :: O :: (Is ++ Ms)) := by
  have h1 := hH.behind
  have h2 : H w h ((X :: O :: Is) ++ Y :: Ms) := by simpa using h1
  have h3 := h2.perm (List.perm_middle (a := Y) (l₁ := X :: O :: Is) (l₂ := Ms))
  exact h3.swap

theorem crewOk_size {p : List Nd} {c : Cr} (hv : planOk p = true) (hw : 1 ≤ c.dq.length ∧ c.dq.length ≤ 4) (ho : orderB p c.dn = true) (h1 : cntL p c.dn = c.ct) (h2 : c.rw.length = p.length) :
    crewOk p c = (((readyI p c.dn).all fun a => decide (c.dq.flatten.count a = 1)) && decide (c.dq.flatten.length = (readyI p c.dn).length) && rowsB p c) := by
  rw [dequesFit_bool, hv, decide_eq_true hw, ho, decide_eq_true h1, decide_eq_true h2, deques_eq]; rfl

set_option maxHeartbeats 2000000 in
theorem sCrewValid_ok (hH : H w h Ls) {pv dv cv nv rv : Value} {p : List Nd} {c : Cr} (hP : Plan h pv p) (hpl : p.length ≤ 1000000000) (hl : CrLim c) (hC : RdCr h Ls dv cv nv rv c) : Rets Tryz.prog 27 #[pv, crV dv cv nv rv] w fun v w' => v = .bool (crewOk p c) ∧ H w' h Ls := by
  have hsv := fun {w : World} {Ls : List Heaplet} (hH : H w h Ls) => sPlanValid_ok hH hP hpl
  have hld := hl.dd
  have hlq := hl.dq
  obtain ⟨A2, c2, rfl, _⟩ := hC.dq.sl.form
  obtain ⟨A3, c3, rfl, _⟩ := hC.ct.sl.form
  obtain ⟨A4, c4, rfl, _⟩ := hC.dn.sl.form
  obtain ⟨A5, c5, rfl, _⟩ := hC.rw.sl.form
  have hload : ∀ {b : Nat} {w : World} {Ms : List Heaplet}, H w h (crbox b (.slice A2 c.dq.length c2) (.slice A3 c.ct.length c3) (.slice A4 c.dn.length c4) (.slice A5 c.rw.length c5) :: Ms) → ∀ j v, [Value.slice A2 c.dq.length c2, .slice A3 c.ct.length c3, .slice A4 c.dn.length c4, .slice A5 c.rw.length c5][j]? = some v → w.cell? (Addr.add ⟨b, 0, none⟩ j) = some v := fun {b} {w} {Ms} hH j v hj => by
    rw [show Addr.add ⟨b, 0, none⟩ j = ⟨b, j, none⟩ by simp [add_of]]
    exact (hH.cb 0 rfl j).trans (by simpa using hj)
  refine rets_enter Tryz.func27 rfl Tryz.ntmps27 (by simp) ?_
  refine WT_seq ?_
  refine WT_region ?_
  refine WL_box _ rfl hH rfl rfl ?_; rintro b w1 hH1; replace hH1 : H w1 h (crbox b (.slice A2 c.dq.length c2) (.slice A3 c.ct.length c3) (.slice A4 c.dn.length c4) (.slice A5 c.rw.length c5) :: Ls) := hH1
  refine WL_v rfl (ov_assign rfl) ?_
  refine WL_nil ?_
  refine WT_seq ?_
  refine WT_seq ?_
  refine WT_region ?_
  refine WL_v rfl (ov_move rfl) ?_
  by_cases hv : planOk p = true
  · skip
    rw [hv] at hsv
    by_cases hw : 1 ≤ c.dq.length ∧ c.dq.length ≤ 4
    · skip
      have hli := fun {w : World} {Ls : List Heaplet} (hH : H w h Ls) => l6In_ok hH (c.dq.length : Int) 1 4
      rw [decide_eq_true (show 1 ≤ (c.dq.length : Int) ∧ (c.dq.length : Int) ≤ 4 by omega)] at hli
      have hod := fun {w : World} {X : Heaplet} (hH : H w h (X :: Ls)) => l13Order_ok hH hP hv hC.dn.up
      by_cases ho : orderB p c.dn = true
      · skip
        rw [ho] at hod
        have hct := fun {w : World} {X : Heaplet} (hH : H w h (X :: Ls)) => l13Counts_ok hH hP hv ho hC.up
        by_cases h1 : cntL p c.dn = c.ct
        · skip
          rw [decide_eq_true h1] at hct
          by_cases h2 : c.rw.length = p.length
          · skip
            rw [crewOk_size hv hw ho h1 h2]
            have hlen := PlanOk.len hv
            have hrl := readyI_len_le p c.dn
            have hvl : (valsL p).length = p.length := valsTo_len p p.length
            refine WL_call rfl rfl cf_spec_PlanValid (hsv hH1) ?_; rintro _ w2 ⟨rfl, hH2⟩
            refine WL_v rfl (ov_not rfl) ?_
            refine WL_v rfl (ov_move rfl) ?_
            refine WL_guardOn rfl rfl ?_
            refine WL_v rfl (ov_field rfl fo_impl_Crew_0) ?_
            refine WL_guardOn rfl rfl ?_
            refine WL_v rfl (ov_load rfl one_sl_sl_int (hH2.cb 0 rfl 0)) ?_
            refine WL_guardOn rfl rfl ?_
            refine WL_v rfl (ov_len rfl hC.dq.sl st_sl_sl_int) ?_
            refine WL_guardOn rfl rfl ?_
            refine WL_call rfl rfl cf_spec_l6In (hli hH2) ?_; rintro _ w3 ⟨rfl, hH3⟩
            refine WL_guardOn rfl rfl ?_
            refine WL_v rfl (ov_not rfl) ?_
            refine WL_v rfl (ov_pickF rfl rfl) ?_
            refine WL_v rfl (ov_move rfl) ?_
            refine WL_guardOn rfl rfl ?_
            refine WL_v rfl (ov_move rfl) ?_
            refine WL_guardOn rfl rfl ?_
            refine WL_v rfl (ov_field rfl fo_impl_Crew_2) ?_
            refine WL_guardOn rfl rfl ?_
            refine WL_v rfl (ov_load rfl one_sl_int (hH3.cb 0 rfl 2)) ?_
            refine WL_guardOn rfl rfl ?_
            refine WL_call rfl rfl cf_spec_l13Order (hod hH3) ?_; rintro _ w4 ⟨rfl, hH4⟩
            refine WL_guardOn rfl rfl ?_
            refine WL_v rfl (ov_not rfl) ?_
            refine WL_v rfl (ov_pickF rfl rfl) ?_
            refine WL_v rfl (ov_move rfl) ?_
            refine WL_guardOn rfl rfl ?_
            refine WL_v rfl (ov_move rfl) ?_
            refine WL_guardOn rfl rfl ?_
            refine WL_v rfl (ov_loadN [.slice A2 c.dq.length c2, .slice A3 c.ct.length c3, .slice A4 c.dn.length c4, .slice A5 c.rw.length c5] rfl agg_impl_Crew rfl ((hload hH4))) ?_
            refine WL_guardOn rfl rfl ?_
            refine WL_call rfl rfl cf_spec_l13Counts (hct hH4) ?_; rintro _ w5 ⟨rfl, hH5⟩
            refine WL_guardOn rfl rfl ?_
            refine WL_v rfl (ov_not rfl) ?_
            refine WL_v rfl (ov_pickF rfl rfl) ?_
            refine WL_v rfl (ov_move rfl) ?_
            refine WL_guardOn rfl rfl ?_
            refine WL_v rfl (ov_field rfl fo_impl_Crew_3) ?_
            refine WL_guardOn rfl rfl ?_
            refine WL_v rfl (ov_load rfl one_sl_sl_int (hH5.cb 0 rfl 3)) ?_
            refine WL_guardOn rfl rfl ?_
            refine WL_v rfl (ov_len rfl hC.rw.sl st_sl_sl_int) ?_
            refine WL_guardOn rfl rfl ?_
            refine WL_v rfl (ov_move rfl) ?_
            refine WL_guardOn rfl rfl ?_
            refine WL_v rfl (ov_len rfl hP.sl st_sl_impl_Node) ?_
            refine WL_guardOn rfl rfl ?_
            refine WL_v rfl (ov_F (ov_neq rfl rfl) (by first | exact decide_eq_false (by simp [h2]) | exact nb_F (by simp [h2]) | exact mb_F (by simp [h2]) | exact (by simp [h2]) | (simp only [decide_eq_false_iff_not]; omega) | simpa using (by simp [h2]))) ?_
            refine WL_v rfl (ov_pickF rfl rfl) ?_
            refine WL_nil ?_
            refine WT_condF rfl ?_
            refine WT_skip ?_
            refine WT_seq ?_
            refine WT_region ?_
            refine WL_v rfl (ov_assign rfl) ?_
            refine WL_nil ?_
            refine WT_seq ?_
            refine WT_seq ?_
            refine WT_region ?_
            refine WL_v rfl (ov_assign rfl) ?_
            refine WL_nil ?_
            refine WT_block ?_
            refine WT_while (fun s : Nat => [(0, pv), (3, ptr b), (5, .int .i64 ((c.dq.take s).flatten.length : Int)), (6, .int .i64 (s : Int))]) (fun s w => s ≤ c.dq.length ∧ H w h (crbox b (.slice A2 c.dq.length c2) (.slice A3 c.ct.length c3) (.slice A4 c.dn.length c4) (.slice A5 c.rw.length c5) :: Ls)) (fun s => c.dq.length - s) 0 (by repeat (first | exact trivial | refine ⟨rfl, ?_⟩)) ⟨by omega, hH5⟩ ?_
            clear hH hH1 hH2 hH3 hH4 hH5
            rintro k w6 ⟨hk, hH⟩ again
            refine WT_seq ?_
            refine WT_seq ?_
            refine WT_region ?_
            refine WL_v rfl (ov_move rfl) ?_
            refine WL_v rfl (ov_field rfl fo_impl_Crew_0) ?_
            refine WL_v rfl (ov_load rfl one_sl_sl_int (hH.cb 0 rfl 0)) ?_
            refine WL_v rfl (ov_len rfl hC.dq.sl st_sl_sl_int) ?_
            refine WL_v rfl (ov_lss rfl rfl) ?_
            refine WL_nil ?_
            refine WT_cond rfl (fun hc => ?_) (fun hc => ?_)
            · skip
              first | with_reducible replace hc := of_decide_eq_true hc | with_reducible replace hc := bn_T hc | with_reducible replace hc := bb_T hc | skip
              have hkd : k < c.dq.length := by omega
              obtain ⟨u, g1, g2⟩ := hC.dq.at_ hkd
              have htf := take_flat hkd
              have hle := take_flat_le c.dq (k + 1)
              have hle2 : (c.dq.take (k + 1)).flatten.length = (c.dq.take k).flatten.length + c.dq[k].length := by rw [htf, List.length_append]
              refine WT_skip ?_
              refine WT_seq ?_
              refine WT_block ?_
              refine WT_region ?_
              refine WL_v rfl (ov_move rfl) ?_
              refine WL_v rfl (ov_field rfl fo_impl_Crew_0) ?_
              refine WL_v rfl (ov_load rfl one_sl_sl_int (hH.cb 0 rfl 0)) ?_
              refine WL_v rfl (ov_move rfl) ?_
              refine WL_v rfl (ov_index rfl rfl st_sl_sl_int hC.dq.sl hkd) ?_
              refine WL_v rfl (ov_load rfl one_sl_int (g2 hH.drop)) ?_
              refine WL_v rfl (ov_len rfl g1.sl st_sl_int) ?_
              refine WL_v rfl (ov_as (ov_add rfl rfl (by omega)) (congrArg (Value.int .i64) ((show ((c.dq.take k).flatten.length : Int) + (c.dq[k].length : Int) = ((c.dq.take (k + 1)).flatten.length : Int) by omega)))) ?_
              refine WL_v rfl (ov_assign rfl) ?_
              refine WL_nil ?_
              refine WT_inBlock ?_
              refine WT_region ?_
              refine WL_v rfl (ov_move rfl) ?_
              refine WL_v rfl (ov_add rfl rfl (by omega)) ?_
              refine WL_v rfl (ov_assign rfl) ?_
              refine WL_nil ?_
              refine again (k + 1) _ _ (by omega) (by repeat (first | exact trivial | refine ⟨rfl, ?_⟩)) ⟨by omega, hH⟩
            first | with_reducible replace hc := of_decide_eq_false hc | with_reducible replace hc := bn_F hc | with_reducible replace hc := bb_F hc | skip
            obtain rfl : k = c.dq.length := by omega
            rw [List.take_length]
            refine WT_exit rfl ?_
            refine WT_seq ?_
            refine WT_region ?_
            refine WL_v rfl (ov_move rfl) ?_
            refine WL_v rfl (ov_field rfl fo_impl_Crew_2) ?_
            refine WL_v rfl (ov_load rfl one_sl_int (hH.cb 0 rfl 2)) ?_
            refine WL_call rfl rfl cf_spec_ReadyOf (sReadyOf_ok hH hP hC.dn.up hpl) ?_; rintro rdv w7 ⟨R, hR, hH7⟩
            refine WL_v rfl (ov_assign rfl) ?_
            refine WL_nil ?_
            refine WT_seq ?_
            refine WT_seq ?_
            refine WT_region ?_
            refine WL_v rfl (ov_assign rfl) ?_
            refine WL_nil ?_
            refine WT_block ?_
            rw [readyI_of hv] at hR
            refine WT_while (fun s : Nat => [(0, pv), (3, ptr b), (5, .int .i64 (c.dq.flatten.length : Int)), (7, rdv), (8, .int .i64 (s : Int))]) (fun s w => s ≤ (readyI p c.dn).length ∧ (∀ i (_ : i < s) (hi : i < (readyI p c.dn).length), c.dq.flatten.count (readyI p c.dn)[i] = 1) ∧ H w h (R :: crbox b (.slice A2 c.dq.length c2) (.slice A3 c.ct.length c3) (.slice A4 c.dn.length c4) (.slice A5 c.rw.length c5) :: Ls)) (fun s => (readyI p c.dn).length - s) 0 (by repeat (first | exact trivial | refine ⟨rfl, ?_⟩)) ⟨by omega, by omega, hH7⟩ ?_
            clear hH hH7 again
            rintro k w8 ⟨hk, hall, hH⟩ again
            refine WT_seq ?_
            refine WT_seq ?_
            refine WT_region ?_
            refine WL_v rfl (ov_move rfl) ?_
            refine WL_v rfl (ov_move rfl) ?_
            refine WL_v rfl (ov_len rfl hR.sl st_sl_int) ?_
            refine WL_v rfl (ov_lss rfl rfl) ?_
            refine WL_nil ?_
            refine WT_cond rfl (fun hc => ?_) (fun hc => ?_)
            · skip
              first | with_reducible replace hc := of_decide_eq_true hc | with_reducible replace hc := bn_T hc | with_reducible replace hc := bb_T hc | skip
              have hkr : k < (readyI p c.dn).length := by omega
              have hload2 : ∀ {w : World} {X : Heaplet} {Ms : List Heaplet}, H w h (X :: crbox b (.slice A2 c.dq.length c2) (.slice A3 c.ct.length c3) (.slice A4 c.dn.length c4) (.slice A5 c.rw.length c5) :: Ms) → ∀ j v, [Value.slice A2 c.dq.length c2, .slice A3 c.ct.length c3, .slice A4 c.dn.length c4, .slice A5 c.rw.length c5][j]? = some v → w.cell? (Addr.add ⟨b, 0, none⟩ j) = some v := fun hH => hload hH.drop
              refine WT_skip ?_
              refine WT_seq ?_
              refine WT_block ?_
              refine WT_seq ?_
              refine WT_quiet mixed (by kernel_rfl) hH ?_
              clear hH
              refine WQ_v rfl (fun _ hH => ov_loadN [.slice A2 c.dq.length c2, .slice A3 c.ct.length c3, .slice A4 c.dn.length c4, .slice A5 c.rw.length c5] rfl agg_impl_Crew rfl ((hload2 hH))) ?_
              refine WQ_v rfl (fun _ _ => ov_move rfl) ?_
              refine WQ_v rfl (fun _ _ => ov_move rfl) ?_
              refine WQ_v rfl (fun _ _ => ov_index rfl rfl st_sl_int hR.sl hkr) ?_
              refine WQ_v rfl (fun _ hH => ov_load rfl one_int (hR.cell hH (i := 0) rfl hkr)) ?_
              refine WQ_call rfl rfl cf_spec_l13At (fun _ hH => l13At_ok hH hl hC.up.up (readyI p c.dn)[k]) ?_
              refine WQ_v rfl (fun _ _ => ov_move rfl) ?_
              refine WQ_v rfl (fun _ _ => ov_extract rfl rfl) ?_
              refine WQ_v rfl (fun _ _ => ov_extract rfl rfl) ?_
              refine WQ_v rfl (fun _ _ => ov_assign rfl) ?_
              refine WQ_v rfl (fun _ _ => ov_assign rfl) ?_
              refine WQ_nil ?_
              intro w9 hH
              refine WT_seq ?_
              refine WT_region ?_
              refine WL_v rfl (ov_move rfl) ?_
              refine WL_v rfl (ov_neq rfl rfl) ?_
              refine WL_nil ?_
              refine WT_cond rfl (fun hne => ?_) (fun hne => ?_)
              · skip
                first | with_reducible replace hne := of_decide_eq_true hne | with_reducible replace hne := bn_T hne | with_reducible replace hne := bb_T hne | skip
                have hne' : c.dq.flatten.count (readyI p c.dn)[k] ≠ 1 := by omega
                refine WT_seq ?_
                refine WT_region ?_
                refine WL_v rfl (ov_assign rfl) ?_
                refine WL_nil ?_
                exact WT_ret1 Tryz.func27 Tryz.results27 rfl ⟨congrArg Value.bool (by rw [List.all_eq_false.2 ⟨_, List.getElem_mem hkr, by simpa using hne'⟩, Bool.false_and, Bool.false_and]), hH.drop.drop⟩
              first | with_reducible replace hne := of_decide_eq_false hne | with_reducible replace hne := bn_F hne | with_reducible replace hne := bb_F hne | skip
              have heq' : c.dq.flatten.count (readyI p c.dn)[k] = 1 := by omega
              refine WT_skip ?_
              refine WT_inBlock ?_
              refine WT_region ?_
              refine WL_v rfl (ov_move rfl) ?_
              refine WL_v rfl (ov_add rfl rfl (by omega)) ?_
              refine WL_v rfl (ov_assign rfl) ?_
              refine WL_nil ?_
              refine again (k + 1) _ _ (by omega) (by repeat (first | exact trivial | refine ⟨rfl, ?_⟩)) ⟨by omega, fun i hi hi2 => ?_, hH⟩
              rcases Nat.lt_or_ge i k with h3 | h3
              · exact hall i h3 hi2
              · obtain rfl : i = k := by omega
                exact heq'
            first | with_reducible replace hc := of_decide_eq_false hc | with_reducible replace hc := bn_F hc | with_reducible replace hc := bb_F hc | skip
            obtain rfl : k = (readyI p c.dn).length := by omega
            have hallB : ((readyI p c.dn).all fun a => decide (c.dq.flatten.count a = 1)) = true := List.all_eq_true.2 fun a ha => by
              obtain ⟨i, hi, rfl⟩ := List.getElem_of_mem ha
              exact decide_eq_true (hall i hi hi)
            rw [hallB, Bool.true_and]
            clear again
            refine WT_exit rfl ?_
            refine WT_seq ?_
            refine WT_region ?_
            refine WL_v rfl (ov_move rfl) ?_
            refine WL_call rfl rfl cf_spec_l4Values (l4Values_ok hH hP hv) ?_; rintro ov w9 ⟨O, Is, hO, hH9⟩; replace hH9 := H.behind2 hH9
            refine WL_v rfl (ov_assign rfl) ?_
            refine WL_nil ?_
            refine WT_seq ?_
            refine WT_seq ?_
            refine WT_region ?_
            refine WL_v rfl (ov_assign rfl) ?_
            refine WL_nil ?_
            refine WT_block ?_
            have hV' : ∀ {X Y : Heaplet}, RdLL h (X :: Y :: O :: (Is ++ Ls)) ov (valsL p) := fun {X Y} => hO.rdll (LAt.cons (Ms := Ls)).skip1.skip1
            have hC2 : ∀ {X Y : Heaplet}, RdCr h (X :: Y :: O :: (Is ++ Ls)) _ _ _ _ c := fun {X Y} => (hC.ups Is).up.up.up
            have hbad : ∀ k, k < p.length → rowWant p c.dn k ≠ c.rw.getD k [] → rowsB p c = false := fun k hk hne => by
              cases hb : rowsB p c with
              | false => rfl
              | true => exact absurd (of_decide_eq_true (List.all_eq_true.1 hb k (List.mem_range.2 hk))) hne
            refine WT_while (fun s : Nat => [(0, pv), (3, ptr b), (5, .int .i64 (c.dq.flatten.length : Int)), (7, rdv), (11, ov), (12, .int .i64 (s : Int))]) (fun s w => s ≤ p.length ∧ (∀ i, i < s → rowWant p c.dn i = c.rw.getD i []) ∧ H w h (R :: crbox b (.slice A2 c.dq.length c2) (.slice A3 c.ct.length c3) (.slice A4 c.dn.length c4) (.slice A5 c.rw.length c5) :: O :: (Is ++ Ls))) (fun s => p.length - s) 0 (by repeat (first | exact trivial | refine ⟨rfl, ?_⟩)) ⟨by omega, by omega, hH9⟩ ?_
            clear hH hH9
            rintro k w10 ⟨hk, hall2, hH⟩ again
            refine WT_seq ?_
            refine WT_seq ?_
            refine WT_region ?_
            refine WL_v rfl (ov_move rfl) ?_
            refine WL_v rfl (ov_move rfl) ?_
            refine WL_v rfl (ov_len rfl hP.sl st_sl_impl_Node) ?_
            refine WL_v rfl (ov_lss rfl rfl) ?_
            refine WL_nil ?_
            refine WT_cond rfl (fun hc => ?_) (fun hc => ?_)
            · skip
              first | with_reducible replace hc := of_decide_eq_true hc | with_reducible replace hc := bn_T hc | with_reducible replace hc := bb_T hc | skip
              have hkp : k < p.length := by omega
              have hkr : k < c.rw.length := by omega
              have hkv : k < (valsL p).length := by omega
              obtain ⟨u, g1, g2⟩ := (hC2 (X := R) (Y := crbox b (.slice A2 c.dq.length c2) (.slice A3 c.ct.length c3) (.slice A4 c.dn.length c4) (.slice A5 c.rw.length c5))).rw.at_ hkr
              obtain ⟨u2, e1, e2⟩ := (hV' (X := R) (Y := crbox b (.slice A2 c.dq.length c2) (.slice A3 c.ct.length c3) (.slice A4 c.dn.length c4) (.slice A5 c.rw.length c5))).at_ hkv
              have hgr : c.rw.getD k [] = c.rw[k] := getLD hkr
              have hgv : (valsL p).getD k [] = (valsL p)[k] := getLD hkv
              refine WT_skip ?_
              refine WT_seq ?_
              refine WT_block ?_
              refine WT_seq ?_
              refine WT_region ?_
              refine WL_bsI0 rfl hH run_bs_int0 ?_; rintro Z zv w11 hZ hH11
              refine WL_v rfl (ov_assign rfl) ?_
              refine WL_nil ?_
              refine WT_seq ?_
              refine WT_seq ?_
              refine WT_region ?_
              refine WL_v rfl (ov_field rfl fo_impl_Crew_2) ?_
              refine WL_v rfl (ov_load rfl one_sl_int (hH11.cb 2 rfl 2)) ?_
              refine WL_v rfl (ov_move rfl) ?_
              refine WL_call rfl rfl cf_spec_l3Has (l3HasR_ok hH11 hC2.dn.up _) ?_; rintro _ w12 ⟨rfl, hH12⟩
              refine WL_nil ?_
              refine WT_cond rfl (fun hin => ?_) (fun hin => ?_)
              · skip
                first | with_reducible replace hin := of_decide_eq_true hin | with_reducible replace hin := bn_T hin | with_reducible replace hin := bb_T hin | skip
                have hw2 : rowWant p c.dn k = (valsL p)[k] := by rw [rowWant, if_pos hin, hgv]
                refine WT_region ?_
                refine WL_v rfl (ov_move rfl) ?_
                refine WL_v rfl (ov_move rfl) ?_
                refine WL_v rfl (ov_index rfl rfl st_sl_sl_int hO.sl hkv) ?_
                refine WL_v rfl (ov_load rfl one_sl_int (e2 hH12.drop)) ?_
                refine WL_v rfl (ov_assign rfl) ?_
                refine WL_nil ?_
                refine WT_seq ?_
                refine WT_region ?_
                refine WL_v rfl (ov_move rfl) ?_
                refine WL_v rfl (ov_field rfl fo_impl_Crew_3) ?_
                refine WL_v rfl (ov_load rfl one_sl_sl_int (hH12.cb 2 rfl 3)) ?_
                refine WL_v rfl (ov_move rfl) ?_
                refine WL_v rfl (ov_index rfl rfl st_sl_sl_int hC.rw.sl hkr) ?_
                refine WL_v rfl (ov_load rfl one_sl_int (g2 hH12.drop)) ?_
                refine WL_call rfl rfl cf_spec_l13Same (l13Same_ok hH12 e1.up g1.up) ?_; rintro _ w13 ⟨rfl, hH13⟩
                refine WL_v rfl (ov_not rfl) ?_
                refine WL_nil ?_
                refine WT_cond rfl (fun hq => ?_) (fun hq => ?_)
                · skip
                  first | with_reducible replace hq := of_decide_eq_true hq | with_reducible replace hq := bn_T hq | with_reducible replace hq := bb_T hq | skip
                  have hq' : (valsL p)[k] ≠ c.rw[k] := by simpa using hq
                  refine WT_seq ?_
                  refine WT_region ?_
                  refine WL_v rfl (ov_assign rfl) ?_
                  refine WL_nil ?_
                  exact WT_ret1 Tryz.func27 Tryz.results27 rfl ⟨by rw [hbad k (by omega) (by rw [hw2, hgr]; exact hq'), Bool.and_false], hH13.drop.drop.drop.drop.drops Is⟩
                first | with_reducible replace hq := of_decide_eq_false hq | with_reducible replace hq := bn_F hq | with_reducible replace hq := bb_F hq | skip
                have hq' : (valsL p)[k] = c.rw[k] := by simpa using hq
                refine WT_skip ?_
                refine WT_inBlock ?_
                refine WT_region ?_
                refine WL_v rfl (ov_move rfl) ?_
                refine WL_v rfl (ov_add rfl rfl (by omega)) ?_
                refine WL_v rfl (ov_assign rfl) ?_
                refine WL_nil ?_
                refine again (k + 1) _ _ (by omega) (by repeat (first | exact trivial | refine ⟨rfl, ?_⟩)) ⟨by omega, fun i hi => ?_, hH13.drop⟩
                rcases Nat.lt_or_ge i k with h3 | h3
                · exact hall2 i h3
                · obtain rfl : i = k := by omega
                  rw [hw2, hgr, hq']
              first | with_reducible replace hin := of_decide_eq_false hin | with_reducible replace hin := bn_F hin | with_reducible replace hin := bb_F hin | skip
              have hw2 : rowWant p c.dn k = [] := by rw [rowWant, if_neg hin]
              refine WT_skip ?_
              refine WT_seq ?_
              refine WT_region ?_
              refine WL_v rfl (ov_move rfl) ?_
              refine WL_v rfl (ov_field rfl fo_impl_Crew_3) ?_
              refine WL_v rfl (ov_load rfl one_sl_sl_int (hH12.cb 2 rfl 3)) ?_
              refine WL_v rfl (ov_move rfl) ?_
              refine WL_v rfl (ov_index rfl rfl st_sl_sl_int hC.rw.sl hkr) ?_
              refine WL_v rfl (ov_load rfl one_sl_int (g2 hH12.drop)) ?_
              refine WL_call rfl rfl cf_spec_l13Same (l13Same_ok hH12 (hZ.rdl (i := 0) rfl) g1.up) ?_; rintro _ w13 ⟨rfl, hH13⟩
              refine WL_v rfl (ov_not rfl) ?_
              refine WL_nil ?_
              refine WT_cond rfl (fun hq => ?_) (fun hq => ?_)
              · skip
                first | with_reducible replace hq := of_decide_eq_true hq | with_reducible replace hq := bn_T hq | with_reducible replace hq := bb_T hq | skip
                have hq' : [] ≠ c.rw[k] := by simpa using hq
                refine WT_seq ?_
                refine WT_region ?_
                refine WL_v rfl (ov_assign rfl) ?_
                refine WL_nil ?_
                exact WT_ret1 Tryz.func27 Tryz.results27 rfl ⟨by rw [hbad k (by omega) (by rw [hw2, hgr]; exact hq'), Bool.and_false], hH13.drop.drop.drop.drop.drops Is⟩
              first | with_reducible replace hq := of_decide_eq_false hq | with_reducible replace hq := bn_F hq | with_reducible replace hq := bb_F hq | skip
              have hq' : [] = c.rw[k] := by simpa using hq
              refine WT_skip ?_
              refine WT_inBlock ?_
              refine WT_region ?_
              refine WL_v rfl (ov_move rfl) ?_
              refine WL_v rfl (ov_add rfl rfl (by omega)) ?_
              refine WL_v rfl (ov_assign rfl) ?_
              refine WL_nil ?_
              refine again (k + 1) _ _ (by omega) (by repeat (first | exact trivial | refine ⟨rfl, ?_⟩)) ⟨by omega, fun i hi => ?_, hH13.drop⟩
              rcases Nat.lt_or_ge i k with h3 | h3
              · exact hall2 i h3
              · obtain rfl : i = k := by omega
                rw [hw2, hgr, hq']
            first | with_reducible replace hc := of_decide_eq_false hc | with_reducible replace hc := bn_F hc | with_reducible replace hc := bb_F hc | skip
            obtain rfl : k = p.length := by omega
            have hrB : rowsB p c = true := List.all_eq_true.2 fun i hi => decide_eq_true (hall2 i (List.mem_range.1 hi))
            refine WT_exit rfl ?_
            refine WT_seq ?_
            refine WT_region ?_
            refine WL_v rfl (ov_move rfl) ?_
            refine WL_v rfl (ov_move rfl) ?_
            refine WL_v rfl (ov_len rfl hR.sl st_sl_int) ?_
            refine WL_v rfl (ov_eql rfl rfl) ?_
            refine WL_v rfl (ov_assign rfl) ?_
            refine WL_nil ?_
            exact WT_ret1 Tryz.func27 Tryz.results27 rfl ⟨congrArg Value.bool (by rw [hrB, Bool.and_true]; exact decide_eq_decide.2 (by omega)), hH.drop.drop.drop.drops Is⟩
          · skip
            have hbd : crewOk p c = false := crewOk_not fun hh => h2 hh.rl
            rw [hbd]
            refine WL_call rfl rfl cf_spec_PlanValid (hsv hH1) ?_; rintro _ w2 ⟨rfl, hH2⟩
            refine WL_v rfl (ov_not rfl) ?_
            refine WL_v rfl (ov_move rfl) ?_
            refine WL_guardOn rfl rfl ?_
            refine WL_v rfl (ov_field rfl fo_impl_Crew_0) ?_
            refine WL_guardOn rfl rfl ?_
            refine WL_v rfl (ov_load rfl one_sl_sl_int (hH2.cb 0 rfl 0)) ?_
            refine WL_guardOn rfl rfl ?_
            refine WL_v rfl (ov_len rfl hC.dq.sl st_sl_sl_int) ?_
            refine WL_guardOn rfl rfl ?_
            refine WL_call rfl rfl cf_spec_l6In (hli hH2) ?_; rintro _ w3 ⟨rfl, hH3⟩
            refine WL_guardOn rfl rfl ?_
            refine WL_v rfl (ov_not rfl) ?_
            refine WL_v rfl (ov_pickF rfl rfl) ?_
            refine WL_v rfl (ov_move rfl) ?_
            refine WL_guardOn rfl rfl ?_
            refine WL_v rfl (ov_move rfl) ?_
            refine WL_guardOn rfl rfl ?_
            refine WL_v rfl (ov_field rfl fo_impl_Crew_2) ?_
            refine WL_guardOn rfl rfl ?_
            refine WL_v rfl (ov_load rfl one_sl_int (hH3.cb 0 rfl 2)) ?_
            refine WL_guardOn rfl rfl ?_
            refine WL_call rfl rfl cf_spec_l13Order (hod hH3) ?_; rintro _ w4 ⟨rfl, hH4⟩
            refine WL_guardOn rfl rfl ?_
            refine WL_v rfl (ov_not rfl) ?_
            refine WL_v rfl (ov_pickF rfl rfl) ?_
            refine WL_v rfl (ov_move rfl) ?_
            refine WL_guardOn rfl rfl ?_
            refine WL_v rfl (ov_move rfl) ?_
            refine WL_guardOn rfl rfl ?_
            refine WL_v rfl (ov_loadN [.slice A2 c.dq.length c2, .slice A3 c.ct.length c3, .slice A4 c.dn.length c4, .slice A5 c.rw.length c5] rfl agg_impl_Crew rfl ((hload hH4))) ?_
            refine WL_guardOn rfl rfl ?_
            refine WL_call rfl rfl cf_spec_l13Counts (hct hH4) ?_; rintro _ w5 ⟨rfl, hH5⟩
            refine WL_guardOn rfl rfl ?_
            refine WL_v rfl (ov_not rfl) ?_
            refine WL_v rfl (ov_pickF rfl rfl) ?_
            refine WL_v rfl (ov_move rfl) ?_
            refine WL_guardOn rfl rfl ?_
            refine WL_v rfl (ov_field rfl fo_impl_Crew_3) ?_
            refine WL_guardOn rfl rfl ?_
            refine WL_v rfl (ov_load rfl one_sl_sl_int (hH5.cb 0 rfl 3)) ?_
            refine WL_guardOn rfl rfl ?_
            refine WL_v rfl (ov_len rfl hC.rw.sl st_sl_sl_int) ?_
            refine WL_guardOn rfl rfl ?_
            refine WL_v rfl (ov_move rfl) ?_
            refine WL_guardOn rfl rfl ?_
            refine WL_v rfl (ov_len rfl hP.sl st_sl_impl_Node) ?_
            refine WL_guardOn rfl rfl ?_
            refine WL_v rfl (ov_T (ov_neq rfl rfl) (by first | exact decide_eq_true (by omega) | exact nb_T (by omega) | exact mb_T (by omega) | exact (by omega) | (simp only [decide_eq_true_eq]; omega) | simpa using (by omega))) ?_
            refine WL_v rfl (ov_pickF rfl rfl) ?_
            refine WL_nil ?_
            refine WT_condT rfl ?_
            refine WT_seq ?_
            refine WT_region ?_
            refine WL_v rfl (ov_assign rfl) ?_
            refine WL_nil ?_
            exact WT_ret1 Tryz.func27 Tryz.results27 rfl ⟨rfl, hH5.drop⟩
        · skip
          have hbd : crewOk p c = false := crewOk_not fun hh => h1 hh.ct
          rw [hbd]
          rw [decide_eq_false h1] at hct
          refine WL_call rfl rfl cf_spec_PlanValid (hsv hH1) ?_; rintro _ w2 ⟨rfl, hH2⟩
          refine WL_v rfl (ov_not rfl) ?_
          refine WL_v rfl (ov_move rfl) ?_
          refine WL_guardOn rfl rfl ?_
          refine WL_v rfl (ov_field rfl fo_impl_Crew_0) ?_
          refine WL_guardOn rfl rfl ?_
          refine WL_v rfl (ov_load rfl one_sl_sl_int (hH2.cb 0 rfl 0)) ?_
          refine WL_guardOn rfl rfl ?_
          refine WL_v rfl (ov_len rfl hC.dq.sl st_sl_sl_int) ?_
          refine WL_guardOn rfl rfl ?_
          refine WL_call rfl rfl cf_spec_l6In (hli hH2) ?_; rintro _ w3 ⟨rfl, hH3⟩
          refine WL_guardOn rfl rfl ?_
          refine WL_v rfl (ov_not rfl) ?_
          refine WL_v rfl (ov_pickF rfl rfl) ?_
          refine WL_v rfl (ov_move rfl) ?_
          refine WL_guardOn rfl rfl ?_
          refine WL_v rfl (ov_move rfl) ?_
          refine WL_guardOn rfl rfl ?_
          refine WL_v rfl (ov_field rfl fo_impl_Crew_2) ?_
          refine WL_guardOn rfl rfl ?_
          refine WL_v rfl (ov_load rfl one_sl_int (hH3.cb 0 rfl 2)) ?_
          refine WL_guardOn rfl rfl ?_
          refine WL_call rfl rfl cf_spec_l13Order (hod hH3) ?_; rintro _ w4 ⟨rfl, hH4⟩
          refine WL_guardOn rfl rfl ?_
          refine WL_v rfl (ov_not rfl) ?_
          refine WL_v rfl (ov_pickF rfl rfl) ?_
          refine WL_v rfl (ov_move rfl) ?_
          refine WL_guardOn rfl rfl ?_
          refine WL_v rfl (ov_move rfl) ?_
          refine WL_guardOn rfl rfl ?_
          refine WL_v rfl (ov_loadN [.slice A2 c.dq.length c2, .slice A3 c.ct.length c3, .slice A4 c.dn.length c4, .slice A5 c.rw.length c5] rfl agg_impl_Crew rfl ((hload hH4))) ?_
          refine WL_guardOn rfl rfl ?_
          refine WL_call rfl rfl cf_spec_l13Counts (hct hH4) ?_; rintro _ w5 ⟨rfl, hH5⟩
          refine WL_guardOn rfl rfl ?_
          refine WL_v rfl (ov_not rfl) ?_
          refine WL_v rfl (ov_pickF rfl rfl) ?_
          refine WL_v rfl (ov_move rfl) ?_
          refine WL_guardOff rfl rfl rfl rfl ?_
          refine WL_guardOff rfl rfl rfl rfl ?_
          refine WL_guardOff rfl rfl rfl rfl ?_
          refine WL_guardOff rfl rfl rfl rfl ?_
          refine WL_guardOff rfl rfl rfl rfl ?_
          refine WL_guardOff rfl rfl rfl rfl ?_
          refine WL_v rfl (ov_pickT rfl rfl) ?_
          refine WL_nil ?_
          refine WT_condT rfl ?_
          refine WT_seq ?_
          refine WT_region ?_
          refine WL_v rfl (ov_assign rfl) ?_
          refine WL_nil ?_
          exact WT_ret1 Tryz.func27 Tryz.results27 rfl ⟨rfl, hH5.drop⟩
      · skip
        have hbd : crewOk p c = false := crewOk_not fun hh => ho hh.ord
        rw [hbd]
        have ho' : orderB p c.dn = false := by simpa using ho
        rw [ho'] at hod
        refine WL_call rfl rfl cf_spec_PlanValid (hsv hH1) ?_; rintro _ w2 ⟨rfl, hH2⟩
        refine WL_v rfl (ov_not rfl) ?_
        refine WL_v rfl (ov_move rfl) ?_
        refine WL_guardOn rfl rfl ?_
        refine WL_v rfl (ov_field rfl fo_impl_Crew_0) ?_
        refine WL_guardOn rfl rfl ?_
        refine WL_v rfl (ov_load rfl one_sl_sl_int (hH2.cb 0 rfl 0)) ?_
        refine WL_guardOn rfl rfl ?_
        refine WL_v rfl (ov_len rfl hC.dq.sl st_sl_sl_int) ?_
        refine WL_guardOn rfl rfl ?_
        refine WL_call rfl rfl cf_spec_l6In (hli hH2) ?_; rintro _ w3 ⟨rfl, hH3⟩
        refine WL_guardOn rfl rfl ?_
        refine WL_v rfl (ov_not rfl) ?_
        refine WL_v rfl (ov_pickF rfl rfl) ?_
        refine WL_v rfl (ov_move rfl) ?_
        refine WL_guardOn rfl rfl ?_
        refine WL_v rfl (ov_move rfl) ?_
        refine WL_guardOn rfl rfl ?_
        refine WL_v rfl (ov_field rfl fo_impl_Crew_2) ?_
        refine WL_guardOn rfl rfl ?_
        refine WL_v rfl (ov_load rfl one_sl_int (hH3.cb 0 rfl 2)) ?_
        refine WL_guardOn rfl rfl ?_
        refine WL_call rfl rfl cf_spec_l13Order (hod hH3) ?_; rintro _ w4 ⟨rfl, hH4⟩
        refine WL_guardOn rfl rfl ?_
        refine WL_v rfl (ov_not rfl) ?_
        refine WL_v rfl (ov_pickF rfl rfl) ?_
        refine WL_v rfl (ov_move rfl) ?_
        refine WL_guardOff rfl rfl rfl rfl ?_
        refine WL_guardOff rfl rfl rfl rfl ?_
        refine WL_guardOff rfl rfl rfl rfl ?_
        refine WL_guardOff rfl rfl rfl rfl ?_
        refine WL_v rfl (ov_pickT rfl rfl) ?_
        refine WL_v rfl (ov_move rfl) ?_
        refine WL_guardOff rfl rfl rfl rfl ?_
        refine WL_guardOff rfl rfl rfl rfl ?_
        refine WL_guardOff rfl rfl rfl rfl ?_
        refine WL_guardOff rfl rfl rfl rfl ?_
        refine WL_guardOff rfl rfl rfl rfl ?_
        refine WL_guardOff rfl rfl rfl rfl ?_
        refine WL_v rfl (ov_pickT rfl rfl) ?_
        refine WL_nil ?_
        refine WT_condT rfl ?_
        refine WT_seq ?_
        refine WT_region ?_
        refine WL_v rfl (ov_assign rfl) ?_
        refine WL_nil ?_
        exact WT_ret1 Tryz.func27 Tryz.results27 rfl ⟨rfl, hH4.drop⟩
    · skip
      have hbd : crewOk p c = false := crewOk_not fun hh => hw hh.dq
      rw [hbd]
      have hli := fun {w : World} {Ls : List Heaplet} (hH : H w h Ls) => l6In_ok hH (c.dq.length : Int) 1 4
      rw [decide_eq_false (show ¬ (1 ≤ (c.dq.length : Int) ∧ (c.dq.length : Int) ≤ 4) by omega)] at hli
      refine WL_call rfl rfl cf_spec_PlanValid (hsv hH1) ?_; rintro _ w2 ⟨rfl, hH2⟩
      refine WL_v rfl (ov_not rfl) ?_
      refine WL_v rfl (ov_move rfl) ?_
      refine WL_guardOn rfl rfl ?_
      refine WL_v rfl (ov_field rfl fo_impl_Crew_0) ?_
      refine WL_guardOn rfl rfl ?_
      refine WL_v rfl (ov_load rfl one_sl_sl_int (hH2.cb 0 rfl 0)) ?_
      refine WL_guardOn rfl rfl ?_
      refine WL_v rfl (ov_len rfl hC.dq.sl st_sl_sl_int) ?_
      refine WL_guardOn rfl rfl ?_
      refine WL_call rfl rfl cf_spec_l6In (hli hH2) ?_; rintro _ w3 ⟨rfl, hH3⟩
      refine WL_guardOn rfl rfl ?_
      refine WL_v rfl (ov_not rfl) ?_
      refine WL_v rfl (ov_pickF rfl rfl) ?_
      refine WL_v rfl (ov_move rfl) ?_
      refine WL_guardOff rfl rfl rfl rfl ?_
      refine WL_guardOff rfl rfl rfl rfl ?_
      refine WL_guardOff rfl rfl rfl rfl ?_
      refine WL_guardOff rfl rfl rfl rfl ?_
      refine WL_guardOff rfl rfl rfl rfl ?_
      refine WL_v rfl (ov_pickT rfl rfl) ?_
      refine WL_v rfl (ov_move rfl) ?_
      refine WL_guardOff rfl rfl rfl rfl ?_
      refine WL_guardOff rfl rfl rfl rfl ?_
      refine WL_guardOff rfl rfl rfl rfl ?_
      refine WL_guardOff rfl rfl rfl rfl ?_
      refine WL_v rfl (ov_pickT rfl rfl) ?_
      refine WL_v rfl (ov_move rfl) ?_
      refine WL_guardOff rfl rfl rfl rfl ?_
      refine WL_guardOff rfl rfl rfl rfl ?_
      refine WL_guardOff rfl rfl rfl rfl ?_
      refine WL_guardOff rfl rfl rfl rfl ?_
      refine WL_guardOff rfl rfl rfl rfl ?_
      refine WL_guardOff rfl rfl rfl rfl ?_
      refine WL_v rfl (ov_pickT rfl rfl) ?_
      refine WL_nil ?_
      refine WT_condT rfl ?_
      refine WT_seq ?_
      refine WT_region ?_
      refine WL_v rfl (ov_assign rfl) ?_
      refine WL_nil ?_
      exact WT_ret1 Tryz.func27 Tryz.results27 rfl ⟨rfl, hH3.drop⟩
  · skip
    have hbd : crewOk p c = false := crewOk_not fun hh => hv hh.plan
    rw [hbd]
    have hv' : planOk p = false := by simpa using hv
    rw [hv'] at hsv
    refine WL_call rfl rfl cf_spec_PlanValid (hsv hH1) ?_; rintro _ w2 ⟨rfl, hH2⟩
    refine WL_v rfl (ov_not rfl) ?_
    refine WL_v rfl (ov_move rfl) ?_
    refine WL_guardOff rfl rfl rfl rfl ?_
    refine WL_guardOff rfl rfl rfl rfl ?_
    refine WL_guardOff rfl rfl rfl rfl ?_
    refine WL_guardOff rfl rfl rfl rfl ?_
    refine WL_guardOff rfl rfl rfl rfl ?_
    refine WL_v rfl (ov_pickT rfl rfl) ?_
    refine WL_v rfl (ov_move rfl) ?_
    refine WL_guardOff rfl rfl rfl rfl ?_
    refine WL_guardOff rfl rfl rfl rfl ?_
    refine WL_guardOff rfl rfl rfl rfl ?_
    refine WL_guardOff rfl rfl rfl rfl ?_
    refine WL_guardOff rfl rfl rfl rfl ?_
    refine WL_v rfl (ov_pickT rfl rfl) ?_
    refine WL_v rfl (ov_move rfl) ?_
    refine WL_guardOff rfl rfl rfl rfl ?_
    refine WL_guardOff rfl rfl rfl rfl ?_
    refine WL_guardOff rfl rfl rfl rfl ?_
    refine WL_guardOff rfl rfl rfl rfl ?_
    refine WL_v rfl (ov_pickT rfl rfl) ?_
    refine WL_v rfl (ov_move rfl) ?_
    refine WL_guardOff rfl rfl rfl rfl ?_
    refine WL_guardOff rfl rfl rfl rfl ?_
    refine WL_guardOff rfl rfl rfl rfl ?_
    refine WL_guardOff rfl rfl rfl rfl ?_
    refine WL_guardOff rfl rfl rfl rfl ?_
    refine WL_guardOff rfl rfl rfl rfl ?_
    refine WL_v rfl (ov_pickT rfl rfl) ?_
    refine WL_nil ?_
    refine WT_condT rfl ?_
    refine WT_seq ?_
    refine WT_region ?_
    refine WL_v rfl (ov_assign rfl) ?_
    refine WL_nil ?_
    exact WT_ret1 Tryz.func27 Tryz.results27 rfl ⟨rfl, hH2.drop⟩
end
end Go.Proofs.YteagnhdhafiofaaGreat

/- Walks: crews of one's own, and how they are copied. -/
namespace Go.Proofs.YteagnhdhafiofaaGreat
open Go.RowKit

theorem zero_crew (W : World) : (zeroValue 27).run Tryz.prog W = .ok (.agg #[.slice none 0 0, .slice none 0 0, .slice none 0 0, .slice none 0 0]) W := by kernel_rfl
theorem run_build_cd' (a b : Option Addr) (n m c d : Nat) (W : World) : (Instr.build 27 #[(1, .slice a n c), (2, .slice b m d)]).run Tryz.prog W = .ok (.agg #[.slice none 0 0, .slice a n c, .slice b m d, .slice none 0 0]) W := by kernel_rfl
theorem run_build_cd {u v : Value} {n m : Nat} (hu : Sl u n) (hv : Sl v m) (W : World) : (Instr.build 27 #[(1, u), (2, v)]).run Tryz.prog W = .ok (.agg #[.slice none 0 0, u, v, .slice none 0 0]) W := by
  obtain ⟨a, c, rfl, _⟩ := hu.form
  obtain ⟨b, d, rfl, _⟩ := hv.form
  exact run_build_cd' _ _ _ _ _ _ W
theorem run_build_crew0 (W : World) : (Instr.build 27 #[]).run Tryz.prog W = .ok (.agg #[.slice none 0 0, .slice none 0 0, .slice none 0 0, .slice none 0 0]) W := by kernel_rfl
abbrev cz9 (g : Nat) : Heaplet := [(g, .cells (Value.agg #[.slice none 0 0, .slice none 0 0, .slice none 0 0, .slice none 0 0]).cells 27 (0, 0))]

/-- A crew of one's own. -/
structure OCr (C N D R : Heaplet) (Ds Rs : List Heaplet) (dv cv nv rv : Value) (c : Cr) : Prop where
  ct : IRow C 3 cv c.ct
  dn : IRow N 3 nv c.dn
  dq : OLists D Ds dv c.dq
  rw : OLists R Rs rv c.rw
abbrev crP (C N D R : Heaplet) (Ds Rs : List Heaplet) : List Heaplet := C :: N :: D :: R :: (Ds ++ Rs)

section
variable {h : GH} {Ls : List Heaplet} {w : World}

theorem Cl.many : ∀ (A : List Heaplet) {Ls : List Heaplet}, H w h (A ++ Ls) → Cl h Ls w := fun A Ls hH => ⟨A.flatten, by simpa [H] using hH⟩
theorem LAt.dq {C N D R : Heaplet} {Ds Ms : List Heaplet} : LAt (C :: N :: D :: R :: (Ds ++ Ms)) 2 4 D Ds := ⟨rfl, fun j F hj => by
  rw [show 4 + j = j + 1 + 1 + 1 + 1 by omega]
  simp only [List.getElem?_cons_succ]
  rw [List.getElem?_append_left (List.getElem?_eq_some_iff.1 hj).1]
  exact hj⟩
theorem LAt.rws {C N D R : Heaplet} {Ds Rs Ms : List Heaplet} : LAt (C :: N :: D :: R :: (Ds ++ (Rs ++ Ms))) 3 (4 + Ds.length) R Rs := ⟨rfl, fun j F hj => by
  rw [show 4 + Ds.length + j = (Ds.length + j) + 1 + 1 + 1 + 1 by omega]
  simp only [List.getElem?_cons_succ]
  rw [List.getElem?_append_right (by omega), Nat.add_sub_cancel_left, List.getElem?_append_left (List.getElem?_eq_some_iff.1 hj).1]
  exact hj⟩
theorem OCr.rd {C N D R : Heaplet} {Ds Rs : List Heaplet} {dv cv nv rv : Value} {c : Cr} (hO : OCr C N D R Ds Rs dv cv nv rv c) : RdCr h (C :: N :: D :: R :: (Ds ++ (Rs ++ Ls))) dv cv nv rv c :=
  ⟨hO.dq.rdll LAt.dq, hO.ct.rdl (i := 0) rfl, hO.dn.rdl (i := 1) rfl, hO.rw.rdll LAt.rws⟩
theorem H.snocG {T : Heaplet} {A Is Ms : List Heaplet} (hH : H w h (T :: (A ++ (Is ++ Ms)))) : H w h (A ++ ((Is ++ [T]) ++ Ms)) := by
  refine hH.perm ?_
  have : (T :: ((A ++ Is) ++ Ms)).Perm ((A ++ Is) ++ T :: Ms) := List.perm_middle.symm
  simpa using this
theorem loadCrew {i b : Nat} {dv cv nv rv : Value} (hi : Ls[i]? = some (crbox b dv cv nv rv)) (hH : H w h Ls) : ∀ j v, [dv, cv, nv, rv][j]? = some v → w.cell? (Addr.add ⟨b, 0, none⟩ j) = some v := fun j v hj => by
  rw [show Addr.add ⟨b, 0, none⟩ j = ⟨b, j, none⟩ by simp [add_of]]
  exact (hH.cb i hi j).trans (by simpa using hj)
theorem lvCrew {i b : Nat} {dv cv nv rv : Value} (hi : Ls[i]? = some (crbox b dv cv nv rv)) (hH : H w h Ls) : (loadVar 27 ⟨b, 0, none⟩).run Tryz.prog w = .ok (.agg [dv, cv, nv, rv].toArray) w :=
  run_loadVarN agg_impl_Crew rfl (loadCrew hi hH)

/-- A crew is copied. -/
def CpV (h : GH) (Ls : List Heaplet) (c : Cr) (v : Value) (w' : World) : Prop := ∃ C N D R Ds Rs dv cv nv rv, v = crV dv cv nv rv ∧ OCr C N D R Ds Rs dv cv nv rv c ∧ H w' h (C :: N :: D :: R :: (Ds ++ (Rs ++ Ls)))
set_option maxHeartbeats 4000000 in
theorem l14Copy_ok (hH : H w h Ls) {dv cv nv rv : Value} {c : Cr} (hl : CrLim c) (hC : RdCr h Ls dv cv nv rv c) : Rets Tryz.prog 42 #[crV dv cv nv rv] w (CpV h Ls c) := by
  have hlq := hl.dq
  have hlc := hl.ct
  have hln := hl.dn
  have hlr := hl.rw
  have hld := hl.dd
  have hlw := hl.rr
  obtain ⟨A2, c2, rfl, _⟩ := hC.dq.sl.form
  obtain ⟨A3, c3, rfl, _⟩ := hC.ct.sl.form
  obtain ⟨A4, c4, rfl, _⟩ := hC.dn.sl.form
  obtain ⟨A5, c5, rfl, _⟩ := hC.rw.sl.form
  have hqs := hC.dq.sl
  have hrs := hC.rw.sl
  refine rets_enter Tryz.func42 rfl Tryz.ntmps42 (by simp) ?_
  refine WT_seq ?_
  refine WT_region ?_
  refine WL_box _ rfl hH rfl rfl ?_; rintro b w1 hH1; replace hH1 : H w1 h (crbox b (.slice A2 c.dq.length c2) (.slice A3 c.ct.length c3) (.slice A4 c.dn.length c4) (.slice A5 c.rw.length c5) :: Ls) := hH1
  refine WL_alloc _ rfl hH1 zero_crew rfl ?_; rintro g2 w2 hH2
  refine WL_nil ?_
  refine WT_seq ?_
  have hct : RdL h (cz9 g2 :: crbox b (.slice A2 c.dq.length c2) (.slice A3 c.ct.length c3) (.slice A4 c.dn.length c4) (.slice A5 c.rw.length c5) :: Ls) (.slice A3 c.ct.length c3) c.ct := hC.ct.up.up
  have hdn : RdL h (cz9 g2 :: crbox b (.slice A2 c.dq.length c2) (.slice A3 c.ct.length c3) (.slice A4 c.dn.length c4) (.slice A5 c.rw.length c5) :: Ls) (.slice A4 c.dn.length c4) c.dn := hC.dn.up.up
  refine WT_join (ι := Heaplet × Heaplet × Value × Value × Nat) (fun s => [(1, ptr b), (2, ptr g2), (3, ptr s.2.2.2.2)]) (fun s w => IRow s.1 3 s.2.2.1 c.ct ∧ IRow s.2.1 3 s.2.2.2.1 c.dn ∧ H w h (crbox s.2.2.2.2 (.slice none 0 0) s.2.2.1 s.2.2.2.1 (.slice none 0 0) :: s.1 :: s.2.1 :: cz9 g2 :: crbox b (.slice A2 c.dq.length c2) (.slice A3 c.ct.length c3) (.slice A4 c.dn.length c4) (.slice A5 c.rw.length c5) :: Ls)) (fun joined => ?_) ?_
  · skip
    refine WT_mixX [(0, 2), (1, 0), (2, 0), (3, 2), (4, 2), (5, 0), (6, 0), (7, 2), (8, 0), (9, 2), (10, 3)] [(1, 0), (2, 0), (5, 0), (6, 0)] 7 #[false, true, true, false, false, true, true, false, false, false, false] mixed (by kernel_rfl) hH2 ?_
    clear hH2
    intro w2 hH2 hC
    refine WM_v rfl rfl hC (fun _ _ => ov_field rfl fo_impl_Crew_1) ?_
    refine WM_v rfl rfl hC (fun _ ⟨_, hH⟩ => ov_load rfl one_sl_int (hH.cb 2 rfl 1)) ?_
    refine WM_v rfl rfl hC (fun _ _ => ov_field rfl fo_impl_Crew_2) ?_
    refine WM_v rfl rfl hC (fun _ ⟨_, hH⟩ => ov_load rfl one_sl_int (hH.cb 2 rfl 2)) ?_
    refine WM_fork3 0 4 9 0 0 0 [] [] [] 6 6 6 #[true, true, true, false, false, true, true, false, false, false, false] #[false, true, true, false, true, true, true, false, false, false, false] #[false, true, true, false, false, true, true, false, false, true, false] (by kernel_rfl) ?_ ?_ ?_
    · skip
      refine WM_e rfl ?_
      refine WL_bsI0 rfl hH2 run_bs_int0 ?_; rintro X0 v0 w3 hX0 hK3
      replace hC : Cl _ _ _ := Cl.many [X0] hK3
      refine WL_mix (fun _ => hC) ?_
      refine WM_fork3 3 4 9 0 0 0 [] [] [] 5 5 5 #[true, true, true, true, false, true, true, false, false, false, false] #[true, true, true, false, true, true, true, false, false, false, false] #[true, true, true, false, false, true, true, false, false, true, false] (by kernel_rfl) ?_ ?_ ?_
      · skip
        refine WM_e rfl ?_
        refine WL_appR (i := 0) (xs := []) rfl hK3 rfl rfl st_sl_int rfl hX0 hct.sl ((hct.ups [X0]).cell hK3) (by simp only [List.length_nil]; omega) (by simp only [List.length_nil]; omega) ?_; clear hX0; rintro X0 v3 w4 hX0 hK4; rw [List.nil_append] at hX0
        replace hC : Cl _ _ _ := Cl.many [X0] hK4
        refine WL_mix (fun _ => hC) ?_
        refine WM_fork 4 9 0 0 [] [(4, 2), (7, 2), (8, 0), (10, 3)] 4 0 #[true, true, true, true, true, true, true, false, false, false, false] #[true, true, true, true, true, true, true, true, true, true, true] (by kernel_rfl) ?_ ?_
        · skip
          refine WM_e rfl ?_
          refine WL_bsI0 rfl hK4 run_bs_int0 ?_; rintro X4 v4 w5 hX4 hK5
          replace hC : Cl _ _ _ := Cl.many [X4, X0] hK5
          refine WL_mix (fun _ => hC) ?_
          refine WM_fork 7 9 0 0 [(8, 0), (9, 2), (10, 3)] [(7, 2), (8, 0), (10, 3)] 0 0 #[true, true, true, true, true, true, true, true, true, true, true] #[true, true, true, true, true, true, true, true, true, true, true] (by kernel_rfl) ?_ ?_
          · skip
            refine WM_e rfl ?_
            refine WL_appR (i := 0) (xs := []) rfl hK5 rfl rfl st_sl_int rfl hX4 hdn.sl ((hdn.ups [X4, X0]).cell hK5) (by simp only [List.length_nil]; omega) (by simp only [List.length_nil]; omega) ?_; clear hX4; rintro X4 v7 w6 hX4 hK6; rw [List.nil_append] at hX4
            replace hC : Cl _ _ _ := Cl.many [X4, X0] hK6
            refine WL_mix (fun _ => hC) ?_
            refine WM_v rfl rfl hC (fun _ _ => ov_build rfl (run_build_cd hX0.sl hX4.sl)) ?_
            refine WM_e rfl ?_
            refine WL_alloc _ rfl hK6 zero_crew rfl ?_; rintro g9 w7 hK7
            replace hC : Cl _ _ _ := Cl.many [cz9 g9, X4, X0] hK7
            refine WL_mix (fun _ => hC) ?_
            refine WM_e rfl ?_
            refine WL_storeN hK7 rfl rfl (i := 0) rfl rfl rfl (ones_cons rfl (ones_cons hX0.sl.one (ones_cons hX4.sl.one (ones_cons rfl ones_nil)))) sz_impl_Crew ?_; rintro w8 hK8
            refine WL_mix (fun h => absurd rfl h) ?_
            refine WM_fin (by kernel_rfl) ?_
            exact joined (X0, X4, v3, v7, g9) _ _ (by repeat (first | exact trivial | refine ⟨rfl, ?_⟩)) ⟨hX0, hX4, (((hK8.pull 1 rfl).pull 2 rfl).pull 2 rfl)⟩
          refine WM_e rfl ?_
          refine WL_alloc _ rfl hK5 zero_crew rfl ?_; rintro g9 w6 hK6
          replace hC : Cl _ _ _ := Cl.many [cz9 g9, X4, X0] hK6
          refine WL_mix (fun _ => hC) ?_
          refine WM_e rfl ?_
          refine WL_appR (i := 1) (xs := []) rfl hK6 rfl rfl st_sl_int rfl hX4 hdn.sl ((hdn.ups [cz9 g9, X4, X0]).cell hK6) (by simp only [List.length_nil]; omega) (by simp only [List.length_nil]; omega) ?_; clear hX4; rintro X4 v7 w7 hX4 hK7; rw [List.nil_append] at hX4
          replace hC : Cl _ _ _ := Cl.many [cz9 g9, X4, X0] hK7
          refine WL_mix (fun _ => hC) ?_
          refine WM_v rfl rfl hC (fun _ _ => ov_build rfl (run_build_cd hX0.sl hX4.sl)) ?_
          refine WM_e rfl ?_
          refine WL_storeN hK7 rfl rfl (i := 0) rfl rfl rfl (ones_cons rfl (ones_cons hX0.sl.one (ones_cons hX4.sl.one (ones_cons rfl ones_nil)))) sz_impl_Crew ?_; rintro w8 hK8
          refine WL_mix (fun h => absurd rfl h) ?_
          refine WM_fin (by kernel_rfl) ?_
          exact joined (X0, X4, v3, v7, g9) _ _ (by repeat (first | exact trivial | refine ⟨rfl, ?_⟩)) ⟨hX0, hX4, (((hK8.pull 1 rfl).pull 2 rfl).pull 2 rfl)⟩
        refine WM_e rfl ?_
        refine WL_alloc _ rfl hK4 zero_crew rfl ?_; rintro g9 w5 hK5
        replace hC : Cl _ _ _ := Cl.many [cz9 g9, X0] hK5
        refine WL_mix (fun _ => hC) ?_
        refine WM_e rfl ?_
        refine WL_bsI0 rfl hK5 run_bs_int0 ?_; rintro X4 v4 w6 hX4 hK6
        replace hC : Cl _ _ _ := Cl.many [X4, cz9 g9, X0] hK6
        refine WL_mix (fun _ => hC) ?_
        refine WM_e rfl ?_
        refine WL_appR (i := 0) (xs := []) rfl hK6 rfl rfl st_sl_int rfl hX4 hdn.sl ((hdn.ups [X4, cz9 g9, X0]).cell hK6) (by simp only [List.length_nil]; omega) (by simp only [List.length_nil]; omega) ?_; clear hX4; rintro X4 v7 w7 hX4 hK7; rw [List.nil_append] at hX4
        replace hC : Cl _ _ _ := Cl.many [X4, cz9 g9, X0] hK7
        refine WL_mix (fun _ => hC) ?_
        refine WM_v rfl rfl hC (fun _ _ => ov_build rfl (run_build_cd hX0.sl hX4.sl)) ?_
        refine WM_e rfl ?_
        refine WL_storeN hK7 rfl rfl (i := 1) rfl rfl rfl (ones_cons rfl (ones_cons hX0.sl.one (ones_cons hX4.sl.one (ones_cons rfl ones_nil)))) sz_impl_Crew ?_; rintro w8 hK8
        refine WL_mix (fun h => absurd rfl h) ?_
        refine WM_fin (by kernel_rfl) ?_
        exact joined (X0, X4, v3, v7, g9) _ _ (by repeat (first | exact trivial | refine ⟨rfl, ?_⟩)) ⟨hX0, hX4, (((hK8.pull 0 rfl).pull 2 rfl).pull 2 rfl)⟩
      · skip
        refine WM_e rfl ?_
        refine WL_bsI0 rfl hK3 run_bs_int0 ?_; rintro X4 v4 w4 hX4 hK4
        replace hC : Cl _ _ _ := Cl.many [X4, X0] hK4
        refine WL_mix (fun _ => hC) ?_
        refine WM_fork 3 9 0 0 [] [(3, 2), (7, 2), (8, 0), (10, 3)] 4 0 #[true, true, true, true, true, true, true, false, false, false, false] #[true, true, true, true, true, true, true, true, true, true, true] (by kernel_rfl) ?_ ?_
        · skip
          refine WM_e rfl ?_
          refine WL_appR (i := 1) (xs := []) rfl hK4 rfl rfl st_sl_int rfl hX0 hct.sl ((hct.ups [X4, X0]).cell hK4) (by simp only [List.length_nil]; omega) (by simp only [List.length_nil]; omega) ?_; clear hX0; rintro X0 v3 w5 hX0 hK5; rw [List.nil_append] at hX0
          replace hC : Cl _ _ _ := Cl.many [X4, X0] hK5
          refine WL_mix (fun _ => hC) ?_
          refine WM_fork 7 9 0 0 [(8, 0), (9, 2), (10, 3)] [(7, 2), (8, 0), (10, 3)] 0 0 #[true, true, true, true, true, true, true, true, true, true, true] #[true, true, true, true, true, true, true, true, true, true, true] (by kernel_rfl) ?_ ?_
          · skip
            refine WM_e rfl ?_
            refine WL_appR (i := 0) (xs := []) rfl hK5 rfl rfl st_sl_int rfl hX4 hdn.sl ((hdn.ups [X4, X0]).cell hK5) (by simp only [List.length_nil]; omega) (by simp only [List.length_nil]; omega) ?_; clear hX4; rintro X4 v7 w6 hX4 hK6; rw [List.nil_append] at hX4
            replace hC : Cl _ _ _ := Cl.many [X4, X0] hK6
            refine WL_mix (fun _ => hC) ?_
            refine WM_v rfl rfl hC (fun _ _ => ov_build rfl (run_build_cd hX0.sl hX4.sl)) ?_
            refine WM_e rfl ?_
            refine WL_alloc _ rfl hK6 zero_crew rfl ?_; rintro g9 w7 hK7
            replace hC : Cl _ _ _ := Cl.many [cz9 g9, X4, X0] hK7
            refine WL_mix (fun _ => hC) ?_
            refine WM_e rfl ?_
            refine WL_storeN hK7 rfl rfl (i := 0) rfl rfl rfl (ones_cons rfl (ones_cons hX0.sl.one (ones_cons hX4.sl.one (ones_cons rfl ones_nil)))) sz_impl_Crew ?_; rintro w8 hK8
            refine WL_mix (fun h => absurd rfl h) ?_
            refine WM_fin (by kernel_rfl) ?_
            exact joined (X0, X4, v3, v7, g9) _ _ (by repeat (first | exact trivial | refine ⟨rfl, ?_⟩)) ⟨hX0, hX4, (((hK8.pull 1 rfl).pull 2 rfl).pull 2 rfl)⟩
          refine WM_e rfl ?_
          refine WL_alloc _ rfl hK5 zero_crew rfl ?_; rintro g9 w6 hK6
          replace hC : Cl _ _ _ := Cl.many [cz9 g9, X4, X0] hK6
          refine WL_mix (fun _ => hC) ?_
          refine WM_e rfl ?_
          refine WL_appR (i := 1) (xs := []) rfl hK6 rfl rfl st_sl_int rfl hX4 hdn.sl ((hdn.ups [cz9 g9, X4, X0]).cell hK6) (by simp only [List.length_nil]; omega) (by simp only [List.length_nil]; omega) ?_; clear hX4; rintro X4 v7 w7 hX4 hK7; rw [List.nil_append] at hX4
          replace hC : Cl _ _ _ := Cl.many [cz9 g9, X4, X0] hK7
          refine WL_mix (fun _ => hC) ?_
          refine WM_v rfl rfl hC (fun _ _ => ov_build rfl (run_build_cd hX0.sl hX4.sl)) ?_
          refine WM_e rfl ?_
          refine WL_storeN hK7 rfl rfl (i := 0) rfl rfl rfl (ones_cons rfl (ones_cons hX0.sl.one (ones_cons hX4.sl.one (ones_cons rfl ones_nil)))) sz_impl_Crew ?_; rintro w8 hK8
          refine WL_mix (fun h => absurd rfl h) ?_
          refine WM_fin (by kernel_rfl) ?_
          exact joined (X0, X4, v3, v7, g9) _ _ (by repeat (first | exact trivial | refine ⟨rfl, ?_⟩)) ⟨hX0, hX4, (((hK8.pull 1 rfl).pull 2 rfl).pull 2 rfl)⟩
        refine WM_e rfl ?_
        refine WL_alloc _ rfl hK4 zero_crew rfl ?_; rintro g9 w5 hK5
        replace hC : Cl _ _ _ := Cl.many [cz9 g9, X4, X0] hK5
        refine WL_mix (fun _ => hC) ?_
        refine WM_e rfl ?_
        refine WL_appR (i := 2) (xs := []) rfl hK5 rfl rfl st_sl_int rfl hX0 hct.sl ((hct.ups [cz9 g9, X4, X0]).cell hK5) (by simp only [List.length_nil]; omega) (by simp only [List.length_nil]; omega) ?_; clear hX0; rintro X0 v3 w6 hX0 hK6; rw [List.nil_append] at hX0
        replace hC : Cl _ _ _ := Cl.many [cz9 g9, X4, X0] hK6
        refine WL_mix (fun _ => hC) ?_
        refine WM_e rfl ?_
        refine WL_appR (i := 1) (xs := []) rfl hK6 rfl rfl st_sl_int rfl hX4 hdn.sl ((hdn.ups [cz9 g9, X4, X0]).cell hK6) (by simp only [List.length_nil]; omega) (by simp only [List.length_nil]; omega) ?_; clear hX4; rintro X4 v7 w7 hX4 hK7; rw [List.nil_append] at hX4
        replace hC : Cl _ _ _ := Cl.many [cz9 g9, X4, X0] hK7
        refine WL_mix (fun _ => hC) ?_
        refine WM_v rfl rfl hC (fun _ _ => ov_build rfl (run_build_cd hX0.sl hX4.sl)) ?_
        refine WM_e rfl ?_
        refine WL_storeN hK7 rfl rfl (i := 0) rfl rfl rfl (ones_cons rfl (ones_cons hX0.sl.one (ones_cons hX4.sl.one (ones_cons rfl ones_nil)))) sz_impl_Crew ?_; rintro w8 hK8
        refine WL_mix (fun h => absurd rfl h) ?_
        refine WM_fin (by kernel_rfl) ?_
        exact joined (X0, X4, v3, v7, g9) _ _ (by repeat (first | exact trivial | refine ⟨rfl, ?_⟩)) ⟨hX0, hX4, (((hK8.pull 1 rfl).pull 2 rfl).pull 2 rfl)⟩
      refine WM_e rfl ?_
      refine WL_alloc _ rfl hK3 zero_crew rfl ?_; rintro g9 w4 hK4
      replace hC : Cl _ _ _ := Cl.many [cz9 g9, X0] hK4
      refine WL_mix (fun _ => hC) ?_
      refine WM_fork 3 4 0 0 [(4, 2), (7, 2), (8, 0), (10, 3)] [(3, 2), (7, 2), (8, 0), (10, 3)] 0 0 #[true, true, true, true, true, true, true, true, true, true, true] #[true, true, true, true, true, true, true, true, true, true, true] (by kernel_rfl) ?_ ?_
      · skip
        refine WM_e rfl ?_
        refine WL_appR (i := 1) (xs := []) rfl hK4 rfl rfl st_sl_int rfl hX0 hct.sl ((hct.ups [cz9 g9, X0]).cell hK4) (by simp only [List.length_nil]; omega) (by simp only [List.length_nil]; omega) ?_; clear hX0; rintro X0 v3 w5 hX0 hK5; rw [List.nil_append] at hX0
        replace hC : Cl _ _ _ := Cl.many [cz9 g9, X0] hK5
        refine WL_mix (fun _ => hC) ?_
        refine WM_e rfl ?_
        refine WL_bsI0 rfl hK5 run_bs_int0 ?_; rintro X4 v4 w6 hX4 hK6
        replace hC : Cl _ _ _ := Cl.many [X4, cz9 g9, X0] hK6
        refine WL_mix (fun _ => hC) ?_
        refine WM_e rfl ?_
        refine WL_appR (i := 0) (xs := []) rfl hK6 rfl rfl st_sl_int rfl hX4 hdn.sl ((hdn.ups [X4, cz9 g9, X0]).cell hK6) (by simp only [List.length_nil]; omega) (by simp only [List.length_nil]; omega) ?_; clear hX4; rintro X4 v7 w7 hX4 hK7; rw [List.nil_append] at hX4
        replace hC : Cl _ _ _ := Cl.many [X4, cz9 g9, X0] hK7
        refine WL_mix (fun _ => hC) ?_
        refine WM_v rfl rfl hC (fun _ _ => ov_build rfl (run_build_cd hX0.sl hX4.sl)) ?_
        refine WM_e rfl ?_
        refine WL_storeN hK7 rfl rfl (i := 1) rfl rfl rfl (ones_cons rfl (ones_cons hX0.sl.one (ones_cons hX4.sl.one (ones_cons rfl ones_nil)))) sz_impl_Crew ?_; rintro w8 hK8
        refine WL_mix (fun h => absurd rfl h) ?_
        refine WM_fin (by kernel_rfl) ?_
        exact joined (X0, X4, v3, v7, g9) _ _ (by repeat (first | exact trivial | refine ⟨rfl, ?_⟩)) ⟨hX0, hX4, (((hK8.pull 0 rfl).pull 2 rfl).pull 2 rfl)⟩
      refine WM_e rfl ?_
      refine WL_bsI0 rfl hK4 run_bs_int0 ?_; rintro X4 v4 w5 hX4 hK5
      replace hC : Cl _ _ _ := Cl.many [X4, cz9 g9, X0] hK5
      refine WL_mix (fun _ => hC) ?_
      refine WM_e rfl ?_
      refine WL_appR (i := 2) (xs := []) rfl hK5 rfl rfl st_sl_int rfl hX0 hct.sl ((hct.ups [X4, cz9 g9, X0]).cell hK5) (by simp only [List.length_nil]; omega) (by simp only [List.length_nil]; omega) ?_; clear hX0; rintro X0 v3 w6 hX0 hK6; rw [List.nil_append] at hX0
      replace hC : Cl _ _ _ := Cl.many [X4, cz9 g9, X0] hK6
      refine WL_mix (fun _ => hC) ?_
      refine WM_e rfl ?_
      refine WL_appR (i := 0) (xs := []) rfl hK6 rfl rfl st_sl_int rfl hX4 hdn.sl ((hdn.ups [X4, cz9 g9, X0]).cell hK6) (by simp only [List.length_nil]; omega) (by simp only [List.length_nil]; omega) ?_; clear hX4; rintro X4 v7 w7 hX4 hK7; rw [List.nil_append] at hX4
      replace hC : Cl _ _ _ := Cl.many [X4, cz9 g9, X0] hK7
      refine WL_mix (fun _ => hC) ?_
      refine WM_v rfl rfl hC (fun _ _ => ov_build rfl (run_build_cd hX0.sl hX4.sl)) ?_
      refine WM_e rfl ?_
      refine WL_storeN hK7 rfl rfl (i := 1) rfl rfl rfl (ones_cons rfl (ones_cons hX0.sl.one (ones_cons hX4.sl.one (ones_cons rfl ones_nil)))) sz_impl_Crew ?_; rintro w8 hK8
      refine WL_mix (fun h => absurd rfl h) ?_
      refine WM_fin (by kernel_rfl) ?_
      exact joined (X0, X4, v3, v7, g9) _ _ (by repeat (first | exact trivial | refine ⟨rfl, ?_⟩)) ⟨hX0, hX4, (((hK8.pull 0 rfl).pull 2 rfl).pull 2 rfl)⟩
    · skip
      refine WM_e rfl ?_
      refine WL_bsI0 rfl hH2 run_bs_int0 ?_; rintro X4 v4 w3 hX4 hK3
      replace hC : Cl _ _ _ := Cl.many [X4] hK3
      refine WL_mix (fun _ => hC) ?_
      refine WM_fork 0 9 0 0 [] [(0, 2), (3, 2), (7, 2), (8, 0), (10, 3)] 5 0 #[true, true, true, false, true, true, true, false, false, false, false] #[true, true, true, true, true, true, true, true, true, true, true] (by kernel_rfl) ?_ ?_
      · skip
        refine WM_e rfl ?_
        refine WL_bsI0 rfl hK3 run_bs_int0 ?_; rintro X0 v0 w4 hX0 hK4
        replace hC : Cl _ _ _ := Cl.many [X0, X4] hK4
        refine WL_mix (fun _ => hC) ?_
        refine WM_fork 3 9 0 0 [] [(3, 2), (7, 2), (8, 0), (10, 3)] 4 0 #[true, true, true, true, true, true, true, false, false, false, false] #[true, true, true, true, true, true, true, true, true, true, true] (by kernel_rfl) ?_ ?_
        · skip
          refine WM_e rfl ?_
          refine WL_appR (i := 0) (xs := []) rfl hK4 rfl rfl st_sl_int rfl hX0 hct.sl ((hct.ups [X0, X4]).cell hK4) (by simp only [List.length_nil]; omega) (by simp only [List.length_nil]; omega) ?_; clear hX0; rintro X0 v3 w5 hX0 hK5; rw [List.nil_append] at hX0
          replace hC : Cl _ _ _ := Cl.many [X0, X4] hK5
          refine WL_mix (fun _ => hC) ?_
          refine WM_fork 7 9 0 0 [(8, 0), (9, 2), (10, 3)] [(7, 2), (8, 0), (10, 3)] 0 0 #[true, true, true, true, true, true, true, true, true, true, true] #[true, true, true, true, true, true, true, true, true, true, true] (by kernel_rfl) ?_ ?_
          · skip
            refine WM_e rfl ?_
            refine WL_appR (i := 1) (xs := []) rfl hK5 rfl rfl st_sl_int rfl hX4 hdn.sl ((hdn.ups [X0, X4]).cell hK5) (by simp only [List.length_nil]; omega) (by simp only [List.length_nil]; omega) ?_; clear hX4; rintro X4 v7 w6 hX4 hK6; rw [List.nil_append] at hX4
            replace hC : Cl _ _ _ := Cl.many [X0, X4] hK6
            refine WL_mix (fun _ => hC) ?_
            refine WM_v rfl rfl hC (fun _ _ => ov_build rfl (run_build_cd hX0.sl hX4.sl)) ?_
            refine WM_e rfl ?_
            refine WL_alloc _ rfl hK6 zero_crew rfl ?_; rintro g9 w7 hK7
            replace hC : Cl _ _ _ := Cl.many [cz9 g9, X0, X4] hK7
            refine WL_mix (fun _ => hC) ?_
            refine WM_e rfl ?_
            refine WL_storeN hK7 rfl rfl (i := 0) rfl rfl rfl (ones_cons rfl (ones_cons hX0.sl.one (ones_cons hX4.sl.one (ones_cons rfl ones_nil)))) sz_impl_Crew ?_; rintro w8 hK8
            refine WL_mix (fun h => absurd rfl h) ?_
            refine WM_fin (by kernel_rfl) ?_
            exact joined (X0, X4, v3, v7, g9) _ _ (by repeat (first | exact trivial | refine ⟨rfl, ?_⟩)) ⟨hX0, hX4, (((hK8.pull 2 rfl).pull 2 rfl).pull 2 rfl)⟩
          refine WM_e rfl ?_
          refine WL_alloc _ rfl hK5 zero_crew rfl ?_; rintro g9 w6 hK6
          replace hC : Cl _ _ _ := Cl.many [cz9 g9, X0, X4] hK6
          refine WL_mix (fun _ => hC) ?_
          refine WM_e rfl ?_
          refine WL_appR (i := 2) (xs := []) rfl hK6 rfl rfl st_sl_int rfl hX4 hdn.sl ((hdn.ups [cz9 g9, X0, X4]).cell hK6) (by simp only [List.length_nil]; omega) (by simp only [List.length_nil]; omega) ?_; clear hX4; rintro X4 v7 w7 hX4 hK7; rw [List.nil_append] at hX4
          replace hC : Cl _ _ _ := Cl.many [cz9 g9, X0, X4] hK7
          refine WL_mix (fun _ => hC) ?_
          refine WM_v rfl rfl hC (fun _ _ => ov_build rfl (run_build_cd hX0.sl hX4.sl)) ?_
          refine WM_e rfl ?_
          refine WL_storeN hK7 rfl rfl (i := 0) rfl rfl rfl (ones_cons rfl (ones_cons hX0.sl.one (ones_cons hX4.sl.one (ones_cons rfl ones_nil)))) sz_impl_Crew ?_; rintro w8 hK8
          refine WL_mix (fun h => absurd rfl h) ?_
          refine WM_fin (by kernel_rfl) ?_
          exact joined (X0, X4, v3, v7, g9) _ _ (by repeat (first | exact trivial | refine ⟨rfl, ?_⟩)) ⟨hX0, hX4, (((hK8.pull 2 rfl).pull 2 rfl).pull 2 rfl)⟩
        refine WM_e rfl ?_
        refine WL_alloc _ rfl hK4 zero_crew rfl ?_; rintro g9 w5 hK5
        replace hC : Cl _ _ _ := Cl.many [cz9 g9, X0, X4] hK5
        refine WL_mix (fun _ => hC) ?_
        refine WM_e rfl ?_
        refine WL_appR (i := 1) (xs := []) rfl hK5 rfl rfl st_sl_int rfl hX0 hct.sl ((hct.ups [cz9 g9, X0, X4]).cell hK5) (by simp only [List.length_nil]; omega) (by simp only [List.length_nil]; omega) ?_; clear hX0; rintro X0 v3 w6 hX0 hK6; rw [List.nil_append] at hX0
        replace hC : Cl _ _ _ := Cl.many [cz9 g9, X0, X4] hK6
        refine WL_mix (fun _ => hC) ?_
        refine WM_e rfl ?_
        refine WL_appR (i := 2) (xs := []) rfl hK6 rfl rfl st_sl_int rfl hX4 hdn.sl ((hdn.ups [cz9 g9, X0, X4]).cell hK6) (by simp only [List.length_nil]; omega) (by simp only [List.length_nil]; omega) ?_; clear hX4; rintro X4 v7 w7 hX4 hK7; rw [List.nil_append] at hX4
        replace hC : Cl _ _ _ := Cl.many [cz9 g9, X0, X4] hK7
        refine WL_mix (fun _ => hC) ?_
        refine WM_v rfl rfl hC (fun _ _ => ov_build rfl (run_build_cd hX0.sl hX4.sl)) ?_
        refine WM_e rfl ?_
        refine WL_storeN hK7 rfl rfl (i := 0) rfl rfl rfl (ones_cons rfl (ones_cons hX0.sl.one (ones_cons hX4.sl.one (ones_cons rfl ones_nil)))) sz_impl_Crew ?_; rintro w8 hK8
        refine WL_mix (fun h => absurd rfl h) ?_
        refine WM_fin (by kernel_rfl) ?_
        exact joined (X0, X4, v3, v7, g9) _ _ (by repeat (first | exact trivial | refine ⟨rfl, ?_⟩)) ⟨hX0, hX4, (((hK8.pull 2 rfl).pull 2 rfl).pull 2 rfl)⟩
      refine WM_e rfl ?_
      refine WL_alloc _ rfl hK3 zero_crew rfl ?_; rintro g9 w4 hK4
      replace hC : Cl _ _ _ := Cl.many [cz9 g9, X4] hK4
      refine WL_mix (fun _ => hC) ?_
      refine WM_e rfl ?_
      refine WL_bsI0 rfl hK4 run_bs_int0 ?_; rintro X0 v0 w5 hX0 hK5
      replace hC : Cl _ _ _ := Cl.many [X0, cz9 g9, X4] hK5
      refine WL_mix (fun _ => hC) ?_
      refine WM_e rfl ?_
      refine WL_appR (i := 0) (xs := []) rfl hK5 rfl rfl st_sl_int rfl hX0 hct.sl ((hct.ups [X0, cz9 g9, X4]).cell hK5) (by simp only [List.length_nil]; omega) (by simp only [List.length_nil]; omega) ?_; clear hX0; rintro X0 v3 w6 hX0 hK6; rw [List.nil_append] at hX0
      replace hC : Cl _ _ _ := Cl.many [X0, cz9 g9, X4] hK6
      refine WL_mix (fun _ => hC) ?_
      refine WM_e rfl ?_
      refine WL_appR (i := 2) (xs := []) rfl hK6 rfl rfl st_sl_int rfl hX4 hdn.sl ((hdn.ups [X0, cz9 g9, X4]).cell hK6) (by simp only [List.length_nil]; omega) (by simp only [List.length_nil]; omega) ?_; clear hX4; rintro X4 v7 w7 hX4 hK7; rw [List.nil_append] at hX4
      replace hC : Cl _ _ _ := Cl.many [X0, cz9 g9, X4] hK7
      refine WL_mix (fun _ => hC) ?_
      refine WM_v rfl rfl hC (fun _ _ => ov_build rfl (run_build_cd hX0.sl hX4.sl)) ?_
      refine WM_e rfl ?_
      refine WL_storeN hK7 rfl rfl (i := 1) rfl rfl rfl (ones_cons rfl (ones_cons hX0.sl.one (ones_cons hX4.sl.one (ones_cons rfl ones_nil)))) sz_impl_Crew ?_; rintro w8 hK8
      refine WL_mix (fun h => absurd rfl h) ?_
      refine WM_fin (by kernel_rfl) ?_
      exact joined (X0, X4, v3, v7, g9) _ _ (by repeat (first | exact trivial | refine ⟨rfl, ?_⟩)) ⟨hX0, hX4, (((hK8.pull 2 rfl).pull 1 rfl).pull 2 rfl)⟩
    refine WM_e rfl ?_
    refine WL_alloc _ rfl hH2 zero_crew rfl ?_; rintro g9 w3 hK3
    replace hC : Cl _ _ _ := Cl.many [cz9 g9] hK3
    refine WL_mix (fun _ => hC) ?_
    refine WM_fork 0 4 0 0 [] [(0, 2), (3, 2), (7, 2), (8, 0), (10, 3)] 5 0 #[true, true, true, false, false, true, true, false, false, true, false] #[true, true, true, true, true, true, true, true, true, true, true] (by kernel_rfl) ?_ ?_
    · skip
      refine WM_e rfl ?_
      refine WL_bsI0 rfl hK3 run_bs_int0 ?_; rintro X0 v0 w4 hX0 hK4
      replace hC : Cl _ _ _ := Cl.many [X0, cz9 g9] hK4
      refine WL_mix (fun _ => hC) ?_
      refine WM_fork 3 4 0 0 [(4, 2), (7, 2), (8, 0), (10, 3)] [(3, 2), (7, 2), (8, 0), (10, 3)] 0 0 #[true, true, true, true, true, true, true, true, true, true, true] #[true, true, true, true, true, true, true, true, true, true, true] (by kernel_rfl) ?_ ?_
      · skip
        refine WM_e rfl ?_
        refine WL_appR (i := 0) (xs := []) rfl hK4 rfl rfl st_sl_int rfl hX0 hct.sl ((hct.ups [X0, cz9 g9]).cell hK4) (by simp only [List.length_nil]; omega) (by simp only [List.length_nil]; omega) ?_; clear hX0; rintro X0 v3 w5 hX0 hK5; rw [List.nil_append] at hX0
        replace hC : Cl _ _ _ := Cl.many [X0, cz9 g9] hK5
        refine WL_mix (fun _ => hC) ?_
        refine WM_e rfl ?_
        refine WL_bsI0 rfl hK5 run_bs_int0 ?_; rintro X4 v4 w6 hX4 hK6
        replace hC : Cl _ _ _ := Cl.many [X4, X0, cz9 g9] hK6
        refine WL_mix (fun _ => hC) ?_
        refine WM_e rfl ?_
        refine WL_appR (i := 0) (xs := []) rfl hK6 rfl rfl st_sl_int rfl hX4 hdn.sl ((hdn.ups [X4, X0, cz9 g9]).cell hK6) (by simp only [List.length_nil]; omega) (by simp only [List.length_nil]; omega) ?_; clear hX4; rintro X4 v7 w7 hX4 hK7; rw [List.nil_append] at hX4
        replace hC : Cl _ _ _ := Cl.many [X4, X0, cz9 g9] hK7
        refine WL_mix (fun _ => hC) ?_
        refine WM_v rfl rfl hC (fun _ _ => ov_build rfl (run_build_cd hX0.sl hX4.sl)) ?_
        refine WM_e rfl ?_
        refine WL_storeN hK7 rfl rfl (i := 2) rfl rfl rfl (ones_cons rfl (ones_cons hX0.sl.one (ones_cons hX4.sl.one (ones_cons rfl ones_nil)))) sz_impl_Crew ?_; rintro w8 hK8
        refine WL_mix (fun h => absurd rfl h) ?_
        refine WM_fin (by kernel_rfl) ?_
        exact joined (X0, X4, v3, v7, g9) _ _ (by repeat (first | exact trivial | refine ⟨rfl, ?_⟩)) ⟨hX0, hX4, (((hK8.pull 0 rfl).pull 1 rfl).pull 2 rfl)⟩
      refine WM_e rfl ?_
      refine WL_bsI0 rfl hK4 run_bs_int0 ?_; rintro X4 v4 w5 hX4 hK5
      replace hC : Cl _ _ _ := Cl.many [X4, X0, cz9 g9] hK5
      refine WL_mix (fun _ => hC) ?_
      refine WM_e rfl ?_
      refine WL_appR (i := 1) (xs := []) rfl hK5 rfl rfl st_sl_int rfl hX0 hct.sl ((hct.ups [X4, X0, cz9 g9]).cell hK5) (by simp only [List.length_nil]; omega) (by simp only [List.length_nil]; omega) ?_; clear hX0; rintro X0 v3 w6 hX0 hK6; rw [List.nil_append] at hX0
      replace hC : Cl _ _ _ := Cl.many [X4, X0, cz9 g9] hK6
      refine WL_mix (fun _ => hC) ?_
      refine WM_e rfl ?_
      refine WL_appR (i := 0) (xs := []) rfl hK6 rfl rfl st_sl_int rfl hX4 hdn.sl ((hdn.ups [X4, X0, cz9 g9]).cell hK6) (by simp only [List.length_nil]; omega) (by simp only [List.length_nil]; omega) ?_; clear hX4; rintro X4 v7 w7 hX4 hK7; rw [List.nil_append] at hX4
      replace hC : Cl _ _ _ := Cl.many [X4, X0, cz9 g9] hK7
      refine WL_mix (fun _ => hC) ?_
      refine WM_v rfl rfl hC (fun _ _ => ov_build rfl (run_build_cd hX0.sl hX4.sl)) ?_
      refine WM_e rfl ?_
      refine WL_storeN hK7 rfl rfl (i := 2) rfl rfl rfl (ones_cons rfl (ones_cons hX0.sl.one (ones_cons hX4.sl.one (ones_cons rfl ones_nil)))) sz_impl_Crew ?_; rintro w8 hK8
      refine WL_mix (fun h => absurd rfl h) ?_
      refine WM_fin (by kernel_rfl) ?_
      exact joined (X0, X4, v3, v7, g9) _ _ (by repeat (first | exact trivial | refine ⟨rfl, ?_⟩)) ⟨hX0, hX4, (((hK8.pull 0 rfl).pull 1 rfl).pull 2 rfl)⟩
    refine WM_e rfl ?_
    refine WL_bsI0 rfl hK3 run_bs_int0 ?_; rintro X4 v4 w4 hX4 hK4
    replace hC : Cl _ _ _ := Cl.many [X4, cz9 g9] hK4
    refine WL_mix (fun _ => hC) ?_
    refine WM_e rfl ?_
    refine WL_bsI0 rfl hK4 run_bs_int0 ?_; rintro X0 v0 w5 hX0 hK5
    replace hC : Cl _ _ _ := Cl.many [X0, X4, cz9 g9] hK5
    refine WL_mix (fun _ => hC) ?_
    refine WM_e rfl ?_
    refine WL_appR (i := 0) (xs := []) rfl hK5 rfl rfl st_sl_int rfl hX0 hct.sl ((hct.ups [X0, X4, cz9 g9]).cell hK5) (by simp only [List.length_nil]; omega) (by simp only [List.length_nil]; omega) ?_; clear hX0; rintro X0 v3 w6 hX0 hK6; rw [List.nil_append] at hX0
    replace hC : Cl _ _ _ := Cl.many [X0, X4, cz9 g9] hK6
    refine WL_mix (fun _ => hC) ?_
    refine WM_e rfl ?_
    refine WL_appR (i := 1) (xs := []) rfl hK6 rfl rfl st_sl_int rfl hX4 hdn.sl ((hdn.ups [X0, X4, cz9 g9]).cell hK6) (by simp only [List.length_nil]; omega) (by simp only [List.length_nil]; omega) ?_; clear hX4; rintro X4 v7 w7 hX4 hK7; rw [List.nil_append] at hX4
    replace hC : Cl _ _ _ := Cl.many [X0, X4, cz9 g9] hK7
    refine WL_mix (fun _ => hC) ?_
    refine WM_v rfl rfl hC (fun _ _ => ov_build rfl (run_build_cd hX0.sl hX4.sl)) ?_
    refine WM_e rfl ?_
    refine WL_storeN hK7 rfl rfl (i := 2) rfl rfl rfl (ones_cons rfl (ones_cons hX0.sl.one (ones_cons hX4.sl.one (ones_cons rfl ones_nil)))) sz_impl_Crew ?_; rintro w8 hK8
    refine WL_mix (fun h => absurd rfl h) ?_
    refine WM_fin (by kernel_rfl) ?_
    exact joined (X0, X4, v3, v7, g9) _ _ (by repeat (first | exact trivial | refine ⟨rfl, ?_⟩)) ⟨hX0, hX4, (((hK8.pull 1 rfl).pull 1 rfl).pull 2 rfl)⟩
  clear hH hH1 hH2 hct hdn
  rintro ⟨X, Y, xv, yv, g⟩ w3 ⟨hX, hY, hH⟩
  simp only at hX hY hH
  refine WT_seq ?_
  refine WT_seq ?_
  refine WT_region ?_
  refine WL_v rfl (ov_assign rfl) ?_
  refine WL_nil ?_
  refine WT_block ?_
  refine WT_while (fun s : Nat => [(1, ptr b), (2, ptr g2), (3, ptr g), (4, .int .i64 (s : Int))]) (fun s w => s ≤ c.dq.length ∧ ∃ dv D Ds, OLists D Ds dv (c.dq.take s) ∧ H w h (crbox g dv xv yv (.slice none 0 0) :: X :: Y :: D :: cz9 g2 :: crbox b (.slice A2 c.dq.length c2) (.slice A3 c.ct.length c3) (.slice A4 c.dn.length c4) (.slice A5 c.rw.length c5) :: (Ds ++ Ls))) (fun s => c.dq.length - s) 0 (by repeat (first | exact trivial | refine ⟨rfl, ?_⟩)) ⟨by omega, .slice none 0 0, [], [], OLists.nil _ _ (Row.nil _ _), hH.nilIn.perm (by
    refine .trans (.swap _ _ _) (.cons _ ?_)
    exact .trans (.swap _ _ _) (.cons _ (.swap _ _ _)))⟩ ?_
  clear hH
  rintro k w4 ⟨hk, dv, D, Ds, hD, hH⟩ again
  refine WT_seq ?_
  refine WT_seq ?_
  refine WT_region ?_
  refine WL_v rfl (ov_move rfl) ?_
  refine WL_v rfl (ov_field rfl fo_impl_Crew_0) ?_
  refine WL_v rfl (ov_load rfl one_sl_sl_int (hH.cb 5 rfl 0)) ?_
  refine WL_v rfl (ov_len rfl hC.dq.sl st_sl_sl_int) ?_
  refine WL_v rfl (ov_lss rfl rfl) ?_
  refine WL_nil ?_
  refine WT_cond rfl (fun hc => ?_) (fun hc => ?_)
  · skip
    first | with_reducible replace hc := of_decide_eq_true hc | with_reducible replace hc := bn_T hc | with_reducible replace hc := bb_T hc | skip
    have hkd : k < c.dq.length := by omega
    obtain ⟨u, h1, h2⟩ := hC.dq.at_ hkd
    have htf := take_flat hkd
    have hle := take_flat_le c.dq (k + 1)
    have hle2 : (c.dq.take (k + 1)).flatten.length = (c.dq.take k).flatten.length + c.dq[k].length := by rw [htf, List.length_append]
    have htl : (c.dq.take k).length = k := by rw [List.length_take]; omega
    have h1u : ∀ A : List Heaplet, RdL h (A ++ Ls) u c.dq[k] := h1.ups
    have h2u : ∀ (A : List Heaplet) {w : World}, H w h (A ++ Ls) → w.cell? ((slA (.slice A2 c.dq.length c2)).add (k * 1)) = some u := fun A {w} hH => h2 (hH.drops A)
    obtain ⟨hil, xs, hR, hat⟩ := hD
    refine WT_skip ?_
    refine WT_seq ?_
    refine WT_block ?_
    refine WT_mixL [(0, 1), (1, 0), (3, 1), (4, 0), (5, 1), (6, 1), (7, 0), (2, 2), (8, 2), (9, 2), (10, 3), (11, 1), (12, 3)] mixed (by kernel_rfl) hH ?_
    clear hH
    intro w5 hH hC
    refine WM_p rfl rfl (fun _ => ov_field rfl fo_impl_Crew_0) ?_
    refine WM_v rfl rfl hC (fun _ ⟨_, hH⟩ => ov_load rfl one_sl_sl_int (hH.cb 1 rfl 0)) ?_
    refine WM_p rfl rfl (fun _ => ov_field rfl fo_impl_Crew_0) ?_
    refine WM_v rfl rfl hC (fun _ ⟨_, hH⟩ => ov_load rfl one_sl_sl_int (hH.cb 6 rfl 0)) ?_
    refine WM_p rfl rfl (fun _ => ov_move rfl) ?_
    refine WM_p rfl rfl (fun _ => ov_index rfl rfl st_sl_sl_int hqs hkd) ?_
    refine WM_v rfl rfl hC (fun _ ⟨_, hH⟩ => ov_load rfl one_sl_int (h2u (_ :: _ :: _ :: _ :: _ :: _ :: _ :: Ds) hH)) ?_
    refine WM_e rfl ?_
    refine WL_bsI0 rfl hH run_bs_int0 ?_; rintro Z zv w6 hZ hH6
    replace hC : Cl _ _ _ := Cl.many [Z] hH6
    refine WL_mix (fun _ => hC) ?_
    refine WM_e rfl ?_
    refine WL_appR (i := 0) (xs := []) rfl hH6 rfl rfl st_sl_int rfl hZ h1.sl ((h1u (_ :: _ :: _ :: _ :: _ :: _ :: _ :: Ds)).cell hH6) (by simp only [List.length_nil]; omega) (by simp only [List.length_nil]; omega) ?_; rintro T tv w7 hT hH7; rw [List.nil_append] at hT; obtain ⟨At, ct, htv, _⟩ := hT.sl.form
    replace hC : Cl _ _ _ := Cl.many [T] hH7
    refine WL_mix (fun _ => hC) ?_
    refine WM_e rfl ?_
    refine WL_buildSlice (sz := 1) [tv] rfl hH7 rfl (fun W => by rw [htv]; exact run_bs_sl1 _ _ _ W) rfl (by omega) ?_; rintro Y2 yv2 w8 hY2 hH8
    replace hC : Cl _ _ _ := Cl.many [Y2, T] hH8
    refine WL_mix (fun _ => hC) ?_
    refine WM_e rfl ?_
    refine WL_append1 (i := 5) (j := 0) (n := (c.dq.take k).length) (m := 1) rfl hH8 rfl rfl st_sl_sl_int (by omega) rfl hR rfl hY2 (ones_cons hT.sl.one ones_nil) (by omega) (by omega) ?_; rintro O2 ov2 w9 hO2 hH9
    refine WL_mix (fun h => absurd rfl h) ?_
    refine WM_p rfl rfl (fun _ => ov_field rfl fo_impl_Crew_0) ?_
    refine WM_e rfl ?_
    refine WL_store hH9 rfl rfl (i := 2) (off := 0) rfl rfl (by exact Nat.zero_lt_succ _) hO2.sl.one sz_sl_sl_int ?_; rintro w10 hH10
    refine WL_mix (fun h => absurd rfl h) ?_
    refine WM_nil ?_
    refine WT_inBlock ?_
    refine WT_region ?_
    refine WL_v rfl (ov_move rfl) ?_
    refine WL_v rfl (ov_add rfl rfl (by omega)) ?_
    refine WL_v rfl (ov_assign rfl) ?_
    refine WL_nil ?_
    refine again (k + 1) _ _ (by omega) (by repeat (first | exact trivial | refine ⟨rfl, ?_⟩)) ⟨by omega, ov2, O2, Ds ++ [T], ?_, H.snocG (A := [_, _, _, _, _, _]) hH10.drop⟩
    have := OLists.snoc hil hR hat hO2 hT
    rw [List.take_succ_eq_append_getElem hkd]
    exact this
  first | with_reducible replace hc := of_decide_eq_false hc | with_reducible replace hc := bn_F hc | with_reducible replace hc := bb_F hc | skip
  obtain rfl : k = c.dq.length := by omega
  rw [List.take_length] at hD
  refine WT_exit rfl ?_
  refine WT_seq ?_
  refine WT_seq ?_
  refine WT_region ?_
  refine WL_v rfl (ov_assign rfl) ?_
  refine WL_nil ?_
  refine WT_block ?_
  refine WT_while (fun s : Nat => [(1, ptr b), (2, ptr g2), (3, ptr g), (5, .int .i64 (s : Int))]) (fun s w => s ≤ c.rw.length ∧ ∃ rv R Rs, OLists R Rs rv (c.rw.take s) ∧ H w h (crbox g dv xv yv rv :: X :: Y :: D :: R :: cz9 g2 :: crbox b (.slice A2 c.dq.length c2) (.slice A3 c.ct.length c3) (.slice A4 c.dn.length c4) (.slice A5 c.rw.length c5) :: (Ds ++ (Rs ++ Ls)))) (fun s => c.rw.length - s) 0 (by repeat (first | exact trivial | refine ⟨rfl, ?_⟩)) ⟨by omega, .slice none 0 0, [], [], OLists.nil _ _ (Row.nil _ _), hH.nilIn.perm (by
    refine .trans (.swap _ _ _) (.cons _ ?_)
    refine .trans (.swap _ _ _) (.cons _ ?_)
    exact .trans (.swap _ _ _) (.cons _ (.swap _ _ _)))⟩ ?_
  clear hH again
  rintro k w4 ⟨hk, rv, R, Rs, hR0, hH⟩ again
  refine WT_seq ?_
  refine WT_seq ?_
  refine WT_region ?_
  refine WL_v rfl (ov_move rfl) ?_
  refine WL_v rfl (ov_field rfl fo_impl_Crew_3) ?_
  refine WL_v rfl (ov_load rfl one_sl_sl_int (hH.cb 6 rfl 3)) ?_
  refine WL_v rfl (ov_len rfl hC.rw.sl st_sl_sl_int) ?_
  refine WL_v rfl (ov_lss rfl rfl) ?_
  refine WL_nil ?_
  refine WT_cond rfl (fun hc => ?_) (fun hc => ?_)
  · skip
    first | with_reducible replace hc := of_decide_eq_true hc | with_reducible replace hc := bn_T hc | with_reducible replace hc := bb_T hc | skip
    have hkd : k < c.rw.length := by omega
    obtain ⟨u, h1, h2⟩ := hC.rw.at_ hkd
    have h1s := hlw k hkd
    have htl : (c.rw.take k).length = k := by rw [List.length_take]; omega
    have h1u : ∀ A : List Heaplet, RdL h (A ++ Ls) u c.rw[k] := h1.ups
    have h2u : ∀ (A : List Heaplet) {w : World}, H w h (A ++ Ls) → w.cell? ((slA (.slice A5 c.rw.length c5)).add (k * 1)) = some u := fun A {w} hH => h2 (hH.drops A)
    have hre : ∀ (A : List Heaplet) {w : World}, H w h (A ++ (Ds ++ (Rs ++ Ls))) → H w h ((A ++ (Ds ++ Rs)) ++ Ls) := fun A {w} hH => by simpa using hH
    obtain ⟨hil, xs, hR, hat⟩ := hR0
    refine WT_skip ?_
    refine WT_seq ?_
    refine WT_block ?_
    refine WT_mixL [(0, 1), (1, 0), (3, 1), (4, 0), (5, 1), (6, 1), (7, 0), (2, 2), (8, 2), (9, 2), (10, 3), (11, 1), (12, 3)] mixed (by kernel_rfl) hH ?_
    clear hH
    intro w5 hH hC
    refine WM_p rfl rfl (fun _ => ov_field rfl fo_impl_Crew_3) ?_
    refine WM_v rfl rfl hC (fun _ ⟨_, hH⟩ => ov_load rfl one_sl_sl_int (hH.cb 1 rfl 3)) ?_
    refine WM_p rfl rfl (fun _ => ov_field rfl fo_impl_Crew_3) ?_
    refine WM_v rfl rfl hC (fun _ ⟨_, hH⟩ => ov_load rfl one_sl_sl_int (hH.cb 7 rfl 3)) ?_
    refine WM_p rfl rfl (fun _ => ov_move rfl) ?_
    refine WM_p rfl rfl (fun _ => ov_index rfl rfl st_sl_sl_int hrs hkd) ?_
    refine WM_v rfl rfl hC (fun _ ⟨_, hH⟩ => ov_load rfl one_sl_int (h2u _ (hre [_, _, _, _, _, _, _, _] hH))) ?_
    refine WM_e rfl ?_
    refine WL_bsI0 rfl hH run_bs_int0 ?_; rintro Z zv w6 hZ hH6
    replace hC : Cl _ _ _ := Cl.many [Z] hH6
    refine WL_mix (fun _ => hC) ?_
    refine WM_e rfl ?_
    refine WL_appR (i := 0) (xs := []) rfl hH6 rfl rfl st_sl_int rfl hZ h1.sl ((h1u _).cell (hre [_, _, _, _, _, _, _, _] hH6)) (by simp only [List.length_nil]; omega) (by simp only [List.length_nil]; omega) ?_; rintro T tv w7 hT hH7; rw [List.nil_append] at hT; obtain ⟨At, ct, htv, _⟩ := hT.sl.form
    replace hC : Cl _ _ _ := Cl.many [T] hH7
    refine WL_mix (fun _ => hC) ?_
    refine WM_e rfl ?_
    refine WL_buildSlice (sz := 1) [tv] rfl hH7 rfl (fun W => by rw [htv]; exact run_bs_sl1 _ _ _ W) rfl (by omega) ?_; rintro Y2 yv2 w8 hY2 hH8
    replace hC : Cl _ _ _ := Cl.many [Y2, T] hH8
    refine WL_mix (fun _ => hC) ?_
    refine WM_e rfl ?_
    refine WL_append1 (i := 6) (j := 0) (n := (c.rw.take k).length) (m := 1) rfl hH8 rfl rfl st_sl_sl_int (by omega) rfl hR rfl hY2 (ones_cons hT.sl.one ones_nil) (by omega) (by omega) ?_; rintro O2 ov2 w9 hO2 hH9
    refine WL_mix (fun h => absurd rfl h) ?_
    refine WM_p rfl rfl (fun _ => ov_field rfl fo_impl_Crew_3) ?_
    refine WM_e rfl ?_
    refine WL_store hH9 rfl rfl (i := 2) (off := 3) rfl rfl (by exact Nat.lt_succ_self _) hO2.sl.one sz_sl_sl_int ?_; rintro w10 hH10
    refine WL_mix (fun h => absurd rfl h) ?_
    refine WM_nil ?_
    refine WT_inBlock ?_
    refine WT_region ?_
    refine WL_v rfl (ov_move rfl) ?_
    refine WL_v rfl (ov_add rfl rfl (by omega)) ?_
    refine WL_v rfl (ov_assign rfl) ?_
    refine WL_nil ?_
    refine again (k + 1) _ _ (by omega) (by repeat (first | exact trivial | refine ⟨rfl, ?_⟩)) ⟨by omega, ov2, O2, Rs ++ [T], ?_, ?_⟩
    · have := OLists.snoc hil hR hat hO2 hT
      rw [List.take_succ_eq_append_getElem hkd]
      exact this
    · have h9 : H w10 h (T :: ((crbox g dv xv yv ov2 :: X :: Y :: D :: O2 :: cz9 g2 :: crbox b (.slice A2 c.dq.length c2) (.slice A3 c.ct.length c3) (.slice A4 c.dn.length c4) (.slice A5 c.rw.length c5) :: Ds) ++ (Rs ++ Ls))) := by simpa using hH10.drop
      have := H.snocG h9
      simpa using this
  first | with_reducible replace hc := of_decide_eq_false hc | with_reducible replace hc := bn_F hc | with_reducible replace hc := bb_F hc | skip
  obtain rfl : k = c.rw.length := by omega
  rw [List.take_length] at hR0
  refine WT_exit rfl ?_
  refine WT_seq ?_
  refine WT_region ?_
  refine WL_v rfl (ov_loadN [dv, xv, yv, rv] rfl agg_impl_Crew rfl ((loadCrew (i := 0) rfl hH))) ?_
  refine WL_storeN hH rfl rfl (i := 5) rfl rfl rfl (ones_cons hD.sl.one (ones_cons hX.sl.one (ones_cons hY.sl.one (ones_cons hR0.sl.one ones_nil)))) sz_impl_Crew ?_; rintro w5 hH5
  refine WL_nil ?_
  exact WT_retC Tryz.func42 Tryz.results42 rfl (lvCrew (i := 5) (dv := dv) (cv := xv) (nv := yv) (rv := rv) rfl hH5) ⟨X, Y, D, R, Ds, Rs, dv, xv, yv, rv, rfl, ⟨hX, hY, hD, hR0⟩, ((hH5.del 6 rfl).del 5 rfl).drop⟩
end
end Go.Proofs.YteagnhdhafiofaaGreat

/- Plain: new crews, and crews behind a turn. No program in sight. -/
namespace Go.Proofs.YteagnhdhafiofaaGreat

/-! dealing -/
def dealL (L : List Int) (w k : Nat) : List (List Int) := (List.range w).map fun i => ((List.range k).filter fun j => decide (j % w = i)).map fun j => L.getD j 0
theorem dealL_len (L : List Int) (w k : Nat) : (dealL L w k).length = w := by simp [dealL]
theorem dealL_get {L : List Int} {w k i : Nat} (h : i < (dealL L w k).length) : (dealL L w k)[i] = ((List.range k).filter fun j => decide (j % w = i)).map fun j => L.getD j 0 := by simp [dealL]
theorem dealL_zero (L : List Int) (w : Nat) : dealL L w 0 = List.replicate w [] := by
  refine List.ext_getElem (by simp [dealL]) fun i h1 h2 => ?_
  rw [dealL_get]; simp
theorem dealL_succ {L : List Int} {w k : Nat} (_hw : 0 < w) (hk : k < L.length) (hi : k % w < (dealL L w k).length) : dealL L w (k + 1) = (dealL L w k).set (k % w) ((dealL L w k)[k % w] ++ [L[k]]) := by
  refine List.ext_getElem (by simp [dealL]) fun i h1 h2 => ?_
  have hiw : i < (dealL L w k).length := by rw [dealL_len] at h1 ⊢; exact h1
  rw [dealL_get, List.getElem_set, List.range_succ, List.filter_append, List.map_append]
  split
  · rename_i h3
    subst h3
    rw [dealL_get]
    simp [List.getD_eq_getElem?_getD, List.getElem?_eq_getElem hk]
  · rename_i h3
    rw [dealL_get]
    simp [h3]
theorem set_flat : ∀ {ls : List (List Int)} {i : Nat} {x : Int} (hi : i < ls.length), (ls.set i (ls[i] ++ [x])).flatten.Perm (ls.flatten ++ [x])
  | l :: ls, 0, x, _ => by
    simp only [List.set_cons_zero, List.getElem_cons_zero, List.flatten_cons, List.append_assoc]
    exact List.Perm.append_left l List.perm_append_comm
  | l :: ls, i + 1, x, hi => by
    simp only [List.set_cons_succ, List.getElem_cons_succ, List.flatten_cons, List.append_assoc]
    exact List.Perm.append_left l (set_flat (by simpa using hi))
theorem deal_flat {L : List Int} {w : Nat} (hw : 0 < w) : ∀ {k : Nat}, k ≤ L.length → (dealL L w k).flatten.Perm (L.take k)
  | 0, _ => by rw [dealL_zero]; simp
  | k + 1, h => by
    have hi : k % w < (dealL L w k).length := by rw [dealL_len]; exact Nat.mod_lt _ hw
    rw [dealL_succ hw (by omega) hi, List.take_succ_eq_append_getElem (by omega)]
    exact (set_flat hi).trans ((deal_flat hw (by omega)).append_right _)
/-- New workers. -/
def newCr (p : List Nd) (w : Nat) : Cr := ⟨dealL (readyI p []) w (readyI p []).length, cntL p [], [], List.replicate p.length []⟩
theorem newCr_ok {p : List Nd} (hv : planOk p = true) {w : Nat} (hw : 1 ≤ w ∧ w ≤ 4) : CrewOk p (newCr p w) := by
  refine ⟨hv, by simp only [newCr, dealL_len]; exact hw, rfl, rfl, by simp [newCr], ?_, fun i hi => ?_⟩
  · have := deal_flat (L := readyI p []) (w := w) (by omega) (Nat.le_refl _)
    rw [List.take_length] at this
    exact (isort_eq (readyI_le p [])).2 this
  · simp only [rowWant, newCr, List.not_mem_nil, if_false]
    rw [List.getD_eq_getElem?_getD, List.getElem?_replicate]
    split <;> rfl

/-! turns -/
/-- A crew that fits into memory with ease. -/
structure SmCr (p : List Nd) (c : Cr) : Prop where
  dq : c.dq.length ≤ 4
  dd : c.dq.flatten.length ≤ 40
  ct : c.ct.length ≤ 10
  cv : ∀ x ∈ c.ct, -3 ≤ x ∧ x ≤ 3
  dn : c.dn.length ≤ 11
  rw : c.rw.length ≤ 10
  rr : ∀ i (hi : i < c.rw.length), c.rw[i].length ≤ 6
  rl : c.dq = [] ∨ c.rw.length = p.length
theorem rowOk_six' {r : List Int} (h : rowOk r = true) : r.length ≤ 6 := ((rowOk_iff r).1 h).2
theorem cntL_mem {p : List Nd} (hv : planOk p = true) {D : List Int} : ∀ x ∈ cntL p D, 0 ≤ x ∧ x ≤ 2 := fun x hx => by
  obtain ⟨u, hu, rfl⟩ := List.mem_map.1 hx
  have hu' := List.mem_range.1 hu
  have h1 := cntB_le p D u
  have h2 := needTo_len (p.getD u default).frm
  have h3 := NodeOk.len2 (PlanOk.node hv hu')
  rw [getD_of hu'] at h1 h2
  omega
theorem CrewOk.small {p : List Nd} {c : Cr} (h : CrewOk p c) : SmCr p c := by
  have hlen := PlanOk.len h.plan
  have h1 := readyI_len_le p c.dn
  have h2 := h.size
  have h3 := nodup_lenI (order_nodup h.ord) (fun a ha => order_mem h.ord ha)
  have h4 := cntL_len p c.dn
  refine ⟨h.dq.2, by omega, by rw [← h.ct]; omega, fun x hx => ?_, by omega, by rw [h.rl]; exact hlen, fun i hi => ?_, .inr h.rl⟩
  · rw [← h.ct] at hx
    have := cntL_mem h.plan x hx
    omega
  · have h5 := h.rows i (by rw [← h.rl]; exact hi)
    have h6 : c.rw.getD i [] = c.rw[i] := getLDV hi
    rw [← h6, ← h5, rowWant]
    split
    · exact rowOk_six' (vals_ok h.plan)
    · simp
/-- A worker does a node that was taken. -/
def doCr (p : List Nd) (c : Cr) (wk a : Nat) : Cr :=
  ⟨c.dq.set wk (c.dq.getD wk [] ++ (doneR p c.ct (a : Int)).map fun (j : Nat) => (j : Int)), doneC p c.ct (a : Int), c.dn ++ [(a : Int)], c.rw.set a (stepL (p.getD a default) c.rw)⟩
theorem flat_set_len : ∀ (ls : List (List Int)) (i : Nat) (l : List Int), (ls.set i l).flatten.length ≤ ls.flatten.length + l.length
  | [], _, _ => by simp
  | x :: ls, 0, l => by simp only [List.set_cons_zero, List.flatten_cons, List.length_append]; omega
  | x :: ls, i + 1, l => by
    have := flat_set_len ls i l
    simp only [List.set_cons_succ, List.flatten_cons, List.length_append]; omega
theorem len_flat {ls : List (List Int)} {i : Nat} (hi : i < ls.length) : ls[i].length ≤ ls.flatten.length := by
  obtain ⟨A, B, hAB⟩ := List.append_of_mem (List.getElem_mem hi)
  generalize ls[i] = l at hAB
  rw [hAB]
  simp
  omega
theorem getLen {ls : List (List Int)} (i : Nat) : (ls.getD i []).length ≤ ls.flatten.length := by
  rcases Nat.lt_or_ge i ls.length with h | h
  · rw [getLDV h]; exact len_flat h
  · rw [List.getD_eq_getElem?_getD, List.getElem?_eq_none h]; simp
theorem doneR_len (p : List Nd) (c : List Int) (a : Int) : (doneR p c a).length ≤ p.length := by
  have := List.length_filter_le (fun i => decide (a ∈ (p.getD i default).frm) && decide (c.getD i 0 = 1)) (List.range p.length)
  rw [List.length_range] at this
  exact this
/-- What a turn makes of a valid crew is small. -/
theorem do_small {p : List Nd} {c : Cr} (h : CrewOk p c) {m wk a : Nat} {rest : List Int} (hr : rest.length ≤ 10) (ha : a < p.length) : SmCr p (doCr p ⟨c.dq.set m rest, c.ct, c.dn, c.rw⟩ wk a) := by
  have hlen := PlanOk.len h.plan
  have hs := h.small
  have h1 := readyI_len_le p c.dn
  have h2 := h.size
  have h3 := nodup_lenI (order_nodup h.ord) (fun a ha => order_mem h.ord ha)
  have h4 := doneR_len p c.ct (a : Int)
  have h5 := hs.dq
  have h6 := hs.rw
  refine ⟨by simpa [doCr] using h5, ?_, by simp [doCr, doneC_len]; exact hlen, fun x hx => ?_, by simp [doCr]; omega, by simpa [doCr] using h6, fun i hi => ?_, .inr (by simp [doCr]; exact h.rl)⟩
  · simp only [doCr]
    have h0 := flat_set_len c.dq m rest
    have h7 := flat_set_len (c.dq.set m rest) wk ((c.dq.set m rest).getD wk [] ++ (doneR p c.ct (a : Int)).map fun (j : Nat) => (j : Int))
    have h8 : ((c.dq.set m rest).getD wk []).length ≤ 10 := by
      rw [List.getD_eq_getElem?_getD, List.getElem?_set]
      split
      · split
        · exact hr
        · simp
      · have := getLen (ls := c.dq) wk
        rw [List.getD_eq_getElem?_getD] at this
        omega
    rw [List.length_append, List.length_map] at h7
    omega
  · simp only [doCr, doneC] at hx
    obtain ⟨u, hu, rfl⟩ := List.mem_map.1 hx
    have hu' := List.mem_range.1 hu
    have h9 : c.ct.getD u 0 ∈ cntL p c.dn := by
      rw [← h.ct, List.getD_eq_getElem?_getD, List.getElem?_eq_getElem (by rw [cntL_len]; exact hu')]
      exact List.getElem_mem _
    have := cntL_mem h.plan _ h9
    split <;> omega
  · simp only [doCr] at hi ⊢
    rw [List.getElem_set]
    split
    · exact rowOk_six' (stepL_ok (by rw [getD_of ha]; exact (PlanOk.node h.plan ha).row) _)
    · exact hs.rr i (by simpa using hi)
end Go.Proofs.YteagnhdhafiofaaGreat

/- Walks: new crews: the reference; deques. -/
namespace Go.Proofs.YteagnhdhafiofaaGreat
open Go.RowKit

section
variable {h : GH} {Ls : List Heaplet} {w : World}

theorem zerosL_succ (c : List Int) (k : Nat) : zerosL c (k + 1) = zerosL c k ++ (if c.getD k 0 = 0 then [k] else []) := by
  rw [zerosL, zerosL, List.range_succ, List.filter_append]
  congr 1
  by_cases h : c.getD k 0 = 0
  · rw [if_pos h, List.filter_cons, if_pos (decide_eq_true h)]; rfl
  · rw [if_neg h, List.filter_cons, if_neg (by simpa using h)]; rfl
theorem zerosL_len (c : List Int) (k : Nat) : (zerosL c k).length ≤ k := by
  have := List.length_filter_le (fun i => decide (c.getD i 0 = 0)) (List.range k)
  rw [List.length_range] at this
  exact this
theorem sCountsReady_ok (hH : H w h Ls) {cv : Value} {c : List Int} (hC : RdL h Ls cv c) (hcl : c.length ≤ 1000000000) : Rets Tryz.prog 114 #[cv] w fun v w' => ∃ X, IRow X 3 v (toI (zerosL c c.length)) ∧ H w' h (X :: Ls) := by
  refine rets_enter Tryz.func114 rfl Tryz.ntmps114 (by simp) ?_
  refine WT_seq ?_
  refine WT_region ?_
  refine WL_v rfl (ov_assign rfl) ?_
  refine WL_nil ?_
  refine WT_seq ?_
  refine WT_region ?_
  refine WL_bsI0 rfl hH run_bs_int0 ?_; rintro X0 xv0 w1 hX0 hH1
  refine WL_v rfl (ov_assign rfl) ?_
  refine WL_nil ?_
  refine WT_seq ?_
  refine WT_seq ?_
  refine WT_region ?_
  refine WL_v rfl (ov_assign rfl) ?_
  refine WL_nil ?_
  refine WT_block ?_
  refine WT_while (fun s : Nat × Value => [(0, cv), (3, s.2), (4, .int .i64 (s.1 : Int))]) (fun s w => s.1 ≤ c.length ∧ ∃ X, IRow X 3 s.2 (toI (zerosL c s.1)) ∧ H w h (X :: Ls)) (fun s => c.length - s.1) (0, xv0) (by repeat (first | exact trivial | refine ⟨rfl, ?_⟩)) ⟨by simp, X0, hX0, hH1⟩ ?_
  clear hH hH1 hX0 X0 xv0
  rintro ⟨k, xv⟩ w2 ⟨hk, X, hX, hH⟩ again
  simp only at hk hX
  refine WT_seq ?_
  refine WT_seq ?_
  refine WT_region ?_
  refine WL_v rfl (ov_move rfl) ?_
  refine WL_v rfl (ov_move rfl) ?_
  refine WL_v rfl (ov_len rfl hC.sl st_sl_int) ?_
  refine WL_v rfl (ov_lss rfl rfl) ?_
  refine WL_nil ?_
  refine WT_cond rfl (fun hc => ?_) (fun hc => ?_)
  · skip
    first | with_reducible replace hc := of_decide_eq_true hc | with_reducible replace hc := bn_T hc | with_reducible replace hc := bb_T hc | skip
    have hkc : k < c.length := by simp only at hc; omega
    have hzl := zerosL_len c k
    have htl := toI_len (zerosL c k)
    refine WT_skip ?_
    refine WT_seq ?_
    refine WT_block ?_
    refine WT_seq ?_
    refine WT_region ?_
    refine WL_v rfl (ov_move rfl) ?_
    refine WL_v rfl (ov_move rfl) ?_
    refine WL_v rfl (ov_index rfl rfl st_sl_int hC.sl hkc) ?_
    refine WL_v rfl (ov_load rfl one_int (hC.cell hH.drop hkc)) ?_
    refine WL_v rfl (ov_eql rfl rfl) ?_
    refine WL_nil ?_
    refine WT_cond rfl (fun hz => ?_) (fun hz => ?_)
    · skip
      first | with_reducible replace hz := of_decide_eq_true hz | with_reducible replace hz := bn_T hz | with_reducible replace hz := bb_T hz | skip
      refine WT_region ?_
      refine WL_v rfl (ov_move rfl) ?_
      refine WL_v rfl (ov_move rfl) ?_
      refine WL_bsI rfl hH rfl (run_bs_int _) ?_; rintro Y yv w3 hY hH3
      refine WL_appI (i := 1) (j := 0) rfl hH3 rfl rfl st_sl_int rfl hX rfl hY (by rw [htl]; simp; omega) (by rw [htl]; simp; omega) ?_; rintro X2 xv2 w4 hX2 hH4
      refine WL_v rfl (ov_assign rfl) ?_
      refine WL_nil ?_
      refine WT_inBlock ?_
      refine WT_region ?_
      refine WL_v rfl (ov_move rfl) ?_
      refine WL_v rfl (ov_add rfl rfl (by omega)) ?_
      refine WL_v rfl (ov_assign rfl) ?_
      refine WL_nil ?_
      refine again (k + 1, xv2) _ _ (by simp only; omega) (by repeat (first | exact trivial | refine ⟨rfl, ?_⟩)) ⟨by simp only; omega, X2, ?_, hH4.drop⟩
      simp only
      rw [zerosL_succ, if_pos (by rw [getDI hkc]; exact hz)]
      simpa [toI] using hX2
    first | with_reducible replace hz := of_decide_eq_false hz | with_reducible replace hz := bn_F hz | with_reducible replace hz := bb_F hz | skip
    refine WT_skip ?_
    refine WT_inBlock ?_
    refine WT_region ?_
    refine WL_v rfl (ov_move rfl) ?_
    refine WL_v rfl (ov_add rfl rfl (by omega)) ?_
    refine WL_v rfl (ov_assign rfl) ?_
    refine WL_nil ?_
    refine again (k + 1, xv) _ _ (by simp only; omega) (by repeat (first | exact trivial | refine ⟨rfl, ?_⟩)) ⟨by simp only; omega, X, ?_, hH⟩
    simp only
    rw [zerosL_succ, if_neg (by rw [getDI hkc]; exact hz), List.append_nil]
    exact hX
  first | with_reducible replace hc := of_decide_eq_false hc | with_reducible replace hc := bn_F hc | with_reducible replace hc := bb_F hc | skip
  obtain rfl : k = c.length := by simp only at hc; omega
  refine WT_exit rfl ?_
  refine WT_seq ?_
  refine WT_region ?_
  refine WL_v rfl (ov_move rfl) ?_
  refine WL_v rfl (ov_assign rfl) ?_
  refine WL_nil ?_
  exact WT_ret1 Tryz.func114 Tryz.results114 rfl ⟨X, hX, hH⟩

theorem zeros_first {p : List Nd} (hv : planOk p = true) : toI (zerosL (cntL p []) (cntL p []).length) = readyI p [] := by
  rw [cntL_len]
  unfold readyI toI zerosL readyL
  congr 1
  refine List.filter_congr fun u hu => ?_
  have hu' := List.mem_range.1 hu
  rw [cntL_getD hu', Bool.eq_iff_iff]
  have h1 := cntB_zero hv (D := []) hu'
  simp only [readyB, List.not_mem_nil, not_false_eq_true, decide_true, Bool.true_and, decide_eq_true_eq, List.all_eq_true, decide_false, decide_eq_true_eq] at *
  constructor
  · intro hz x hx
    exact absurd (h1.1 (by omega) x hx) (by simp)
  · intro hz
    have : cntB p [] u = 0 := h1.2 fun f hf => by have := hz f hf; simp at this
    omega

theorem Cl.sub (A S B : List Heaplet) (hH : H w h (A ++ (S ++ B))) : Cl h S w := Cl.many (A ++ B) (by
  rw [List.append_assoc]
  exact hH.perm (List.Perm.append_left A List.perm_append_comm))
theorem at_mid {A Ds M : List Heaplet} {m : Nat} {F : Heaplet} (hm : Ds[m]? = some F) : (A ++ (Ds ++ M))[A.length + m]? = some F := by
  rw [List.getElem?_append_right (by omega), Nat.add_sub_cancel_left, List.getElem?_append_left (List.getElem?_eq_some_iff.1 hm).1]
  exact hm
theorem H.setMid {A Ds M : List Heaplet} {m : Nat} {F : Heaplet} (hH : H w h ((A ++ (Ds ++ M)).set (A.length + m) F)) (hm : m < Ds.length) : H w h (A ++ (Ds.set m F ++ M)) := by
  rw [List.set_append_right _ _ (by omega), Nat.add_sub_cancel_left, List.set_append_left _ _ hm] at hH
  exact hH
theorem H.newOrd {R D Y X : Heaplet} {Ms : List Heaplet} (hH : H w h (R :: D :: Y :: X :: Ms)) : H w h (X :: Y :: D :: R :: Ms) := hH.perm (by
  have : ([R, D, Y, X] ++ Ms).Perm ([X, Y, D, R] ++ Ms) := List.Perm.append_right Ms (List.reverse_perm [X, Y, D, R])
  exact this)
/-- A crew made, or none. -/
def OwnCr (h : GH) (Ls : List Heaplet) (c : Cr) (dv cv nv rv : Value) (w' : World) : Prop := ∃ C N D R Ds Rs, OCr C N D R Ds Rs dv cv nv rv c ∧ H w' h (C :: N :: D :: R :: (Ds ++ (Rs ++ Ls)))
abbrev nilV : Value := .slice none 0 0
theorem repl_snoc (k : Nat) : List.replicate (k + 1) ([] : List Int) = List.replicate k [] ++ [[]] := List.replicate_succ'

set_option maxHeartbeats 2000000 in
theorem sCrewNew_yes (hH : H w h Ls) {pv : Value} {p : List Nd} (hP : Plan h pv p) (hv : planOk p = true) {n : Nat} (hn : 1 ≤ n ∧ n ≤ 4) : Rets Tryz.prog 95 #[pv, .int .i64 (n : Int)] w fun v w' => ∃ dv cv nv rv, v = .tuple #[crV dv cv nv rv, .bool true] ∧ OwnCr h Ls (newCr p n) dv cv nv rv w' := by
  have hlen := PlanOk.len hv
  have hrl := readyI_len_le p []
  have hsv := fun {w : World} {Ls : List Heaplet} (hH : H w h Ls) => sPlanValid_ok hH hP (by omega)
  rw [hv] at hsv
  have hli := fun {w : World} {Ls : List Heaplet} (hH : H w h Ls) => l6In_ok hH (n : Int) 1 4
  rw [decide_eq_true (show 1 ≤ (n : Int) ∧ (n : Int) ≤ 4 by omega)] at hli
  refine rets_enter Tryz.func95 rfl Tryz.ntmps95 (by simp) ?_
  refine WT_seq ?_
  refine WT_region ?_
  refine WL_alloc _ rfl hH zero_crew rfl ?_; rintro g4 w1 hH1
  refine WL_v rfl (ov_assign rfl) ?_
  refine WL_nil ?_
  refine WT_seq ?_
  refine WT_seq ?_
  refine WT_region ?_
  refine WL_v rfl (ov_move rfl) ?_
  refine WL_call rfl rfl cf_spec_PlanValid (hsv hH1) ?_; rintro _ w2 ⟨rfl, hH2⟩
  refine WL_v rfl (ov_not rfl) ?_
  refine WL_v rfl (ov_move rfl) ?_
  refine WL_guardOn rfl rfl ?_
  refine WL_v rfl (ov_move rfl) ?_
  refine WL_guardOn rfl rfl ?_
  refine WL_call rfl rfl cf_spec_l6In (hli hH2) ?_; rintro _ w3 ⟨rfl, hH3⟩
  refine WL_guardOn rfl rfl ?_
  refine WL_v rfl (ov_not rfl) ?_
  refine WL_v rfl (ov_pickF rfl rfl) ?_
  refine WL_nil ?_
  refine WT_condF rfl ?_
  refine WT_skip ?_
  refine WT_seq ?_
  refine WT_region ?_
  refine WL_v rfl (ov_move rfl) ?_
  refine WL_call rfl rfl cf_spec_l11Counts (l11Counts_ok hH3 hP hv) ?_; rintro xv w4 ⟨X, hX, hH4⟩
  refine WL_bsI0 rfl hH4 run_bs_int0 ?_; rintro Y yv w5 hY hH5
  refine WL_v rfl (ov_build rfl (run_build_cd hX.sl hY.sl)) ?_
  refine WL_alloc _ rfl hH5 zero_crew rfl ?_; rintro g w6 hH6
  refine WL_storeN hH6 rfl rfl (i := 0) rfl rfl rfl (ones_cons rfl (ones_cons hX.sl.one (ones_cons hY.sl.one (ones_cons rfl ones_nil)))) sz_impl_Crew ?_; rintro w7 hH7
  refine WL_nil ?_
  refine WT_seq ?_
  refine WT_seq ?_
  refine WT_region ?_
  refine WL_v rfl (ov_assign rfl) ?_
  refine WL_nil ?_
  refine WT_block ?_
  refine WT_while (fun s : Nat => [(0, pv), (1, .int .i64 (n : Int)), (4, ptr g4), (6, ptr g), (7, .int .i64 (s : Int))]) (fun s w => s ≤ n ∧ ∃ dv D Ds, OLists D Ds dv (List.replicate s []) ∧ H w h (crbox g dv xv yv nilV :: D :: Y :: X :: cz9 g4 :: (Ds ++ Ls))) (fun s => n - s) 0 (by repeat (first | exact trivial | refine ⟨rfl, ?_⟩)) ⟨by omega, nilV, [], [], OLists.nil _ _ (Row.nil _ _), hH7.nilIn.swap⟩ ?_
  clear hH hH1 hH2 hH3 hH4 hH5 hH6 hH7
  rintro k w4 ⟨hk, dv, D, Ds, hD, hH⟩ again
  refine WT_seq ?_
  refine WT_seq ?_
  refine WT_region ?_
  refine WL_v rfl (ov_move rfl) ?_
  refine WL_v rfl (ov_move rfl) ?_
  refine WL_v rfl (ov_lss rfl rfl) ?_
  refine WL_nil ?_
  refine WT_cond rfl (fun hc => ?_) (fun hc => ?_)
  · skip
    first | with_reducible replace hc := of_decide_eq_true hc | with_reducible replace hc := bn_T hc | with_reducible replace hc := bb_T hc | skip
    have hkn : k < n := by omega
    obtain ⟨hil, xs, hR, hat⟩ := hD
    rw [List.length_replicate] at hil hR
    refine WT_skip ?_
    refine WT_seq ?_
    refine WT_block ?_
    refine WT_region ?_
    refine WL_v rfl (ov_field rfl fo_impl_Crew_0) ?_
    refine WL_v rfl (ov_load rfl one_sl_sl_int (hH.cb 0 rfl 0)) ?_
    refine WL_bsI0 rfl hH run_bs_int0 ?_; rintro T tv w5 hT hH5; obtain ⟨At, ct, htv, _⟩ := hT.sl.form
    refine WL_buildSlice (sz := 1) [tv] rfl hH5 rfl (fun W => by rw [htv]; exact run_bs_sl1 _ _ _ W) rfl (by omega) ?_; rintro Z zv w6 hZ hH6
    refine WL_append1 (i := 3) (j := 0) (n := k) (m := 1) rfl hH6 rfl rfl st_sl_sl_int (by omega) rfl hR rfl hZ (ones_cons hT.sl.one ones_nil) (by omega) (by omega) ?_; rintro D2 dv2 w7 hD2 hH7
    refine WL_v rfl (ov_field rfl fo_impl_Crew_0) ?_
    refine WL_store hH7 rfl rfl (i := 2) (off := 0) rfl rfl (by exact Nat.zero_lt_succ _) hD2.sl.one sz_sl_sl_int ?_; rintro w8 hH8
    refine WL_nil ?_
    refine WT_inBlock ?_
    refine WT_region ?_
    refine WL_v rfl (ov_move rfl) ?_
    refine WL_v rfl (ov_add rfl rfl (by omega)) ?_
    refine WL_v rfl (ov_assign rfl) ?_
    refine WL_nil ?_
    refine again (k + 1) _ _ (by omega) (by repeat (first | exact trivial | refine ⟨rfl, ?_⟩)) ⟨by omega, dv2, D2, Ds ++ [T], ?_, H.snocG (A := [_, _, _, _, _]) hH8.drop⟩
    have := OLists.snoc (by rw [List.length_replicate]; exact hil) (by rw [List.length_replicate]; exact hR) hat (by rw [List.length_replicate]; exact hD2) hT
    rw [repl_snoc]
    exact this
  first | with_reducible replace hc := of_decide_eq_false hc | with_reducible replace hc := bn_F hc | with_reducible replace hc := bb_F hc | skip
  obtain rfl : k = n := by omega
  refine WT_exit rfl ?_
  refine WT_seq ?_
  refine WT_seq ?_
  refine WT_region ?_
  refine WL_v rfl (ov_assign rfl) ?_
  refine WL_nil ?_
  refine WT_block ?_
  refine WT_while (fun s : Nat => [(0, pv), (1, .int .i64 (k : Int)), (4, ptr g4), (6, ptr g), (8, .int .i64 (s : Int))]) (fun s w => s ≤ p.length ∧ ∃ rv R Rs, OLists R Rs rv (List.replicate s []) ∧ H w h (crbox g dv xv yv rv :: R :: D :: Y :: X :: cz9 g4 :: (Ds ++ (Rs ++ Ls)))) (fun s => p.length - s) 0 (by repeat (first | exact trivial | refine ⟨rfl, ?_⟩)) ⟨by omega, nilV, [], [], OLists.nil _ _ (Row.nil _ _), hH.nilIn.swap⟩ ?_
  clear hH again
  rintro m w4 ⟨hm, rv, R, Rs, hR, hH⟩ again
  refine WT_seq ?_
  refine WT_seq ?_
  refine WT_region ?_
  refine WL_v rfl (ov_move rfl) ?_
  refine WL_v rfl (ov_move rfl) ?_
  refine WL_v rfl (ov_len rfl hP.sl st_sl_impl_Node) ?_
  refine WL_v rfl (ov_lss rfl rfl) ?_
  refine WL_nil ?_
  refine WT_cond rfl (fun hc2 => ?_) (fun hc2 => ?_)
  · skip
    first | with_reducible replace hc2 := of_decide_eq_true hc2 | with_reducible replace hc2 := bn_T hc2 | with_reducible replace hc2 := bb_T hc2 | skip
    have hmn : m < p.length := by omega
    obtain ⟨hil, xs, hR, hat⟩ := hR
    rw [List.length_replicate] at hil hR
    refine WT_skip ?_
    refine WT_seq ?_
    refine WT_block ?_
    refine WT_region ?_
    refine WL_v rfl (ov_field rfl fo_impl_Crew_3) ?_
    refine WL_v rfl (ov_load rfl one_sl_sl_int (hH.cb 0 rfl 3)) ?_
    refine WL_bsI0 rfl hH run_bs_int0 ?_; rintro T tv w5 hT hH5; obtain ⟨At, ct, htv, _⟩ := hT.sl.form
    refine WL_buildSlice (sz := 1) [tv] rfl hH5 rfl (fun W => by rw [htv]; exact run_bs_sl1 _ _ _ W) rfl (by omega) ?_; rintro Z zv w6 hZ hH6
    refine WL_append1 (i := 3) (j := 0) (n := m) (m := 1) rfl hH6 rfl rfl st_sl_sl_int (by omega) rfl hR rfl hZ (ones_cons hT.sl.one ones_nil) (by omega) (by omega) ?_; rintro R2 rv2 w7 hR2 hH7
    refine WL_v rfl (ov_field rfl fo_impl_Crew_3) ?_
    refine WL_store hH7 rfl rfl (i := 2) (off := 3) rfl rfl (by exact Nat.lt_succ_self _) hR2.sl.one sz_sl_sl_int ?_; rintro w8 hH8
    refine WL_nil ?_
    refine WT_inBlock ?_
    refine WT_region ?_
    refine WL_v rfl (ov_move rfl) ?_
    refine WL_v rfl (ov_add rfl rfl (by omega)) ?_
    refine WL_v rfl (ov_assign rfl) ?_
    refine WL_nil ?_
    refine again (m + 1) _ _ (by omega) (by repeat (first | exact trivial | refine ⟨rfl, ?_⟩)) ⟨by omega, rv2, R2, Rs ++ [T], ?_, ?_⟩
    · have := OLists.snoc (by rw [List.length_replicate]; exact hil) (by rw [List.length_replicate]; exact hR) hat (by rw [List.length_replicate]; exact hR2) hT
      rw [repl_snoc]
      exact this
    · have h9 : H w8 h (T :: ((crbox g dv xv yv rv2 :: R2 :: D :: Y :: X :: cz9 g4 :: Ds) ++ (Rs ++ Ls))) := by simpa using hH8.drop
      have := H.snocG h9
      simpa using this
  first | with_reducible replace hc2 := of_decide_eq_false hc2 | with_reducible replace hc2 := bn_F hc2 | with_reducible replace hc2 := bb_F hc2 | skip
  obtain rfl : m = p.length := by omega
  rw [countsL_cnt] at hX
  refine WT_exit rfl ?_
  refine WT_seq ?_
  refine WT_region ?_
  refine WL_v rfl (ov_field rfl fo_impl_Crew_1) ?_
  refine WL_v rfl (ov_load rfl one_sl_int (hH.cb 0 rfl 1)) ?_
  refine WL_call rfl rfl cf_spec_CountsReady (sCountsReady_ok hH (hX.rdl (i := 4) rfl) (by rw [cntL_len]; omega)) ?_; rintro qv w5 ⟨Q, hQ, hH5⟩
  refine WL_v rfl (ov_assign rfl) ?_
  refine WL_nil ?_
  refine WT_seq ?_
  refine WT_seq ?_
  refine WT_region ?_
  refine WL_v rfl (ov_assign rfl) ?_
  refine WL_nil ?_
  refine WT_block ?_
  rw [zeros_first hv] at hQ
  refine WT_while (fun s : Nat => [(1, .int .i64 (k : Int)), (4, ptr g4), (6, ptr g), (9, qv), (10, .int .i64 (s : Int))]) (fun s w => s ≤ (readyI p []).length ∧ ∃ D Ds, OLists D Ds dv (dealL (readyI p []) k s) ∧ H w h (Q :: crbox g dv xv yv rv :: R :: D :: Y :: X :: cz9 g4 :: (Ds ++ (Rs ++ Ls)))) (fun s => (readyI p []).length - s) 0 (by repeat (first | exact trivial | refine ⟨rfl, ?_⟩)) ⟨by omega, D, Ds, by rw [dealL_zero]; exact hD, hH5⟩ ?_
  clear hH hH5 again hD D Ds
  rintro s w6 ⟨hs, D, Ds, hD, hH⟩ again
  refine WT_seq ?_
  refine WT_seq ?_
  refine WT_region ?_
  refine WL_v rfl (ov_move rfl) ?_
  refine WL_v rfl (ov_move rfl) ?_
  refine WL_v rfl (ov_len rfl hQ.sl st_sl_int) ?_
  refine WL_v rfl (ov_lss rfl rfl) ?_
  refine WL_nil ?_
  refine WT_cond rfl (fun hc3 => ?_) (fun hc3 => ?_)
  · skip
    first | with_reducible replace hc3 := of_decide_eq_true hc3 | with_reducible replace hc3 := bn_T hc3 | with_reducible replace hc3 := bb_T hc3 | skip
    have hsr : s < (readyI p []).length := by omega
    have hdl := dealL_len (readyI p []) k s
    have hmk : s % k < k := Nat.mod_lt _ (by omega)
    have hmd : s % k < (dealL (readyI p []) k s).length := by omega
    have hmod : ((s : Nat) : Int) % ((k : Nat) : Int) = ((s % k : Nat) : Int) := (Int.natCast_emod s k).symm
    have hfl := deal_flat (L := readyI p []) (w := k) (by omega) hs
    have hfl2 : (dealL (readyI p []) k s)[s % k].length ≤ 10 := by
      have h1 := len_flat hmd
      have h2 := hfl.length_eq
      rw [List.length_take] at h2
      omega
    obtain ⟨hil, xs, hR0, hat⟩ := hD
    have hxl := hR0.len
    obtain ⟨u, F, e1, e2, e3⟩ := hat _ hmd
    have hul := e3.sl.one
    have hcu : ∀ {w' : World} {L : Heaplet}, H w' h (L :: [Q, crbox g dv xv yv rv, R, D]) → w'.cell? ((slA dv).add (s % k * 1)) = some u := fun hH => by
      rw [Nat.mul_one]; exact hR0.cell hH (i := 4) rfl e1
    refine WT_skip ?_
    refine WT_seq ?_
    refine WT_block ?_
    refine WT_mixS [(0, 1), (1, 0), (2, 1), (3, 1), (4, 1), (5, 1), (6, 0), (7, 1), (8, 1), (9, 1), (10, 1), (11, 0), (12, 1), (13, 1), (14, 1), (15, 0), (16, 2), (17, 2), (18, 1), (19, 3)] [Q, crbox g dv xv yv rv, R, D] (fun w' hh => Cl.sub [] [Q, crbox g dv xv yv rv, R, D] _ hh) mixed (by kernel_rfl) hH ?_
    clear hH
    intro w7 hH hC
    refine WM_p rfl rfl (fun _ => ov_field rfl fo_impl_Crew_0) ?_
    refine WM_v rfl rfl hC (fun _ ⟨_, hH⟩ => ov_load rfl one_sl_sl_int (hH.cb 2 rfl 0)) ?_
    refine WM_p rfl rfl (fun _ => ov_move rfl) ?_
    refine WM_p rfl rfl (fun _ => ov_move rfl) ?_
    refine WM_p rfl rfl (fun _ => ov_as (ov_rem rfl rfl (by omega) (by omega)) (congrArg (Value.int .i64) hmod)) ?_
    refine WM_p rfl rfl (fun _ => ov_field rfl fo_impl_Crew_0) ?_
    refine WM_v rfl rfl hC (fun _ ⟨_, hH⟩ => ov_load rfl one_sl_sl_int (hH.cb 2 rfl 0)) ?_
    refine WM_p rfl rfl (fun _ => ov_move rfl) ?_
    refine WM_p rfl rfl (fun _ => ov_move rfl) ?_
    refine WM_p rfl rfl (fun _ => ov_as (ov_rem rfl rfl (by omega) (by omega)) (congrArg (Value.int .i64) hmod)) ?_
    refine WM_p rfl rfl (fun _ => ov_index rfl rfl st_sl_sl_int hR0.sl hmd) ?_
    refine WM_v rfl rfl hC (fun _ ⟨_, hH⟩ => ov_load rfl one_sl_int (hcu hH)) ?_
    refine WM_p rfl rfl (fun _ => ov_move rfl) ?_
    refine WM_p rfl rfl (fun _ => ov_move rfl) ?_
    refine WM_p rfl rfl (fun _ => ov_index rfl rfl st_sl_int hQ.sl hsr) ?_
    refine WM_v rfl rfl hC (fun _ ⟨_, hH⟩ => ov_load rfl one_int (hQ.cell hH (i := 1) rfl hsr)) ?_
    refine WM_e rfl ?_
    refine WL_bsI rfl hH rfl (run_bs_int _) ?_; rintro Z zv w8 hZ hH8
    replace hC : Cl _ _ _ := Cl.sub [Z] [Q, crbox g dv xv yv rv, R, D] _ hH8
    refine WL_mix (fun _ => hC) ?_
    refine WM_e rfl ?_
    refine WL_appI (i := 8 + s % k) (j := 0) rfl hH8 rfl rfl st_sl_int (at_mid (A := [Z, Q, crbox g dv xv yv rv, R, D, Y, X, cz9 g4]) e2) e3 rfl hZ (by simp; omega) (by simp; omega) ?_; rintro F2 u2 w9 hF2 hH9; replace hH9 := hH9.setMid (A := [Z, Q, crbox g dv xv yv rv, R, D, Y, X, cz9 g4]) (by omega)
    replace hC : Cl _ _ _ := Cl.sub [Z] [Q, crbox g dv xv yv rv, R, D] _ hH9
    refine WL_mix (fun _ => hC) ?_
    refine WM_p rfl rfl (fun _ => ov_index rfl rfl st_sl_sl_int hR0.sl hmd) ?_
    refine WM_e rfl ?_
    refine WL_storeRow hH9 rfl rfl (i := 4) rfl hR0 (j := s % k * 1) (by omega) hF2.sl.one sz_sl_int ?_; rintro D2 w10 hD2 hH10; rw [Nat.mul_one] at hD2
    refine WL_mix (fun h => absurd rfl h) ?_
    refine WM_nil ?_
    refine WT_inBlock ?_
    refine WT_region ?_
    refine WL_v rfl (ov_move rfl) ?_
    refine WL_v rfl (ov_add rfl rfl (by omega)) ?_
    refine WL_v rfl (ov_assign rfl) ?_
    refine WL_nil ?_
    refine again (s + 1) _ _ (by omega) (by repeat (first | exact trivial | refine ⟨rfl, ?_⟩)) ⟨by omega, D2, Ds.set (s % k) F2, ?_, hH10.drop⟩
    rw [dealL_succ (by omega) hsr hmd]
    exact OLists.set hmd hil (by omega) hat hD2 hF2
  first | with_reducible replace hc3 := of_decide_eq_false hc3 | with_reducible replace hc3 := bn_F hc3 | with_reducible replace hc3 := bb_F hc3 | skip
  obtain rfl : s = (readyI p []).length := by omega
  refine WT_exit rfl ?_
  refine WT_seq ?_
  refine WT_region ?_
  refine WL_v rfl (ov_loadN [dv, xv, yv, rv] rfl agg_impl_Crew rfl ((loadCrew (i := 1) rfl hH))) ?_
  refine WL_storeN hH rfl rfl (i := 6) rfl rfl rfl (ones_cons hD.sl.one (ones_cons hX.sl.one (ones_cons hY.sl.one (ones_cons hR.sl.one ones_nil)))) sz_impl_Crew ?_; rintro w7 hH7
  refine WL_v rfl (ov_assign rfl) ?_
  refine WL_nil ?_
  exact WT_retCT Tryz.func95 Tryz.results95 rfl rfl (lvCrew (i := 6) (dv := dv) (cv := xv) (nv := yv) (rv := rv) rfl hH7) ⟨dv, xv, yv, rv, rfl, X, Y, D, R, Ds, Rs, ⟨hX, hY, hD, hR⟩, H.newOrd (hH7.del 6 rfl).drop.drop⟩
theorem sCrewNew_no (hH : H w h Ls) {pv : Value} {p : List Nd} (hP : Plan h pv p) (hpl : p.length ≤ 1000000000) {n : Int} (hb : ¬ (planOk p = true ∧ 1 ≤ n ∧ n ≤ 4)) : Rets Tryz.prog 95 #[pv, .int .i64 n] w fun v w' => v = .tuple #[crV nilV nilV nilV nilV, .bool false] ∧ H w' h Ls := by
  have hsv := fun {w : World} {Ls : List Heaplet} (hH : H w h Ls) => sPlanValid_ok hH hP hpl
  refine rets_enter Tryz.func95 rfl Tryz.ntmps95 (by simp) ?_
  refine WT_seq ?_
  refine WT_region ?_
  refine WL_alloc _ rfl hH zero_crew rfl ?_; rintro g4 w1 hH1
  refine WL_v rfl (ov_assign rfl) ?_
  refine WL_nil ?_
  refine WT_seq ?_
  refine WT_seq ?_
  refine WT_region ?_
  refine WL_v rfl (ov_move rfl) ?_
  by_cases hv : planOk p = true
  · skip
    rw [hv] at hsv
    have hli := fun {w : World} {Ls : List Heaplet} (hH : H w h Ls) => l6In_ok hH n 1 4
    rw [decide_eq_false (fun hh => hb ⟨hv, hh⟩)] at hli
    refine WL_call rfl rfl cf_spec_PlanValid (hsv hH1) ?_; rintro _ w2 ⟨rfl, hH2⟩
    refine WL_v rfl (ov_not rfl) ?_
    refine WL_v rfl (ov_move rfl) ?_
    refine WL_guardOn rfl rfl ?_
    refine WL_v rfl (ov_move rfl) ?_
    refine WL_guardOn rfl rfl ?_
    refine WL_call rfl rfl cf_spec_l6In (hli hH2) ?_; rintro _ w3 ⟨rfl, hH3⟩
    refine WL_guardOn rfl rfl ?_
    refine WL_v rfl (ov_not rfl) ?_
    refine WL_v rfl (ov_pickF rfl rfl) ?_
    refine WL_nil ?_
    refine WT_condT rfl ?_
    refine WT_seq ?_
    refine WT_region ?_
    refine WL_v rfl (ov_build rfl run_build_crew0) ?_
    refine WL_storeN hH3 rfl rfl (i := 0) rfl rfl rfl (ones_cons rfl (ones_cons rfl (ones_cons rfl (ones_cons rfl ones_nil)))) sz_impl_Crew ?_; rintro w4 hH4
    refine WL_v rfl (ov_assign rfl) ?_
    refine WL_nil ?_
    exact WT_retCT Tryz.func95 Tryz.results95 rfl rfl (lvCrew (i := 0) (dv := nilV) (cv := nilV) (nv := nilV) (rv := nilV) rfl hH4) ⟨rfl, hH4.drop⟩
  · skip
    have hv' : planOk p = false := by simpa using hv
    rw [hv'] at hsv
    refine WL_call rfl rfl cf_spec_PlanValid (hsv hH1) ?_; rintro _ w2 ⟨rfl, hH2⟩
    refine WL_v rfl (ov_not rfl) ?_
    refine WL_v rfl (ov_move rfl) ?_
    refine WL_guardOff rfl rfl rfl rfl ?_
    refine WL_guardOff rfl rfl rfl rfl ?_
    refine WL_guardOff rfl rfl rfl rfl ?_
    refine WL_v rfl (ov_pickT rfl rfl) ?_
    refine WL_nil ?_
    refine WT_condT rfl ?_
    refine WT_seq ?_
    refine WT_region ?_
    refine WL_v rfl (ov_build rfl run_build_crew0) ?_
    refine WL_storeN hH2 rfl rfl (i := 0) rfl rfl rfl (ones_cons rfl (ones_cons rfl (ones_cons rfl (ones_cons rfl ones_nil)))) sz_impl_Crew ?_; rintro w4 hH4
    refine WL_v rfl (ov_assign rfl) ?_
    refine WL_nil ?_
    exact WT_retCT Tryz.func95 Tryz.results95 rfl rfl (lvCrew (i := 0) (dv := nilV) (cv := nilV) (nv := nilV) (rv := nilV) rfl hH4) ⟨rfl, hH4.drop⟩

/-! deques -/
def dqAt (d : List Int) (i : Nat) : Bool := decide (0 ≤ d.getD i 0 ∧ d.getD i 0 ≤ 9) && decide (d.getD i 0 ∉ d.take i)
def dqOk (d : List Int) : Bool := (List.range d.length).all (dqAt d) && decide (d.length ≤ 10)
theorem dqValid_ok (hH : H w h Ls) {av : Value} {d : List Int} (hA : RdL h Ls av d) : Rets Tryz.prog 163 #[av] w fun v w' => v = .bool (dqOk d) ∧ H w' h Ls := by
  have hlim := hA.sl.lim
  refine rets_enter Tryz.func163 rfl Tryz.ntmps163 (by simp) ?_
  refine WT_seq ?_
  refine WT_region ?_
  refine WL_v rfl (ov_assign rfl) ?_
  refine WL_nil ?_
  refine WT_seq ?_
  refine WT_seq ?_
  refine WT_region ?_
  refine WL_v rfl (ov_assign rfl) ?_
  refine WL_nil ?_
  refine WT_block ?_
  refine WT_while (fun s : Nat => [(0, av), (3, .int .i64 (s : Int))]) (fun k w => k ≤ d.length ∧ (∀ i, i < k → dqAt d i = true) ∧ H w h Ls) (fun k => d.length - k) 0 (by repeat (first | exact trivial | refine ⟨rfl, ?_⟩)) ⟨by omega, by omega, hH⟩ ?_
  clear hH
  rintro k w1 ⟨hk, hall, hH⟩ again
  refine WT_seq ?_
  refine WT_seq ?_
  refine WT_region ?_
  refine WL_v rfl (ov_move rfl) ?_
  refine WL_v rfl (ov_move rfl) ?_
  refine WL_v rfl (ov_len rfl hA.sl st_sl_int) ?_
  refine WL_v rfl (ov_lss rfl rfl) ?_
  refine WL_nil ?_
  refine WT_cond rfl (fun hc => ?_) (fun hc => ?_)
  · skip
    first | with_reducible replace hc := of_decide_eq_true hc | with_reducible replace hc := bn_T hc | with_reducible replace hc := bb_T hc | skip
    have hkd : k < d.length := by omega
    have hgk := getDI hkd
    have hDk := hA.take (k := k) (by omega)
    have hli := fun {w : World} {Ls : List Heaplet} (hH : H w h Ls) => l6In_ok hH d[k] 0 9
    have hbad : dqAt d k = false → dqOk d = false := fun hf => by
      rw [dqOk, List.all_eq_false.2 ⟨k, List.mem_range.2 hkd, by simp [hf]⟩, Bool.false_and]
    by_cases hin : 0 ≤ d[k] ∧ d[k] ≤ 9
    · skip
      rw [decide_eq_true hin] at hli
      refine WT_skip ?_
      refine WT_seq ?_
      refine WT_block ?_
      refine WT_seq ?_
      refine WT_quiet mixed (by kernel_rfl) hH ?_
      clear hH
      refine WQ_v rfl (fun _ _ => ov_move rfl) ?_
      refine WQ_v rfl (fun _ _ => ov_move rfl) ?_
      refine WQ_v rfl (fun _ _ => ov_index rfl rfl st_sl_int hA.sl hkd) ?_
      refine WQ_v rfl (fun _ hH => ov_load rfl one_int (hA.cell hH hkd)) ?_
      refine WQ_call rfl rfl cf_spec_l6In (fun _ hH => hli hH) ?_
      refine WQ_v rfl (fun _ _ => ov_not rfl) ?_
      refine WQ_v rfl (fun _ _ => ov_move rfl) ?_
      refine WQ_guardOn rfl rfl ?_
      refine WQ_v rfl (fun _ _ => ov_move rfl) ?_
      refine WQ_guardOn rfl rfl ?_
      refine WQ_v rfl (fun _ _ => ov_move rfl) ?_
      refine WQ_guardOn rfl rfl ?_
      refine WQ_v rfl (fun _ _ => ov_sliceHi rfl rfl st_sl_int hA.sl (by omega)) ?_
      refine WQ_guardOn rfl rfl ?_
      refine WQ_v rfl (fun _ _ => ov_move rfl) ?_
      refine WQ_guardOn rfl rfl ?_
      refine WQ_v rfl (fun _ _ => ov_move rfl) ?_
      refine WQ_guardOn rfl rfl ?_
      refine WQ_v rfl (fun _ _ => ov_index rfl rfl st_sl_int hA.sl hkd) ?_
      refine WQ_guardOn rfl rfl ?_
      refine WQ_v rfl (fun _ hH => ov_load rfl one_int (hA.cell hH hkd)) ?_
      refine WQ_guardOn rfl rfl ?_
      refine WQ_call rfl rfl cf_spec_l3Has (fun _ hH => l3HasR_ok hH hDk d[k]) ?_
      refine WQ_v rfl (fun _ _ => ov_pickF rfl rfl) ?_
      refine WQ_nil ?_
      intro w3 hH
      refine WT_cond rfl (fun hm => ?_) (fun hm => ?_)
      · skip
        first | with_reducible replace hm := of_decide_eq_true hm | with_reducible replace hm := bn_T hm | with_reducible replace hm := bb_T hm | skip
        refine WT_seq ?_
        refine WT_region ?_
        refine WL_v rfl (ov_assign rfl) ?_
        refine WL_nil ?_
        exact WT_ret1 Tryz.func163 Tryz.results163 rfl ⟨by rw [hbad (by rw [dqAt, hgk, decide_eq_false (p := ¬ (d[k] ∈ d.take k)) (fun hh => hh hm), Bool.and_false])], hH⟩
      first | with_reducible replace hm := of_decide_eq_false hm | with_reducible replace hm := bn_F hm | with_reducible replace hm := bb_F hm | skip
      refine WT_skip ?_
      refine WT_inBlock ?_
      refine WT_region ?_
      refine WL_v rfl (ov_move rfl) ?_
      refine WL_v rfl (ov_add rfl rfl (by omega)) ?_
      refine WL_v rfl (ov_assign rfl) ?_
      refine WL_nil ?_
      refine again (k + 1) _ _ (by omega) (by repeat (first | exact trivial | refine ⟨rfl, ?_⟩)) ⟨by omega, fun i hi => ?_, hH⟩
      rcases Nat.lt_or_ge i k with h1 | h1
      · exact hall i h1
      · obtain rfl : i = k := by omega
        rw [dqAt, hgk, decide_eq_true hin, decide_eq_true hm]; rfl
    · skip
      rw [decide_eq_false hin] at hli
      refine WT_skip ?_
      refine WT_seq ?_
      refine WT_block ?_
      refine WT_seq ?_
      refine WT_quiet mixed (by kernel_rfl) hH ?_
      clear hH
      refine WQ_v rfl (fun _ _ => ov_move rfl) ?_
      refine WQ_v rfl (fun _ _ => ov_move rfl) ?_
      refine WQ_v rfl (fun _ _ => ov_index rfl rfl st_sl_int hA.sl hkd) ?_
      refine WQ_v rfl (fun _ hH => ov_load rfl one_int (hA.cell hH hkd)) ?_
      refine WQ_call rfl rfl cf_spec_l6In (fun _ hH => hli hH) ?_
      refine WQ_v rfl (fun _ _ => ov_not rfl) ?_
      refine WQ_v rfl (fun _ _ => ov_move rfl) ?_
      refine WQ_guardOff rfl rfl rfl rfl ?_
      refine WQ_guardOff rfl rfl rfl rfl ?_
      refine WQ_guardOff rfl rfl rfl rfl ?_
      refine WQ_guardOff rfl rfl rfl rfl ?_
      refine WQ_guardOff rfl rfl rfl rfl ?_
      refine WQ_guardOff rfl rfl rfl rfl ?_
      refine WQ_guardOff rfl rfl rfl rfl ?_
      refine WQ_guardOff rfl rfl rfl rfl ?_
      refine WQ_v rfl (fun _ _ => ov_pickT rfl rfl) ?_
      refine WQ_nil ?_
      intro w3 hH
      refine WT_condT rfl ?_
      refine WT_seq ?_
      refine WT_region ?_
      refine WL_v rfl (ov_assign rfl) ?_
      refine WL_nil ?_
      exact WT_ret1 Tryz.func163 Tryz.results163 rfl ⟨by rw [hbad (by rw [dqAt, hgk, decide_eq_false hin, Bool.false_and])], hH⟩
  first | with_reducible replace hc := of_decide_eq_false hc | with_reducible replace hc := bn_F hc | with_reducible replace hc := bb_F hc | skip
  obtain rfl : k = d.length := by omega
  refine WT_exit rfl ?_
  refine WT_seq ?_
  refine WT_region ?_
  refine WL_v rfl (ov_move rfl) ?_
  refine WL_v rfl (ov_len rfl hA.sl st_sl_int) ?_
  refine WL_v rfl (ov_leq rfl rfl) ?_
  refine WL_v rfl (ov_assign rfl) ?_
  refine WL_nil ?_
  exact WT_ret1 Tryz.func163 Tryz.results163 rfl ⟨congrArg Value.bool (by
    rw [dqOk, List.all_eq_true.2 (fun i hi => hall i (List.mem_range.1 hi)), Bool.true_and]
    exact decide_eq_decide.2 (by omega)), hH⟩
end
end Go.Proofs.YteagnhdhafiofaaGreat

/- Walks: turns: the reference. -/
namespace Go.Proofs.YteagnhdhafiofaaGreat
open Go.RowKit

theorem fromW_at {dq : List (List Int)} {w s : Nat} (hs : s < dq.length) (h1 : dq.getD ((w + s) % dq.length) [] ≠ []) (h2 : ∀ j, j < s → dq.getD ((w + j) % dq.length) [] = []) : fromW dq w = (((w + s) % dq.length : Nat) : Int) := by
  have : (List.range dq.length).find? (fun s => decide (dq.getD ((w + s) % dq.length) [] ≠ [])) = some s := List.find?_range_eq_some.2 ⟨decide_eq_true h1, List.mem_range.2 hs, fun j hj => by rw [decide_eq_false (fun hh => hh (h2 j hj))]; rfl⟩
  rw [fromW, this]
theorem fromW_none {dq : List (List Int)} {w : Nat} (h2 : ∀ j, j < dq.length → dq.getD ((w + j) % dq.length) [] = []) : fromW dq w = -1 := by
  have : (List.range dq.length).find? (fun s => decide (dq.getD ((w + s) % dq.length) [] ≠ [])) = none := List.find?_range_eq_none.2 fun j hj => by rw [decide_eq_false (fun hh => hh (h2 j hj))]; rfl
  rw [fromW, this]

section
variable {h : GH} {Ls : List Heaplet} {w : World}

theorem RdL.drop1 {v : Value} {xs : List Int} (hA : RdL h Ls v xs) (hk : 1 ≤ xs.length) : RdL h Ls (reslice v 1 xs.length 1) (xs.drop 1) :=
  ⟨by
    have := reslice_sl (sz := 1) hA.sl (lo := 1) (hi := xs.length) (by omega) (Nat.le_refl _)
    rw [List.length_drop]
    exact this, fun hH j hj => by
    rw [List.length_drop] at hj
    obtain ⟨h1, h2, h3⟩ := reslice_at (sz := 1) hA.sl (lo := 1) (hi := xs.length) (by omega) (Nat.le_refl _)
    obtain ⟨c, _, _, hsp⟩ := hA.sl.some (by omega)
    have h4 := hA.cell hH (j := j + 1) (by omega)
    rw [List.getElem_drop]
    have : (slA (reslice v 1 xs.length 1)).add (j * 1) = (slA v).add ((j + 1) * 1) := by
      rw [add_of h2, add_of hsp, h1, h3]
      congr 1
      omega
    rw [this, h4]
    congr 2
    simp [Nat.add_comm]⟩

/-- What a deque gives. -/
def PopV (h : GH) (Ls : List Heaplet) (ok : Bool) (rest : List Int) (a : Int) (v : Value) (w' : World) : Prop := ∃ xv X, v = .tuple #[xv, .int .i64 a, .bool ok] ∧ IRow X 3 xv rest ∧ H w' h (X :: Ls)
theorem dqPop_yes (hH : H w h Ls) {av : Value} {d : List Int} (hA : RdL h Ls av d) (hok : dqOk d = true) (hn : 0 < d.length) : Rets Tryz.prog 141 #[av] w (PopV h Ls true (d.take (d.length - 1)) d[d.length - 1]) := by
  have hlim := hA.sl.lim
  have hl10 : d.length ≤ 10 := by
    rw [dqOk, Bool.and_eq_true, decide_eq_true_eq] at hok
    exact hok.2
  have hdv := fun {w : World} {Ls : List Heaplet} (hH : H w h Ls) (hA : RdL h Ls av d) => dqValid_ok hH hA
  rw [hok] at hdv
  have hT := hA.take (k := d.length - 1) (by omega)
  have hlast : d.length - 1 < d.length := by omega
  refine rets_enter Tryz.func141 rfl Tryz.ntmps141 (by simp) ?_
  refine WT_seq ?_
  refine WT_region ?_
  refine WL_v rfl (ov_assign rfl) ?_
  refine WL_v rfl (ov_assign rfl) ?_
  refine WL_v rfl (ov_assign rfl) ?_
  refine WL_nil ?_
  refine WT_seq ?_
  refine WT_region ?_
  refine WL_v rfl (ov_move rfl) ?_
  refine WL_v rfl (ov_len rfl hA.sl st_sl_int) ?_
  refine WL_v rfl (ov_as (ov_sub rfl rfl (by omega)) (congrArg (Value.int .i64) ((show (d.length : Int) - 1 = ((d.length - 1 : Nat) : Int) by omega)))) ?_
  refine WL_v rfl (ov_assign rfl) ?_
  refine WL_nil ?_
  refine WT_seq ?_
  refine WT_seq ?_
  refine WT_region ?_
  refine WL_v rfl (ov_move rfl) ?_
  refine WL_call rfl rfl cf_spec_DequeValid (hdv hH hA) ?_; rintro _ w1 ⟨rfl, hH1⟩
  refine WL_v rfl (ov_not rfl) ?_
  refine WL_v rfl (ov_move rfl) ?_
  refine WL_guardOn rfl rfl ?_
  refine WL_v rfl (ov_move rfl) ?_
  refine WL_guardOn rfl rfl ?_
  refine WL_v rfl (ov_F (ov_lss rfl rfl) (by first | exact decide_eq_false (by omega) | exact nb_F (by omega) | exact mb_F (by omega) | exact (by omega) | (simp only [decide_eq_false_iff_not]; omega) | simpa using (by omega))) ?_
  refine WL_v rfl (ov_pickF rfl rfl) ?_
  refine WL_nil ?_
  refine WT_condF rfl ?_
  refine WT_skip ?_
  refine WT_seq ?_
  refine WT_mixL [(1, 0), (2, 0), (3, 0), (5, 0), (6, 0), (7, 0), (8, 0), (0, 2), (4, 2), (9, 0), (10, 0), (11, 0)] mixed (by kernel_rfl) hH1 ?_
  clear hH1
  intro w2 hH1 hC
  refine WM_v rfl rfl hC (fun _ _ => ov_move rfl) ?_
  refine WM_v rfl rfl hC (fun _ _ => ov_move rfl) ?_
  refine WM_v rfl rfl hC (fun _ _ => ov_sliceHi rfl rfl st_sl_int hA.sl (by omega)) ?_
  refine WM_v rfl rfl hC (fun _ _ => ov_move rfl) ?_
  refine WM_v rfl rfl hC (fun _ _ => ov_move rfl) ?_
  refine WM_v rfl rfl hC (fun _ _ => ov_index rfl rfl st_sl_int hA.sl hlast) ?_
  refine WM_v rfl rfl hC (fun _ ⟨_, hH⟩ => ov_load rfl one_int (hA.up.cell hH hlast)) ?_
  refine WM_e rfl ?_
  refine WL_bsI0 rfl hH1 run_bs_int0 ?_; rintro X xv w3 hX hH3
  replace hC : Cl _ _ _ := Cl.many [X] hH3
  refine WL_mix (fun _ => hC) ?_
  refine WM_e rfl ?_
  refine WL_appR (i := 0) (xs := []) rfl hH3 rfl rfl st_sl_int rfl hX hT.sl (hT.up.cell hH3) (by rw [List.length_take]; simp only [List.length_nil]; omega) (by rw [List.length_take]; simp only [List.length_nil]; omega) ?_; clear hX; rintro X xv w4 hX hH4; rw [List.nil_append] at hX
  replace hC : Cl _ _ _ := Cl.many [X] hH4
  refine WL_mix (fun _ => hC) ?_
  refine WM_v rfl rfl hC (fun _ _ => ov_assign rfl) ?_
  refine WM_v rfl rfl hC (fun _ _ => ov_assign rfl) ?_
  refine WM_v rfl rfl hC (fun _ _ => ov_assign rfl) ?_
  refine WM_nil ?_
  exact WT_ret3 Tryz.func141 Tryz.results141 rfl rfl rfl ⟨xv, X, rfl, hX, hH4⟩
theorem dqPop_no (hH : H w h Ls) {av : Value} {d : List Int} (hA : RdL h Ls av d) (hb : ¬ (dqOk d = true ∧ 0 < d.length)) : Rets Tryz.prog 141 #[av] w (PopV h Ls false [] 0) := by
  have hlim := hA.sl.lim
  have hdv := fun {w : World} {Ls : List Heaplet} (hH : H w h Ls) (hA : RdL h Ls av d) => dqValid_ok hH hA
  refine rets_enter Tryz.func141 rfl Tryz.ntmps141 (by simp) ?_
  by_cases hok : dqOk d = true
  · skip
    rw [hok] at hdv
    have hn : d.length = 0 := by
      rcases Nat.eq_zero_or_pos d.length with h | h
      · exact h
      · exact absurd ⟨hok, h⟩ hb
    refine WT_seq ?_
    refine WT_region ?_
    refine WL_v rfl (ov_assign rfl) ?_
    refine WL_v rfl (ov_assign rfl) ?_
    refine WL_v rfl (ov_assign rfl) ?_
    refine WL_nil ?_
    refine WT_seq ?_
    refine WT_region ?_
    refine WL_v rfl (ov_move rfl) ?_
    refine WL_v rfl (ov_len rfl hA.sl st_sl_int) ?_
    refine WL_v rfl (ov_sub rfl rfl (by omega)) ?_
    refine WL_v rfl (ov_assign rfl) ?_
    refine WL_nil ?_
    refine WT_seq ?_
    refine WT_seq ?_
    refine WT_region ?_
    refine WL_v rfl (ov_move rfl) ?_
    refine WL_call rfl rfl cf_spec_DequeValid (hdv hH hA) ?_; rintro _ w1 ⟨rfl, hH1⟩
    refine WL_v rfl (ov_not rfl) ?_
    refine WL_v rfl (ov_move rfl) ?_
    refine WL_guardOn rfl rfl ?_
    refine WL_v rfl (ov_move rfl) ?_
    refine WL_guardOn rfl rfl ?_
    refine WL_v rfl (ov_T (ov_lss rfl rfl) (by first | exact decide_eq_true (by omega) | exact nb_T (by omega) | exact mb_T (by omega) | exact (by omega) | (simp only [decide_eq_true_eq]; omega) | simpa using (by omega))) ?_
    refine WL_v rfl (ov_pickF rfl rfl) ?_
    refine WL_nil ?_
    refine WT_condT rfl ?_
    refine WT_seq ?_
    refine WT_region ?_
    refine WL_bsI0 rfl hH1 run_bs_int0 ?_; rintro X xv w3 hX hH3
    refine WL_v rfl (ov_assign rfl) ?_
    refine WL_v rfl (ov_assign rfl) ?_
    refine WL_v rfl (ov_assign rfl) ?_
    refine WL_nil ?_
    exact WT_ret3 Tryz.func141 Tryz.results141 rfl rfl rfl ⟨xv, X, rfl, hX, hH3⟩
  · skip
    have hok' : dqOk d = false := by simpa using hok
    rw [hok'] at hdv
    refine WT_seq ?_
    refine WT_region ?_
    refine WL_v rfl (ov_assign rfl) ?_
    refine WL_v rfl (ov_assign rfl) ?_
    refine WL_v rfl (ov_assign rfl) ?_
    refine WL_nil ?_
    refine WT_seq ?_
    refine WT_region ?_
    refine WL_v rfl (ov_move rfl) ?_
    refine WL_v rfl (ov_len rfl hA.sl st_sl_int) ?_
    refine WL_v rfl (ov_sub rfl rfl (by omega)) ?_
    refine WL_v rfl (ov_assign rfl) ?_
    refine WL_nil ?_
    refine WT_seq ?_
    refine WT_seq ?_
    refine WT_region ?_
    refine WL_v rfl (ov_move rfl) ?_
    refine WL_call rfl rfl cf_spec_DequeValid (hdv hH hA) ?_; rintro _ w1 ⟨rfl, hH1⟩
    refine WL_v rfl (ov_not rfl) ?_
    refine WL_v rfl (ov_move rfl) ?_
    refine WL_guardOff rfl rfl rfl rfl ?_
    refine WL_guardOff rfl rfl rfl rfl ?_
    refine WL_v rfl (ov_pickT rfl rfl) ?_
    refine WL_nil ?_
    refine WT_condT rfl ?_
    refine WT_seq ?_
    refine WT_region ?_
    refine WL_bsI0 rfl hH1 run_bs_int0 ?_; rintro X xv w3 hX hH3
    refine WL_v rfl (ov_assign rfl) ?_
    refine WL_v rfl (ov_assign rfl) ?_
    refine WL_v rfl (ov_assign rfl) ?_
    refine WL_nil ?_
    exact WT_ret3 Tryz.func141 Tryz.results141 rfl rfl rfl ⟨xv, X, rfl, hX, hH3⟩
theorem dqSteal_yes (hH : H w h Ls) {av : Value} {d : List Int} (hA : RdL h Ls av d) (hok : dqOk d = true) (hn : 0 < d.length) : Rets Tryz.prog 143 #[av] w (PopV h Ls true (d.drop 1) d[0]) := by
  have hlim := hA.sl.lim
  have hl10 : d.length ≤ 10 := by
    rw [dqOk, Bool.and_eq_true, decide_eq_true_eq] at hok
    exact hok.2
  have hdv := fun {w : World} {Ls : List Heaplet} (hH : H w h Ls) (hA : RdL h Ls av d) => dqValid_ok hH hA
  rw [hok] at hdv
  have hT := hA.drop1 (by omega)
  refine rets_enter Tryz.func143 rfl Tryz.ntmps143 (by simp) ?_
  refine WT_seq ?_
  refine WT_region ?_
  refine WL_v rfl (ov_assign rfl) ?_
  refine WL_v rfl (ov_assign rfl) ?_
  refine WL_v rfl (ov_assign rfl) ?_
  refine WL_nil ?_
  refine WT_seq ?_
  refine WT_seq ?_
  refine WT_region ?_
  refine WL_v rfl (ov_move rfl) ?_
  refine WL_call rfl rfl cf_spec_DequeValid (hdv hH hA) ?_; rintro _ w1 ⟨rfl, hH1⟩
  refine WL_v rfl (ov_not rfl) ?_
  refine WL_v rfl (ov_move rfl) ?_
  refine WL_guardOn rfl rfl ?_
  refine WL_v rfl (ov_move rfl) ?_
  refine WL_guardOn rfl rfl ?_
  refine WL_v rfl (ov_len rfl hA.sl st_sl_int) ?_
  refine WL_guardOn rfl rfl ?_
  refine WL_v rfl (ov_F (ov_eql rfl rfl) (by first | exact decide_eq_false (by omega) | exact nb_F (by omega) | exact mb_F (by omega) | exact (by omega) | (simp only [decide_eq_false_iff_not]; omega) | simpa using (by omega))) ?_
  refine WL_v rfl (ov_pickF rfl rfl) ?_
  refine WL_nil ?_
  refine WT_condF rfl ?_
  refine WT_skip ?_
  refine WT_seq ?_
  refine WT_mixL [(1, 0), (2, 0), (4, 0), (5, 0), (6, 0), (0, 2), (3, 2), (7, 0), (8, 0), (9, 0)] mixed (by kernel_rfl) hH1 ?_
  clear hH1
  intro w2 hH1 hC
  refine WM_v rfl rfl hC (fun _ _ => ov_move rfl) ?_
  refine WM_v rfl rfl hC (fun _ _ => ov_sliceLo (lo := 1) rfl rfl st_sl_int hA.sl (by omega)) ?_
  refine WM_v rfl rfl hC (fun _ _ => ov_move rfl) ?_
  refine WM_v rfl rfl hC (fun _ _ => ov_index (i := 0) rfl rfl st_sl_int hA.sl (by omega)) ?_
  refine WM_v rfl rfl hC (fun _ ⟨_, hH⟩ => ov_load rfl one_int (hA.up.cell hH hn)) ?_
  refine WM_e rfl ?_
  refine WL_bsI0 rfl hH1 run_bs_int0 ?_; rintro X xv w3 hX hH3
  replace hC : Cl _ _ _ := Cl.many [X] hH3
  refine WL_mix (fun _ => hC) ?_
  refine WM_e rfl ?_
  refine WL_appR (i := 0) (xs := []) rfl hH3 rfl rfl st_sl_int rfl hX hT.sl (hT.up.cell hH3) (by rw [List.length_drop]; simp only [List.length_nil]; omega) (by rw [List.length_drop]; simp only [List.length_nil]; omega) ?_; clear hX; rintro X xv w4 hX hH4; rw [List.nil_append] at hX
  replace hC : Cl _ _ _ := Cl.many [X] hH4
  refine WL_mix (fun _ => hC) ?_
  refine WM_v rfl rfl hC (fun _ _ => ov_assign rfl) ?_
  refine WM_v rfl rfl hC (fun _ _ => ov_assign rfl) ?_
  refine WM_v rfl rfl hC (fun _ _ => ov_assign rfl) ?_
  refine WM_nil ?_
  exact WT_ret3 Tryz.func143 Tryz.results143 rfl rfl rfl ⟨xv, X, rfl, hX, hH4⟩
theorem dqSteal_no (hH : H w h Ls) {av : Value} {d : List Int} (hA : RdL h Ls av d) (hb : ¬ (dqOk d = true ∧ 0 < d.length)) : Rets Tryz.prog 143 #[av] w (PopV h Ls false [] 0) := by
  have hlim := hA.sl.lim
  have hdv := fun {w : World} {Ls : List Heaplet} (hH : H w h Ls) (hA : RdL h Ls av d) => dqValid_ok hH hA
  refine rets_enter Tryz.func143 rfl Tryz.ntmps143 (by simp) ?_
  by_cases hok : dqOk d = true
  · skip
    rw [hok] at hdv
    have hn : d.length = 0 := by
      rcases Nat.eq_zero_or_pos d.length with h | h
      · exact h
      · exact absurd ⟨hok, h⟩ hb
    refine WT_seq ?_
    refine WT_region ?_
    refine WL_v rfl (ov_assign rfl) ?_
    refine WL_v rfl (ov_assign rfl) ?_
    refine WL_v rfl (ov_assign rfl) ?_
    refine WL_nil ?_
    refine WT_seq ?_
    refine WT_seq ?_
    refine WT_region ?_
    refine WL_v rfl (ov_move rfl) ?_
    refine WL_call rfl rfl cf_spec_DequeValid (hdv hH hA) ?_; rintro _ w1 ⟨rfl, hH1⟩
    refine WL_v rfl (ov_not rfl) ?_
    refine WL_v rfl (ov_move rfl) ?_
    refine WL_guardOn rfl rfl ?_
    refine WL_v rfl (ov_move rfl) ?_
    refine WL_guardOn rfl rfl ?_
    refine WL_v rfl (ov_len rfl hA.sl st_sl_int) ?_
    refine WL_guardOn rfl rfl ?_
    refine WL_v rfl (ov_T (ov_eql rfl rfl) (by first | exact decide_eq_true (by omega) | exact nb_T (by omega) | exact mb_T (by omega) | exact (by omega) | (simp only [decide_eq_true_eq]; omega) | simpa using (by omega))) ?_
    refine WL_v rfl (ov_pickF rfl rfl) ?_
    refine WL_nil ?_
    refine WT_condT rfl ?_
    refine WT_seq ?_
    refine WT_region ?_
    refine WL_bsI0 rfl hH1 run_bs_int0 ?_; rintro X xv w3 hX hH3
    refine WL_v rfl (ov_assign rfl) ?_
    refine WL_v rfl (ov_assign rfl) ?_
    refine WL_v rfl (ov_assign rfl) ?_
    refine WL_nil ?_
    exact WT_ret3 Tryz.func143 Tryz.results143 rfl rfl rfl ⟨xv, X, rfl, hX, hH3⟩
  · skip
    have hok' : dqOk d = false := by simpa using hok
    rw [hok'] at hdv
    refine WT_seq ?_
    refine WT_region ?_
    refine WL_v rfl (ov_assign rfl) ?_
    refine WL_v rfl (ov_assign rfl) ?_
    refine WL_v rfl (ov_assign rfl) ?_
    refine WL_nil ?_
    refine WT_seq ?_
    refine WT_seq ?_
    refine WT_region ?_
    refine WL_v rfl (ov_move rfl) ?_
    refine WL_call rfl rfl cf_spec_DequeValid (hdv hH hA) ?_; rintro _ w1 ⟨rfl, hH1⟩
    refine WL_v rfl (ov_not rfl) ?_
    refine WL_v rfl (ov_move rfl) ?_
    refine WL_guardOff rfl rfl rfl rfl ?_
    refine WL_guardOff rfl rfl rfl rfl ?_
    refine WL_guardOff rfl rfl rfl rfl ?_
    refine WL_v rfl (ov_pickT rfl rfl) ?_
    refine WL_nil ?_
    refine WT_condT rfl ?_
    refine WT_seq ?_
    refine WT_region ?_
    refine WL_bsI0 rfl hH1 run_bs_int0 ?_; rintro X xv w3 hX hH3
    refine WL_v rfl (ov_assign rfl) ?_
    refine WL_v rfl (ov_assign rfl) ?_
    refine WL_v rfl (ov_assign rfl) ?_
    refine WL_nil ?_
    exact WT_ret3 Tryz.func143 Tryz.results143 rfl rfl rfl ⟨xv, X, rfl, hX, hH3⟩

/-! who takes from whom -/
def crewFrom (p : List Nd) (c : Cr) (wk : Int) : Int := if crewOk p c = true ∧ 0 ≤ wk ∧ wk < (c.dq.length : Int) then fromW c.dq wk.toNat else -1
theorem sTurnFrom_ok (hH : H w h Ls) {pv dv cv nv rv : Value} {p : List Nd} {c : Cr} (hP : Plan h pv p) (hpl : p.length ≤ 1000000000) (hl : CrLim c) (hC : RdCr h Ls dv cv nv rv c) (wk : Int) : Rets Tryz.prog 32 #[pv, crV dv cv nv rv, .int .i64 wk] w fun v w' => v = .int .i64 (crewFrom p c wk) ∧ H w' h Ls := by
  have hlq := hl.dq
  have hscv := fun {w : World} {X : Heaplet} (hH : H w h (X :: Ls)) => sCrewValid_ok hH hP hpl hl hC.up
  obtain ⟨A2, c2, rfl, _⟩ := hC.dq.sl.form
  obtain ⟨A3, c3, rfl, _⟩ := hC.ct.sl.form
  obtain ⟨A4, c4, rfl, _⟩ := hC.dn.sl.form
  obtain ⟨A5, c5, rfl, _⟩ := hC.rw.sl.form
  refine rets_enter Tryz.func32 rfl Tryz.ntmps32 (by simp) ?_
  refine WT_seq ?_
  refine WT_region ?_
  refine WL_box _ rfl hH rfl rfl ?_; rintro b w1 hH1; replace hH1 : H w1 h (crbox b (.slice A2 c.dq.length c2) (.slice A3 c.ct.length c3) (.slice A4 c.dn.length c4) (.slice A5 c.rw.length c5) :: Ls) := hH1
  refine WL_v rfl (ov_assign rfl) ?_
  refine WL_nil ?_
  refine WT_seq ?_
  refine WT_seq ?_
  refine WT_region ?_
  refine WL_v rfl (ov_move rfl) ?_
  by_cases hv : crewOk p c = true
  · skip
    rw [hv] at hscv
    have hli := fun {w : World} {Ls : List Heaplet} (hH : H w h Ls) => l6In_ok hH wk 0 ((c.dq.length : Int) - 1)
    by_cases hw : 0 ≤ wk ∧ wk < (c.dq.length : Int)
    · skip
      rw [decide_eq_true (show 0 ≤ wk ∧ wk ≤ (c.dq.length : Int) - 1 by omega)] at hli
      obtain ⟨m, hm⟩ := Int.eq_ofNat_of_zero_le hw.1
      rw [crewFrom, if_pos ⟨hv, hw⟩]
      subst hm
      rw [Int.toNat_natCast]
      have hq := ((crewOk_iff p c).1 hv).dq
      refine WL_v rfl (ov_loadN [.slice A2 c.dq.length c2, .slice A3 c.ct.length c3, .slice A4 c.dn.length c4, .slice A5 c.rw.length c5] rfl agg_impl_Crew rfl ((loadCrew (i := 0) rfl hH1))) ?_
      refine WL_call rfl rfl cf_spec_CrewValid (hscv hH1) ?_; rintro _ w2 ⟨rfl, hH2⟩
      refine WL_v rfl (ov_not rfl) ?_
      refine WL_v rfl (ov_move rfl) ?_
      refine WL_guardOn rfl rfl ?_
      refine WL_v rfl (ov_move rfl) ?_
      refine WL_guardOn rfl rfl ?_
      refine WL_v rfl (ov_field rfl fo_impl_Crew_0) ?_
      refine WL_guardOn rfl rfl ?_
      refine WL_v rfl (ov_load rfl one_sl_sl_int (hH2.cb 0 rfl 0)) ?_
      refine WL_guardOn rfl rfl ?_
      refine WL_v rfl (ov_len rfl hC.dq.sl st_sl_sl_int) ?_
      refine WL_guardOn rfl rfl ?_
      refine WL_v rfl (ov_sub rfl rfl (by omega)) ?_
      refine WL_guardOn rfl rfl ?_
      refine WL_call rfl rfl cf_spec_l6In (hli hH2) ?_; rintro _ w3 ⟨rfl, hH3⟩
      refine WL_guardOn rfl rfl ?_
      refine WL_v rfl (ov_not rfl) ?_
      refine WL_v rfl (ov_pickF rfl rfl) ?_
      refine WL_nil ?_
      refine WT_condF rfl ?_
      refine WT_skip ?_
      refine WT_seq ?_
      refine WT_seq ?_
      refine WT_region ?_
      refine WL_v rfl (ov_assign rfl) ?_
      refine WL_nil ?_
      refine WT_block ?_
      refine WT_while (fun s : Nat => [(2, .int .i64 (m : Int)), (4, ptr b), (7, .int .i64 (s : Int))]) (fun s w => s ≤ c.dq.length ∧ (∀ j, j < s → c.dq.getD ((m + j) % c.dq.length) [] = []) ∧ H w h (crbox b (.slice A2 c.dq.length c2) (.slice A3 c.ct.length c3) (.slice A4 c.dn.length c4) (.slice A5 c.rw.length c5) :: Ls)) (fun s => c.dq.length - s) 0 (by repeat (first | exact trivial | refine ⟨rfl, ?_⟩)) ⟨by omega, by omega, hH3⟩ ?_
      clear hH hH1 hH2 hH3
      rintro k w6 ⟨hk, hall, hH⟩ again
      refine WT_seq ?_
      refine WT_seq ?_
      refine WT_region ?_
      refine WL_v rfl (ov_move rfl) ?_
      refine WL_v rfl (ov_field rfl fo_impl_Crew_0) ?_
      refine WL_v rfl (ov_load rfl one_sl_sl_int (hH.cb 0 rfl 0)) ?_
      refine WL_v rfl (ov_len rfl hC.dq.sl st_sl_sl_int) ?_
      refine WL_v rfl (ov_lss rfl rfl) ?_
      refine WL_nil ?_
      refine WT_cond rfl (fun hc => ?_) (fun hc => ?_)
      · skip
        first | with_reducible replace hc := of_decide_eq_true hc | with_reducible replace hc := bn_T hc | with_reducible replace hc := bb_T hc | skip
        have hkd : k < c.dq.length := by omega
        have hmm : (m + k) % c.dq.length < c.dq.length := Nat.mod_lt _ (by omega)
        have hmod : ((m : Nat) : Int) + ((k : Nat) : Int) = ((m + k : Nat) : Int) := by omega
        have hmod2 : ((m + k : Nat) : Int) % ((c.dq.length : Nat) : Int) = (((m + k) % c.dq.length : Nat) : Int) := (Int.natCast_emod _ _).symm
        obtain ⟨u, h1, h2⟩ := hC.dq.at_ hmm
        have hgd : c.dq.getD ((m + k) % c.dq.length) [] = c.dq[(m + k) % c.dq.length] := getLD hmm
        have hsl := h1.sl.lim
        refine WT_skip ?_
        refine WT_seq ?_
        refine WT_block ?_
        refine WT_seq ?_
        refine WT_region ?_
        refine WL_v rfl (ov_move rfl) ?_
        refine WL_v rfl (ov_move rfl) ?_
        refine WL_v rfl (ov_as (ov_add rfl rfl (by omega)) (congrArg (Value.int .i64) (hmod))) ?_
        refine WL_v rfl (ov_field rfl fo_impl_Crew_0) ?_
        refine WL_v rfl (ov_load rfl one_sl_sl_int (hH.cb 0 rfl 0)) ?_
        refine WL_v rfl (ov_len rfl hC.dq.sl st_sl_sl_int) ?_
        refine WL_v rfl (ov_as (ov_rem rfl rfl (by omega) (by omega)) (congrArg (Value.int .i64) hmod2)) ?_
        refine WL_v rfl (ov_assign rfl) ?_
        refine WL_nil ?_
        refine WT_seq ?_
        refine WT_region ?_
        refine WL_v rfl (ov_field rfl fo_impl_Crew_0) ?_
        refine WL_v rfl (ov_load rfl one_sl_sl_int (hH.cb 0 rfl 0)) ?_
        refine WL_v rfl (ov_move rfl) ?_
        refine WL_v rfl (ov_index rfl rfl st_sl_sl_int hC.dq.sl hmm) ?_
        refine WL_v rfl (ov_load rfl one_sl_int (h2 hH.drop)) ?_
        refine WL_v rfl (ov_len rfl h1.sl st_sl_int) ?_
        refine WL_v rfl (ov_gtr rfl rfl) ?_
        refine WL_nil ?_
        refine WT_cond rfl (fun hne => ?_) (fun hne => ?_)
        · skip
          first | with_reducible replace hne := of_decide_eq_true hne | with_reducible replace hne := bn_T hne | with_reducible replace hne := bb_T hne | skip
          refine WT_seq ?_
          refine WT_region ?_
          refine WL_v rfl (ov_move rfl) ?_
          refine WL_v rfl (ov_assign rfl) ?_
          refine WL_nil ?_
          exact WT_ret1 Tryz.func32 Tryz.results32 rfl ⟨congrArg (Value.int .i64) (fromW_at hkd (by rw [hgd]; intro hh; rw [hh] at hne; simp at hne) hall).symm, hH.drop⟩
        first | with_reducible replace hne := of_decide_eq_false hne | with_reducible replace hne := bn_F hne | with_reducible replace hne := bb_F hne | skip
        refine WT_skip ?_
        refine WT_inBlock ?_
        refine WT_region ?_
        refine WL_v rfl (ov_move rfl) ?_
        refine WL_v rfl (ov_add rfl rfl (by omega)) ?_
        refine WL_v rfl (ov_assign rfl) ?_
        refine WL_nil ?_
        refine again (k + 1) _ _ (by omega) (by repeat (first | exact trivial | refine ⟨rfl, ?_⟩)) ⟨by omega, fun j hj => ?_, hH⟩
        rcases Nat.lt_or_ge j k with h3 | h3
        · exact hall j h3
        · obtain rfl : j = k := by omega
          rw [hgd]
          exact List.eq_nil_of_length_eq_zero (by omega)
      first | with_reducible replace hc := of_decide_eq_false hc | with_reducible replace hc := bn_F hc | with_reducible replace hc := bb_F hc | skip
      obtain rfl : k = c.dq.length := by omega
      refine WT_exit rfl ?_
      refine WT_seq ?_
      refine WT_region ?_
      refine WL_v rfl (ov_assign rfl) ?_
      refine WL_nil ?_
      exact WT_ret1 Tryz.func32 Tryz.results32 rfl ⟨congrArg (Value.int .i64) (fromW_none hall).symm, hH.drop⟩
    · skip
      rw [crewFrom, if_neg (fun hh => hw hh.2)]
      rw [decide_eq_false (show ¬ (0 ≤ wk ∧ wk ≤ (c.dq.length : Int) - 1) by omega)] at hli
      refine WL_v rfl (ov_loadN [.slice A2 c.dq.length c2, .slice A3 c.ct.length c3, .slice A4 c.dn.length c4, .slice A5 c.rw.length c5] rfl agg_impl_Crew rfl ((loadCrew (i := 0) rfl hH1))) ?_
      refine WL_call rfl rfl cf_spec_CrewValid (hscv hH1) ?_; rintro _ w2 ⟨rfl, hH2⟩
      refine WL_v rfl (ov_not rfl) ?_
      refine WL_v rfl (ov_move rfl) ?_
      refine WL_guardOn rfl rfl ?_
      refine WL_v rfl (ov_move rfl) ?_
      refine WL_guardOn rfl rfl ?_
      refine WL_v rfl (ov_field rfl fo_impl_Crew_0) ?_
      refine WL_guardOn rfl rfl ?_
      refine WL_v rfl (ov_load rfl one_sl_sl_int (hH2.cb 0 rfl 0)) ?_
      refine WL_guardOn rfl rfl ?_
      refine WL_v rfl (ov_len rfl hC.dq.sl st_sl_sl_int) ?_
      refine WL_guardOn rfl rfl ?_
      refine WL_v rfl (ov_sub rfl rfl (by omega)) ?_
      refine WL_guardOn rfl rfl ?_
      refine WL_call rfl rfl cf_spec_l6In (hli hH2) ?_; rintro _ w3 ⟨rfl, hH3⟩
      refine WL_guardOn rfl rfl ?_
      refine WL_v rfl (ov_not rfl) ?_
      refine WL_v rfl (ov_pickF rfl rfl) ?_
      refine WL_nil ?_
      refine WT_condT rfl ?_
      refine WT_seq ?_
      refine WT_region ?_
      refine WL_v rfl (ov_assign rfl) ?_
      refine WL_nil ?_
      exact WT_ret1 Tryz.func32 Tryz.results32 rfl ⟨rfl, hH3.drop⟩
  · skip
    rw [crewFrom, if_neg (fun hh => hv hh.1)]
    have hv' : crewOk p c = false := by simpa using hv
    rw [hv'] at hscv
    refine WL_v rfl (ov_loadN [.slice A2 c.dq.length c2, .slice A3 c.ct.length c3, .slice A4 c.dn.length c4, .slice A5 c.rw.length c5] rfl agg_impl_Crew rfl ((loadCrew (i := 0) rfl hH1))) ?_
    refine WL_call rfl rfl cf_spec_CrewValid (hscv hH1) ?_; rintro _ w2 ⟨rfl, hH2⟩
    refine WL_v rfl (ov_not rfl) ?_
    refine WL_v rfl (ov_move rfl) ?_
    refine WL_guardOff rfl rfl rfl rfl ?_
    refine WL_guardOff rfl rfl rfl rfl ?_
    refine WL_guardOff rfl rfl rfl rfl ?_
    refine WL_guardOff rfl rfl rfl rfl ?_
    refine WL_guardOff rfl rfl rfl rfl ?_
    refine WL_guardOff rfl rfl rfl rfl ?_
    refine WL_guardOff rfl rfl rfl rfl ?_
    refine WL_v rfl (ov_pickT rfl rfl) ?_
    refine WL_nil ?_
    refine WT_condT rfl ?_
    refine WT_seq ?_
    refine WT_region ?_
    refine WL_v rfl (ov_assign rfl) ?_
    refine WL_nil ?_
    exact WT_ret1 Tryz.func32 Tryz.results32 rfl ⟨rfl, hH2.drop⟩
end
end Go.Proofs.YteagnhdhafiofaaGreat

/- Walks: what is left of a crew's work; who has a node; who takes from whom. -/
namespace Go.Proofs.YteagnhdhafiofaaGreat
open Go.RowKit

def crewLeft (p : List Nd) (c : Cr) : Int := if crewOk p c = true then (p.length : Int) - (c.dn.length : Int) else -1
def crewAt (p : List Nd) (c : Cr) (a : Int) : Int := if crewOk p c = true then lastW c.dq a c.dq.length else -1

section
variable {h : GH} {Ls : List Heaplet} {w : World}

theorem crewLeft_ok (hH : H w h Ls) {pv dv cv nv rv : Value} {p : List Nd} {c : Cr} (hP : Plan h pv p) (hl : CrLim c) (hC : RdCr h Ls dv cv nv rv c) : Rets Tryz.prog 29 #[pv, crV dv cv nv rv] w fun v w' => v = .int .i64 (crewLeft p c) ∧ H w' h Ls := by
  have hln := hl.dn
  have hlp := hP.sl
  have hcv := fun {w : World} {X : Heaplet} (hH : H w h (X :: Ls)) => crewValid_ok hH hP hl hC.up
  obtain ⟨A2, c2, rfl, _⟩ := hC.dq.sl.form
  obtain ⟨A3, c3, rfl, _⟩ := hC.ct.sl.form
  obtain ⟨A4, c4, rfl, _⟩ := hC.dn.sl.form
  obtain ⟨A5, c5, rfl, _⟩ := hC.rw.sl.form
  refine rets_enter Tryz.func29 rfl Tryz.ntmps29 (by simp) ?_
  refine WT_seq ?_
  refine WT_region ?_
  refine WL_box _ rfl hH rfl rfl ?_; rintro b w1 hH1; replace hH1 : H w1 h (crbox b (.slice A2 c.dq.length c2) (.slice A3 c.ct.length c3) (.slice A4 c.dn.length c4) (.slice A5 c.rw.length c5) :: Ls) := hH1
  refine WL_v rfl (ov_assign rfl) ?_
  refine WL_nil ?_
  refine WT_seq ?_
  refine WT_seq ?_
  refine WT_region ?_
  refine WL_v rfl (ov_move rfl) ?_
  by_cases hv : crewOk p c = true
  · skip
    rw [crewLeft, if_pos hv]
    rw [hv] at hcv
    have hlen := PlanOk.len ((crewOk_iff p c).1 hv).plan
    refine WL_v rfl (ov_loadN [.slice A2 c.dq.length c2, .slice A3 c.ct.length c3, .slice A4 c.dn.length c4, .slice A5 c.rw.length c5] rfl agg_impl_Crew rfl ((loadCrew (i := 0) rfl hH1))) ?_
    refine WL_call rfl rfl cf_impl_CrewValid (hcv hH1) ?_; rintro _ w2 ⟨rfl, hH2⟩
    refine WL_v rfl (ov_not rfl) ?_
    refine WL_nil ?_
    refine WT_condF rfl ?_
    refine WT_skip ?_
    refine WT_seq ?_
    refine WT_region ?_
    refine WL_v rfl (ov_move rfl) ?_
    refine WL_v rfl (ov_len rfl hlp st_sl_impl_Node) ?_
    refine WL_v rfl (ov_field rfl fo_impl_Crew_2) ?_
    refine WL_v rfl (ov_load rfl one_sl_int (hH2.cb 0 rfl 2)) ?_
    refine WL_v rfl (ov_len rfl hC.dn.sl st_sl_int) ?_
    refine WL_v rfl (ov_sub rfl rfl (by omega)) ?_
    refine WL_v rfl (ov_assign rfl) ?_
    refine WL_nil ?_
    exact WT_ret1 Tryz.func29 Tryz.results29 rfl ⟨rfl, hH2.drop⟩
  · skip
    rw [crewLeft, if_neg hv]
    have hv' : crewOk p c = false := by simpa using hv
    rw [hv'] at hcv
    refine WL_v rfl (ov_loadN [.slice A2 c.dq.length c2, .slice A3 c.ct.length c3, .slice A4 c.dn.length c4, .slice A5 c.rw.length c5] rfl agg_impl_Crew rfl ((loadCrew (i := 0) rfl hH1))) ?_
    refine WL_call rfl rfl cf_impl_CrewValid (hcv hH1) ?_; rintro _ w2 ⟨rfl, hH2⟩
    refine WL_v rfl (ov_not rfl) ?_
    refine WL_nil ?_
    refine WT_condT rfl ?_
    refine WT_seq ?_
    refine WT_region ?_
    refine WL_v rfl (ov_assign rfl) ?_
    refine WL_nil ?_
    exact WT_ret1 Tryz.func29 Tryz.results29 rfl ⟨rfl, hH2.drop⟩

theorem sCrewLeft_ok (hH : H w h Ls) {pv dv cv nv rv : Value} {p : List Nd} {c : Cr} (hP : Plan h pv p) (hpl : p.length ≤ 1000000000) (hl : CrLim c) (hC : RdCr h Ls dv cv nv rv c) : Rets Tryz.prog 28 #[pv, crV dv cv nv rv] w fun v w' => v = .int .i64 (crewLeft p c) ∧ H w' h Ls := by
  have hln := hl.dn
  have hlp := hP.sl
  have hcv := fun {w : World} {X : Heaplet} (hH : H w h (X :: Ls)) => sCrewValid_ok hH hP hpl hl hC.up
  obtain ⟨A2, c2, rfl, _⟩ := hC.dq.sl.form
  obtain ⟨A3, c3, rfl, _⟩ := hC.ct.sl.form
  obtain ⟨A4, c4, rfl, _⟩ := hC.dn.sl.form
  obtain ⟨A5, c5, rfl, _⟩ := hC.rw.sl.form
  refine rets_enter Tryz.func28 rfl Tryz.ntmps28 (by simp) ?_
  refine WT_seq ?_
  refine WT_region ?_
  refine WL_box _ rfl hH rfl rfl ?_; rintro b w1 hH1; replace hH1 : H w1 h (crbox b (.slice A2 c.dq.length c2) (.slice A3 c.ct.length c3) (.slice A4 c.dn.length c4) (.slice A5 c.rw.length c5) :: Ls) := hH1
  refine WL_v rfl (ov_assign rfl) ?_
  refine WL_nil ?_
  refine WT_seq ?_
  refine WT_seq ?_
  refine WT_region ?_
  refine WL_v rfl (ov_move rfl) ?_
  by_cases hv : crewOk p c = true
  · skip
    rw [crewLeft, if_pos hv]
    rw [hv] at hcv
    have hlen := PlanOk.len ((crewOk_iff p c).1 hv).plan
    refine WL_v rfl (ov_loadN [.slice A2 c.dq.length c2, .slice A3 c.ct.length c3, .slice A4 c.dn.length c4, .slice A5 c.rw.length c5] rfl agg_impl_Crew rfl ((loadCrew (i := 0) rfl hH1))) ?_
    refine WL_call rfl rfl cf_spec_CrewValid (hcv hH1) ?_; rintro _ w2 ⟨rfl, hH2⟩
    refine WL_v rfl (ov_not rfl) ?_
    refine WL_nil ?_
    refine WT_condF rfl ?_
    refine WT_skip ?_
    refine WT_seq ?_
    refine WT_region ?_
    refine WL_v rfl (ov_move rfl) ?_
    refine WL_v rfl (ov_len rfl hlp st_sl_impl_Node) ?_
    refine WL_v rfl (ov_field rfl fo_impl_Crew_2) ?_
    refine WL_v rfl (ov_load rfl one_sl_int (hH2.cb 0 rfl 2)) ?_
    refine WL_v rfl (ov_len rfl hC.dn.sl st_sl_int) ?_
    refine WL_v rfl (ov_sub rfl rfl (by omega)) ?_
    refine WL_v rfl (ov_assign rfl) ?_
    refine WL_nil ?_
    exact WT_ret1 Tryz.func28 Tryz.results28 rfl ⟨rfl, hH2.drop⟩
  · skip
    rw [crewLeft, if_neg hv]
    have hv' : crewOk p c = false := by simpa using hv
    rw [hv'] at hcv
    refine WL_v rfl (ov_loadN [.slice A2 c.dq.length c2, .slice A3 c.ct.length c3, .slice A4 c.dn.length c4, .slice A5 c.rw.length c5] rfl agg_impl_Crew rfl ((loadCrew (i := 0) rfl hH1))) ?_
    refine WL_call rfl rfl cf_spec_CrewValid (hcv hH1) ?_; rintro _ w2 ⟨rfl, hH2⟩
    refine WL_v rfl (ov_not rfl) ?_
    refine WL_nil ?_
    refine WT_condT rfl ?_
    refine WT_seq ?_
    refine WT_region ?_
    refine WL_v rfl (ov_assign rfl) ?_
    refine WL_nil ?_
    exact WT_ret1 Tryz.func28 Tryz.results28 rfl ⟨rfl, hH2.drop⟩

theorem sCrewAt_ok (hH : H w h Ls) {pv dv cv nv rv : Value} {p : List Nd} {c : Cr} (hP : Plan h pv p) (hpl : p.length ≤ 1000000000) (hl : CrLim c) (hC : RdCr h Ls dv cv nv rv c) (a : Int) : Rets Tryz.prog 30 #[pv, crV dv cv nv rv, .int .i64 a] w fun v w' => v = .int .i64 (crewAt p c a) ∧ H w' h Ls := by
  have hcv := fun {w : World} {X : Heaplet} (hH : H w h (X :: Ls)) => sCrewValid_ok hH hP hpl hl hC.up
  have hat := fun {w : World} {X : Heaplet} (hH : H w h (X :: Ls)) => l13At_ok hH hl hC.up a
  obtain ⟨A2, c2, rfl, _⟩ := hC.dq.sl.form
  obtain ⟨A3, c3, rfl, _⟩ := hC.ct.sl.form
  obtain ⟨A4, c4, rfl, _⟩ := hC.dn.sl.form
  obtain ⟨A5, c5, rfl, _⟩ := hC.rw.sl.form
  refine rets_enter Tryz.func30 rfl Tryz.ntmps30 (by simp) ?_
  refine WT_seq ?_
  refine WT_region ?_
  refine WL_box _ rfl hH rfl rfl ?_; rintro b w1 hH1; replace hH1 : H w1 h (crbox b (.slice A2 c.dq.length c2) (.slice A3 c.ct.length c3) (.slice A4 c.dn.length c4) (.slice A5 c.rw.length c5) :: Ls) := hH1
  refine WL_v rfl (ov_assign rfl) ?_
  refine WL_nil ?_
  refine WT_seq ?_
  refine WT_seq ?_
  refine WT_region ?_
  refine WL_v rfl (ov_move rfl) ?_
  by_cases hv : crewOk p c = true
  · skip
    rw [crewAt, if_pos hv]
    rw [hv] at hcv
    refine WL_v rfl (ov_loadN [.slice A2 c.dq.length c2, .slice A3 c.ct.length c3, .slice A4 c.dn.length c4, .slice A5 c.rw.length c5] rfl agg_impl_Crew rfl ((loadCrew (i := 0) rfl hH1))) ?_
    refine WL_call rfl rfl cf_spec_CrewValid (hcv hH1) ?_; rintro _ w2 ⟨rfl, hH2⟩
    refine WL_v rfl (ov_not rfl) ?_
    refine WL_nil ?_
    refine WT_condF rfl ?_
    refine WT_skip ?_
    refine WT_seq ?_
    refine WT_region ?_
    refine WL_v rfl (ov_loadN [.slice A2 c.dq.length c2, .slice A3 c.ct.length c3, .slice A4 c.dn.length c4, .slice A5 c.rw.length c5] rfl agg_impl_Crew rfl ((loadCrew (i := 0) rfl hH2))) ?_
    refine WL_v rfl (ov_move rfl) ?_
    refine WL_call rfl rfl cf_spec_l13At (hat hH2) ?_; rintro _ w3 ⟨rfl, hH3⟩
    refine WL_v rfl (ov_move rfl) ?_
    refine WL_v rfl (ov_extract rfl rfl) ?_
    refine WL_v rfl (ov_extract rfl rfl) ?_
    refine WL_v rfl (ov_assign rfl) ?_
    refine WL_v rfl (ov_assign rfl) ?_
    refine WL_nil ?_
    refine WT_seq ?_
    refine WT_region ?_
    refine WL_v rfl (ov_move rfl) ?_
    refine WL_v rfl (ov_assign rfl) ?_
    refine WL_nil ?_
    exact WT_ret1 Tryz.func30 Tryz.results30 rfl ⟨rfl, hH3.drop⟩
  · skip
    rw [crewAt, if_neg hv]
    have hv' : crewOk p c = false := by simpa using hv
    rw [hv'] at hcv
    refine WL_v rfl (ov_loadN [.slice A2 c.dq.length c2, .slice A3 c.ct.length c3, .slice A4 c.dn.length c4, .slice A5 c.rw.length c5] rfl agg_impl_Crew rfl ((loadCrew (i := 0) rfl hH1))) ?_
    refine WL_call rfl rfl cf_spec_CrewValid (hcv hH1) ?_; rintro _ w2 ⟨rfl, hH2⟩
    refine WL_v rfl (ov_not rfl) ?_
    refine WL_nil ?_
    refine WT_condT rfl ?_
    refine WT_seq ?_
    refine WT_region ?_
    refine WL_v rfl (ov_assign rfl) ?_
    refine WL_nil ?_
    exact WT_ret1 Tryz.func30 Tryz.results30 rfl ⟨rfl, hH2.drop⟩

theorem crewAt_ok (hH : H w h Ls) {pv dv cv nv rv : Value} {p : List Nd} {c : Cr} (hP : Plan h pv p) (hl : CrLim c) (hC : RdCr h Ls dv cv nv rv c) (a : Int) : Rets Tryz.prog 31 #[pv, crV dv cv nv rv, .int .i64 a] w fun v w' => v = .int .i64 (crewAt p c a) ∧ H w' h Ls := by
  have hlq := hl.dq
  have hcv := fun {w : World} {X : Heaplet} (hH : H w h (X :: Ls)) => crewValid_ok hH hP hl hC.up
  obtain ⟨A2, c2, rfl, _⟩ := hC.dq.sl.form
  obtain ⟨A3, c3, rfl, _⟩ := hC.ct.sl.form
  obtain ⟨A4, c4, rfl, _⟩ := hC.dn.sl.form
  obtain ⟨A5, c5, rfl, _⟩ := hC.rw.sl.form
  refine rets_enter Tryz.func31 rfl Tryz.ntmps31 (by simp) ?_
  refine WT_seq ?_
  refine WT_region ?_
  refine WL_box _ rfl hH rfl rfl ?_; rintro b w1 hH1; replace hH1 : H w1 h (crbox b (.slice A2 c.dq.length c2) (.slice A3 c.ct.length c3) (.slice A4 c.dn.length c4) (.slice A5 c.rw.length c5) :: Ls) := hH1
  refine WL_v rfl (ov_assign rfl) ?_
  refine WL_nil ?_
  refine WT_seq ?_
  refine WT_seq ?_
  refine WT_region ?_
  refine WL_v rfl (ov_move rfl) ?_
  by_cases hv : crewOk p c = true
  · skip
    rw [crewAt, if_pos hv]
    rw [hv] at hcv
    have hnd := ((crewOk_iff p c).1 hv).nodup
    refine WL_v rfl (ov_loadN [.slice A2 c.dq.length c2, .slice A3 c.ct.length c3, .slice A4 c.dn.length c4, .slice A5 c.rw.length c5] rfl agg_impl_Crew rfl ((loadCrew (i := 0) rfl hH1))) ?_
    refine WL_call rfl rfl cf_impl_CrewValid (hcv hH1) ?_; rintro _ w2 ⟨rfl, hH2⟩
    refine WL_v rfl (ov_not rfl) ?_
    refine WL_nil ?_
    refine WT_condF rfl ?_
    refine WT_skip ?_
    refine WT_seq ?_
    refine WT_seq ?_
    refine WT_region ?_
    refine WL_v rfl (ov_field rfl fo_impl_Crew_0) ?_
    refine WL_v rfl (ov_load rfl one_sl_sl_int (hH2.cb 0 rfl 0)) ?_
    refine WL_v rfl (ov_len rfl hC.dq.sl st_sl_sl_int) ?_
    refine WL_v rfl (ov_move rfl) ?_
    refine WL_nil ?_
    refine WT_block ?_
    refine WT_while (fun s : Nat => [(2, .int .i64 a), (14, .slice A2 c.dq.length c2), (15, .int .i64 (c.dq.length : Int)), (16, .int .i64 (s : Int))]) (fun s w => s ≤ c.dq.length ∧ (∀ j, j < s → a ∉ c.dq.getD j []) ∧ H w h (crbox b (.slice A2 c.dq.length c2) (.slice A3 c.ct.length c3) (.slice A4 c.dn.length c4) (.slice A5 c.rw.length c5) :: Ls)) (fun s => c.dq.length - s) 0 (by repeat (first | exact trivial | refine ⟨rfl, ?_⟩)) ⟨by omega, by omega, hH2⟩ ?_
    clear hH hH1 hH2
    rintro k w3 ⟨hk, hall, hH⟩ again
    refine WT_seq ?_
    refine WT_region ?_
    refine WL_v rfl (ov_lss rfl rfl) ?_
    refine WL_nil ?_
    refine WT_seq ?_
    refine WT_cond rfl (fun hc => ?_) (fun hc => ?_)
    · skip
      first | with_reducible replace hc := of_decide_eq_true hc | with_reducible replace hc := bn_T hc | with_reducible replace hc := bb_T hc | skip
      have hkd : k < c.dq.length := by omega
      obtain ⟨u, h1, h2⟩ := hC.dq.at_ hkd
      have hgd : c.dq.getD k [] = c.dq[k] := getLD hkd
      refine WT_skip ?_
      refine WT_seq ?_
      refine WT_block ?_
      refine WT_seq ?_
      refine WT_region ?_
      refine WL_v rfl (ov_move rfl) ?_
      refine WL_v rfl (ov_index rfl rfl st_sl_sl_int hC.dq.sl hkd) ?_
      refine WL_v rfl (ov_load rfl one_sl_int (h2 hH.drop)) ?_
      refine WL_v rfl (ov_assign rfl) ?_
      refine WL_v rfl (ov_assign rfl) ?_
      refine WL_nil ?_
      refine WT_seq ?_
      refine WT_region ?_
      refine WL_v rfl (ov_move rfl) ?_
      refine WL_v rfl (ov_move rfl) ?_
      refine WL_call rfl rfl cf_slices_Contains_sl_int_int (contains_ok hH h1.up a) ?_; rintro _ w4 ⟨rfl, hH4⟩
      refine WL_nil ?_
      refine WT_cond rfl (fun hm => ?_) (fun hm => ?_)
      · skip
        first | with_reducible replace hm := of_decide_eq_true hm | with_reducible replace hm := bn_T hm | with_reducible replace hm := bb_T hm | skip
        have hm' : a ∈ c.dq.getD k [] := by rw [hgd]; exact hm
        refine WT_seq ?_
        refine WT_region ?_
        refine WL_v rfl (ov_move rfl) ?_
        refine WL_v rfl (ov_assign rfl) ?_
        refine WL_nil ?_
        exact WT_ret1 Tryz.func31 Tryz.results31 rfl ⟨congrArg (Value.int .i64) (lastW_at hm' hkd fun w hw1 hw2 hw3 => by have := flat_once hnd hm' hw3; omega).symm, hH4.drop⟩
      first | with_reducible replace hm := of_decide_eq_false hm | with_reducible replace hm := bn_F hm | with_reducible replace hm := bb_F hm | skip
      refine WT_skip ?_
      refine WT_inBlock ?_
      refine WT_region ?_
      refine WL_v rfl (ov_add rfl rfl (by omega)) ?_
      refine WL_v rfl (ov_move rfl) ?_
      refine WL_nil ?_
      refine again (k + 1) _ _ (by omega) (by repeat (first | exact trivial | refine ⟨rfl, ?_⟩)) ⟨by omega, fun j hj => ?_, hH4⟩
      rcases Nat.lt_or_ge j k with h3 | h3
      · exact hall j h3
      · obtain rfl : j = k := by omega
        rw [hgd]; exact hm
    first | with_reducible replace hc := of_decide_eq_false hc | with_reducible replace hc := bn_F hc | with_reducible replace hc := bb_F hc | skip
    obtain rfl : k = c.dq.length := by omega
    refine WT_exit rfl ?_
    refine WT_seq ?_
    refine WT_region ?_
    refine WL_v rfl (ov_assign rfl) ?_
    refine WL_nil ?_
    exact WT_ret1 Tryz.func31 Tryz.results31 rfl ⟨congrArg (Value.int .i64) (lastW_no hall).symm, hH.drop⟩
  · skip
    rw [crewAt, if_neg hv]
    have hv' : crewOk p c = false := by simpa using hv
    rw [hv'] at hcv
    refine WL_v rfl (ov_loadN [.slice A2 c.dq.length c2, .slice A3 c.ct.length c3, .slice A4 c.dn.length c4, .slice A5 c.rw.length c5] rfl agg_impl_Crew rfl ((loadCrew (i := 0) rfl hH1))) ?_
    refine WL_call rfl rfl cf_impl_CrewValid (hcv hH1) ?_; rintro _ w2 ⟨rfl, hH2⟩
    refine WL_v rfl (ov_not rfl) ?_
    refine WL_nil ?_
    refine WT_condT rfl ?_
    refine WT_seq ?_
    refine WT_region ?_
    refine WL_v rfl (ov_assign rfl) ?_
    refine WL_nil ?_
    exact WT_ret1 Tryz.func31 Tryz.results31 rfl ⟨rfl, hH2.drop⟩

theorem isWorker_ok (hH : H w h Ls) {dv cv nv rv : Value} {c : Cr} (hC : RdCr h Ls dv cv nv rv c) (a : Int) : Rets Tryz.prog 37 #[crV dv cv nv rv, .int .i64 a] w fun v w' => v = .bool (decide (0 ≤ a ∧ a < (c.dq.length : Int))) ∧ H w' h Ls := by
  obtain ⟨A2, c2, rfl, _⟩ := hC.dq.sl.form
  obtain ⟨A3, c3, rfl, _⟩ := hC.ct.sl.form
  obtain ⟨A4, c4, rfl, _⟩ := hC.dn.sl.form
  obtain ⟨A5, c5, rfl, _⟩ := hC.rw.sl.form
  refine rets_enter Tryz.func37 rfl Tryz.ntmps37 (by simp) ?_
  by_cases h0 : 0 ≤ a
  · skip
    refine WT_seq ?_
    refine WT_region ?_
    refine WL_box _ rfl hH rfl rfl ?_; rintro b w1 hH1; replace hH1 : H w1 h (crbox b (.slice A2 c.dq.length c2) (.slice A3 c.ct.length c3) (.slice A4 c.dn.length c4) (.slice A5 c.rw.length c5) :: Ls) := hH1
    refine WL_v rfl (ov_assign rfl) ?_
    refine WL_nil ?_
    refine WT_seq ?_
    refine WT_region ?_
    refine WL_v rfl (ov_move rfl) ?_
    refine WL_v rfl (ov_T (ov_geq rfl rfl) (by first | exact decide_eq_true h0 | exact nb_T h0 | exact mb_T h0 | exact h0 | (simp only [decide_eq_true_eq]; omega) | simpa using h0)) ?_
    refine WL_v rfl (ov_move rfl) ?_
    refine WL_guardOn rfl rfl ?_
    refine WL_v rfl (ov_move rfl) ?_
    refine WL_guardOn rfl rfl ?_
    refine WL_v rfl (ov_field rfl fo_impl_Crew_0) ?_
    refine WL_guardOn rfl rfl ?_
    refine WL_v rfl (ov_load rfl one_sl_sl_int (hH1.cb 0 rfl 0)) ?_
    refine WL_guardOn rfl rfl ?_
    refine WL_v rfl (ov_len rfl hC.dq.sl st_sl_sl_int) ?_
    refine WL_guardOn rfl rfl ?_
    refine WL_v rfl (ov_lss rfl rfl) ?_
    refine WL_v rfl (ov_pickT rfl rfl) ?_
    refine WL_v rfl (ov_assign rfl) ?_
    refine WL_nil ?_
    exact WT_ret1 Tryz.func37 Tryz.results37 rfl ⟨congrArg Value.bool (decide_eq_decide.2 (by omega)), hH1.drop⟩
  · skip
    refine WT_seq ?_
    refine WT_region ?_
    refine WL_box _ rfl hH rfl rfl ?_; rintro b w1 hH1; replace hH1 : H w1 h (crbox b (.slice A2 c.dq.length c2) (.slice A3 c.ct.length c3) (.slice A4 c.dn.length c4) (.slice A5 c.rw.length c5) :: Ls) := hH1
    refine WL_v rfl (ov_assign rfl) ?_
    refine WL_nil ?_
    refine WT_seq ?_
    refine WT_region ?_
    refine WL_v rfl (ov_move rfl) ?_
    refine WL_v rfl (ov_F (ov_geq rfl rfl) (by first | exact decide_eq_false h0 | exact nb_F h0 | exact mb_F h0 | exact h0 | (simp only [decide_eq_false_iff_not]; omega) | simpa using h0)) ?_
    refine WL_v rfl (ov_move rfl) ?_
    refine WL_guardOff rfl rfl rfl rfl ?_
    refine WL_guardOff rfl rfl rfl rfl ?_
    refine WL_guardOff rfl rfl rfl rfl ?_
    refine WL_guardOff rfl rfl rfl rfl ?_
    refine WL_guardOff rfl rfl rfl rfl ?_
    refine WL_v rfl (ov_pickF rfl rfl) ?_
    refine WL_v rfl (ov_assign rfl) ?_
    refine WL_nil ?_
    exact WT_ret1 Tryz.func37 Tryz.results37 rfl ⟨congrArg Value.bool (decide_eq_false (fun hh => h0 hh.1)).symm, hH1.drop⟩

theorem turnFrom_ok (hH : H w h Ls) {pv dv cv nv rv : Value} {p : List Nd} {c : Cr} (hP : Plan h pv p) (hl : CrLim c) (hC : RdCr h Ls dv cv nv rv c) (wk : Int) : Rets Tryz.prog 33 #[pv, crV dv cv nv rv, .int .i64 wk] w fun v w' => v = .int .i64 (crewFrom p c wk) ∧ H w' h Ls := by
  have hlq := hl.dq
  have hscv := fun {w : World} {X : Heaplet} (hH : H w h (X :: Ls)) => crewValid_ok hH hP hl hC.up
  have hli := fun {w : World} {X : Heaplet} (hH : H w h (X :: Ls)) => isWorker_ok hH hC.up wk
  obtain ⟨A2, c2, rfl, _⟩ := hC.dq.sl.form
  obtain ⟨A3, c3, rfl, _⟩ := hC.ct.sl.form
  obtain ⟨A4, c4, rfl, _⟩ := hC.dn.sl.form
  obtain ⟨A5, c5, rfl, _⟩ := hC.rw.sl.form
  refine rets_enter Tryz.func33 rfl Tryz.ntmps33 (by simp) ?_
  refine WT_seq ?_
  refine WT_region ?_
  refine WL_box _ rfl hH rfl rfl ?_; rintro b w1 hH1; replace hH1 : H w1 h (crbox b (.slice A2 c.dq.length c2) (.slice A3 c.ct.length c3) (.slice A4 c.dn.length c4) (.slice A5 c.rw.length c5) :: Ls) := hH1
  refine WL_v rfl (ov_assign rfl) ?_
  refine WL_nil ?_
  refine WT_seq ?_
  refine WT_seq ?_
  refine WT_region ?_
  refine WL_v rfl (ov_move rfl) ?_
  by_cases hv : crewOk p c = true
  · skip
    rw [hv] at hscv
    by_cases hw : 0 ≤ wk ∧ wk < (c.dq.length : Int)
    · skip
      rw [decide_eq_true hw] at hli
      obtain ⟨m, hm⟩ := Int.eq_ofNat_of_zero_le hw.1
      rw [crewFrom, if_pos ⟨hv, hw⟩]
      subst hm
      rw [Int.toNat_natCast]
      have hq := ((crewOk_iff p c).1 hv).dq
      refine WL_v rfl (ov_loadN [.slice A2 c.dq.length c2, .slice A3 c.ct.length c3, .slice A4 c.dn.length c4, .slice A5 c.rw.length c5] rfl agg_impl_Crew rfl ((loadCrew (i := 0) rfl hH1))) ?_
      refine WL_call rfl rfl cf_impl_CrewValid (hscv hH1) ?_; rintro _ w2 ⟨rfl, hH2⟩
      refine WL_v rfl (ov_not rfl) ?_
      refine WL_v rfl (ov_move rfl) ?_
      refine WL_guardOn rfl rfl ?_
      refine WL_v rfl (ov_loadN [.slice A2 c.dq.length c2, .slice A3 c.ct.length c3, .slice A4 c.dn.length c4, .slice A5 c.rw.length c5] rfl agg_impl_Crew rfl ((loadCrew (i := 0) rfl hH2))) ?_
      refine WL_guardOn rfl rfl ?_
      refine WL_v rfl (ov_move rfl) ?_
      refine WL_guardOn rfl rfl ?_
      refine WL_call rfl rfl cf_impl_isWorker (hli hH2) ?_; rintro _ w3 ⟨rfl, hH3⟩
      refine WL_guardOn rfl rfl ?_
      refine WL_v rfl (ov_not rfl) ?_
      refine WL_v rfl (ov_pickF rfl rfl) ?_
      refine WL_nil ?_
      refine WT_condF rfl ?_
      refine WT_skip ?_
      refine WT_seq ?_
      refine WT_seq ?_
      refine WT_region ?_
      refine WL_v rfl (ov_field rfl fo_impl_Crew_0) ?_
      refine WL_v rfl (ov_load rfl one_sl_sl_int (hH3.cb 0 rfl 0)) ?_
      refine WL_v rfl (ov_len rfl hC.dq.sl st_sl_sl_int) ?_
      refine WL_v rfl (ov_move rfl) ?_
      refine WL_nil ?_
      refine WT_block ?_
      refine WT_while (fun s : Nat => [(2, .int .i64 (m : Int)), (4, ptr b), (21, .int .i64 (c.dq.length : Int)), (22, .int .i64 (s : Int))]) (fun s w => s ≤ c.dq.length ∧ (∀ j, j < s → c.dq.getD ((m + j) % c.dq.length) [] = []) ∧ H w h (crbox b (.slice A2 c.dq.length c2) (.slice A3 c.ct.length c3) (.slice A4 c.dn.length c4) (.slice A5 c.rw.length c5) :: Ls)) (fun s => c.dq.length - s) 0 (by repeat (first | exact trivial | refine ⟨rfl, ?_⟩)) ⟨by omega, by omega, hH3⟩ ?_
      clear hH hH1 hH2 hH3
      rintro k w6 ⟨hk, hall, hH⟩ again
      refine WT_seq ?_
      refine WT_region ?_
      refine WL_v rfl (ov_lss rfl rfl) ?_
      refine WL_nil ?_
      refine WT_seq ?_
      refine WT_cond rfl (fun hc => ?_) (fun hc => ?_)
      · skip
        first | with_reducible replace hc := of_decide_eq_true hc | with_reducible replace hc := bn_T hc | with_reducible replace hc := bb_T hc | skip
        have hkd : k < c.dq.length := by omega
        have hmm : (m + k) % c.dq.length < c.dq.length := Nat.mod_lt _ (by omega)
        have hmod : ((m : Nat) : Int) + ((k : Nat) : Int) = ((m + k : Nat) : Int) := by omega
        have hmod2 : ((m + k : Nat) : Int) % ((c.dq.length : Nat) : Int) = (((m + k) % c.dq.length : Nat) : Int) := (Int.natCast_emod _ _).symm
        obtain ⟨u, h1, h2⟩ := hC.dq.at_ hmm
        have hgd : c.dq.getD ((m + k) % c.dq.length) [] = c.dq[(m + k) % c.dq.length] := getLD hmm
        have hsl := h1.sl.lim
        refine WT_skip ?_
        refine WT_seq ?_
        refine WT_block ?_
        refine WT_seq ?_
        refine WT_region ?_
        refine WL_v rfl (ov_move rfl) ?_
        refine WL_v rfl (ov_assign rfl) ?_
        refine WL_nil ?_
        refine WT_seq ?_
        refine WT_region ?_
        refine WL_v rfl (ov_move rfl) ?_
        refine WL_v rfl (ov_move rfl) ?_
        refine WL_v rfl (ov_as (ov_add rfl rfl (by omega)) (congrArg (Value.int .i64) (hmod))) ?_
        refine WL_v rfl (ov_field rfl fo_impl_Crew_0) ?_
        refine WL_v rfl (ov_load rfl one_sl_sl_int (hH.cb 0 rfl 0)) ?_
        refine WL_v rfl (ov_len rfl hC.dq.sl st_sl_sl_int) ?_
        refine WL_v rfl (ov_as (ov_rem rfl rfl (by omega) (by omega)) (congrArg (Value.int .i64) hmod2)) ?_
        refine WL_v rfl (ov_assign rfl) ?_
        refine WL_nil ?_
        refine WT_seq ?_
        refine WT_region ?_
        refine WL_v rfl (ov_field rfl fo_impl_Crew_0) ?_
        refine WL_v rfl (ov_load rfl one_sl_sl_int (hH.cb 0 rfl 0)) ?_
        refine WL_v rfl (ov_move rfl) ?_
        refine WL_v rfl (ov_index rfl rfl st_sl_sl_int hC.dq.sl hmm) ?_
        refine WL_v rfl (ov_load rfl one_sl_int (h2 hH.drop)) ?_
        refine WL_v rfl (ov_len rfl h1.sl st_sl_int) ?_
        refine WL_v rfl (ov_neq rfl rfl) ?_
        refine WL_nil ?_
        refine WT_cond rfl (fun hne => ?_) (fun hne => ?_)
        · skip
          first | with_reducible replace hne := of_decide_eq_true hne | with_reducible replace hne := bn_T hne | with_reducible replace hne := bb_T hne | skip
          refine WT_seq ?_
          refine WT_region ?_
          refine WL_v rfl (ov_move rfl) ?_
          refine WL_v rfl (ov_assign rfl) ?_
          refine WL_nil ?_
          exact WT_ret1 Tryz.func33 Tryz.results33 rfl ⟨congrArg (Value.int .i64) (fromW_at hkd (by rw [hgd]; intro hh; rw [hh] at hne; simp at hne) hall).symm, hH.drop⟩
        first | with_reducible replace hne := of_decide_eq_false hne | with_reducible replace hne := bn_F hne | with_reducible replace hne := bb_F hne | skip
        refine WT_skip ?_
        refine WT_inBlock ?_
        refine WT_region ?_
        refine WL_v rfl (ov_add rfl rfl (by omega)) ?_
        refine WL_v rfl (ov_move rfl) ?_
        refine WL_nil ?_
        refine again (k + 1) _ _ (by omega) (by repeat (first | exact trivial | refine ⟨rfl, ?_⟩)) ⟨by omega, fun j hj => ?_, hH⟩
        rcases Nat.lt_or_ge j k with h3 | h3
        · exact hall j h3
        · obtain rfl : j = k := by omega
          rw [hgd]
          exact List.eq_nil_of_length_eq_zero (by omega)
      first | with_reducible replace hc := of_decide_eq_false hc | with_reducible replace hc := bn_F hc | with_reducible replace hc := bb_F hc | skip
      obtain rfl : k = c.dq.length := by omega
      refine WT_exit rfl ?_
      refine WT_seq ?_
      refine WT_region ?_
      refine WL_v rfl (ov_assign rfl) ?_
      refine WL_nil ?_
      exact WT_ret1 Tryz.func33 Tryz.results33 rfl ⟨congrArg (Value.int .i64) (fromW_none hall).symm, hH.drop⟩
    · skip
      rw [crewFrom, if_neg (fun hh => hw hh.2)]
      rw [decide_eq_false hw] at hli
      refine WL_v rfl (ov_loadN [.slice A2 c.dq.length c2, .slice A3 c.ct.length c3, .slice A4 c.dn.length c4, .slice A5 c.rw.length c5] rfl agg_impl_Crew rfl ((loadCrew (i := 0) rfl hH1))) ?_
      refine WL_call rfl rfl cf_impl_CrewValid (hscv hH1) ?_; rintro _ w2 ⟨rfl, hH2⟩
      refine WL_v rfl (ov_not rfl) ?_
      refine WL_v rfl (ov_move rfl) ?_
      refine WL_guardOn rfl rfl ?_
      refine WL_v rfl (ov_loadN [.slice A2 c.dq.length c2, .slice A3 c.ct.length c3, .slice A4 c.dn.length c4, .slice A5 c.rw.length c5] rfl agg_impl_Crew rfl ((loadCrew (i := 0) rfl hH2))) ?_
      refine WL_guardOn rfl rfl ?_
      refine WL_v rfl (ov_move rfl) ?_
      refine WL_guardOn rfl rfl ?_
      refine WL_call rfl rfl cf_impl_isWorker (hli hH2) ?_; rintro _ w3 ⟨rfl, hH3⟩
      refine WL_guardOn rfl rfl ?_
      refine WL_v rfl (ov_not rfl) ?_
      refine WL_v rfl (ov_pickF rfl rfl) ?_
      refine WL_nil ?_
      refine WT_condT rfl ?_
      refine WT_seq ?_
      refine WT_region ?_
      refine WL_v rfl (ov_assign rfl) ?_
      refine WL_nil ?_
      exact WT_ret1 Tryz.func33 Tryz.results33 rfl ⟨rfl, hH3.drop⟩
  · skip
    rw [crewFrom, if_neg (fun hh => hv hh.1)]
    have hv' : crewOk p c = false := by simpa using hv
    rw [hv'] at hscv
    refine WL_v rfl (ov_loadN [.slice A2 c.dq.length c2, .slice A3 c.ct.length c3, .slice A4 c.dn.length c4, .slice A5 c.rw.length c5] rfl agg_impl_Crew rfl ((loadCrew (i := 0) rfl hH1))) ?_
    refine WL_call rfl rfl cf_impl_CrewValid (hscv hH1) ?_; rintro _ w2 ⟨rfl, hH2⟩
    refine WL_v rfl (ov_not rfl) ?_
    refine WL_v rfl (ov_move rfl) ?_
    refine WL_guardOff rfl rfl rfl rfl ?_
    refine WL_guardOff rfl rfl rfl rfl ?_
    refine WL_guardOff rfl rfl rfl rfl ?_
    refine WL_guardOff rfl rfl rfl rfl ?_
    refine WL_v rfl (ov_pickT rfl rfl) ?_
    refine WL_nil ?_
    refine WT_condT rfl ?_
    refine WT_seq ?_
    refine WT_region ?_
    refine WL_v rfl (ov_assign rfl) ?_
    refine WL_nil ?_
    exact WT_ret1 Tryz.func33 Tryz.results33 rfl ⟨rfl, hH2.drop⟩
end
end Go.Proofs.YteagnhdhafiofaaGreat

/- Walks: lists of lists compared, marked, read again by the laws. -/
namespace Go.Proofs.YteagnhdhafiofaaGreat
open Go.RowKit

/-- How many numbers lists have together. -/
def sumLen : List (List Int) → Nat
  | [] => 0
  | l :: r => l.length + sumLen r
theorem sumLen_snoc : ∀ (ls : List (List Int)) (l : List Int), sumLen (ls ++ [l]) = sumLen ls + l.length
  | [], l => by simp [sumLen]
  | x :: ls, l => by simp only [List.cons_append, sumLen]; rw [sumLen_snoc ls l]; omega
theorem sumLen_take {ls : List (List Int)} {k : Nat} (h : k < ls.length) : sumLen (ls.take (k + 1)) = sumLen (ls.take k) + ls[k].length := by
  rw [List.take_succ_eq_append_getElem h, sumLen_snoc]
theorem sumLen_take_le : ∀ (ls : List (List Int)) (k : Nat), sumLen (ls.take k) ≤ sumLen ls
  | [], k => by simp [sumLen]
  | l :: r, 0 => by simp [sumLen]
  | l :: r, k + 1 => by simp only [List.take_succ_cons, sumLen]; have := sumLen_take_le r k; omega
theorem sumLen_get {ls : List (List Int)} {k : Nat} (h : k < ls.length) : ls[k].length ≤ sumLen ls := by
  have := sumLen_take h
  have := sumLen_take_le ls (k + 1)
  omega
/-- Numbers from one on, list by list. -/
def markLL (k : Int) (ls : List (List Int)) : List (List Int) := (List.range ls.length).map fun i => marks (k + (sumLen (ls.take i) : Int)) (ls.getD i []).length
theorem markLL_len (k : Int) (ls : List (List Int)) : (markLL k ls).length = ls.length := by simp [markLL]
theorem getD_lst {ls : List (List Int)} {i : Nat} (h : i < ls.length) : ls.getD i [] = ls[i] := by simp [List.getD_eq_getElem?_getD, List.getElem?_eq_getElem h]
theorem markLL_get {k : Int} {ls : List (List Int)} {i : Nat} (h : i < (markLL k ls).length) (h2 : i < ls.length) : (markLL k ls)[i] = marks (k + (sumLen (ls.take i) : Int)) ls[i].length := by
  simp only [markLL, List.getElem_map, List.getElem_range]
  rw [getD_lst h2]

section
variable {h : GH} {Ls : List Heaplet} {w : World}

theorem eqIntSS_ok (hH : H w h Ls) {av bv : Value} {xs ys : List (List Int)} (hA : RdLL h Ls av xs) (hB : RdLL h Ls bv ys) : Rets Tryz.prog 55 #[av, bv] w fun v w' => v = .bool (decide (xs = ys)) ∧ H w' h Ls := by
  have hal := hA.sl.lim
  refine rets_enter Tryz.func55 rfl Tryz.ntmps55 (by simp) ?_
  refine WT_seq ?_
  refine WT_region ?_
  refine WL_v rfl (ov_assign rfl) ?_
  refine WL_nil ?_
  refine WT_seq ?_
  refine WT_seq ?_
  refine WT_region ?_
  refine WL_v rfl (ov_move rfl) ?_
  refine WL_v rfl (ov_len rfl hA.sl st_sl_sl_int) ?_
  refine WL_v rfl (ov_move rfl) ?_
  refine WL_v rfl (ov_len rfl hB.sl st_sl_sl_int) ?_
  refine WL_v rfl (ov_neq rfl rfl) ?_
  refine WL_nil ?_
  refine WT_cond rfl (fun hne => ?_) (fun hne => ?_)
  · skip
    first | with_reducible replace hne := of_decide_eq_true hne | with_reducible replace hne := bn_T hne | with_reducible replace hne := bb_T hne | skip
    refine WT_seq ?_
    refine WT_region ?_
    refine WL_v rfl (ov_assign rfl) ?_
    refine WL_nil ?_
    exact WT_ret1 Tryz.func55 Tryz.results55 rfl ⟨congrArg Value.bool (decide_eq_false fun h => by subst h; exact hne rfl).symm, hH⟩
  first | with_reducible replace hne := of_decide_eq_false hne | with_reducible replace hne := bn_F hne | with_reducible replace hne := bb_F hne | skip
  have hlen : xs.length = ys.length := by omega
  refine WT_skip ?_
  refine WT_seq ?_
  refine WT_seq ?_
  refine WT_region ?_
  refine WL_v rfl (ov_assign rfl) ?_
  refine WL_nil ?_
  refine WT_block ?_
  refine WT_while (fun s : Nat => [(0, av), (1, bv), (5, .int .i64 (s : Int))]) (fun k w => k ≤ xs.length ∧ (∀ j (_ : j < k) (h1 : j < xs.length) (h2 : j < ys.length), xs[j] = ys[j]) ∧ H w h Ls) (fun k => xs.length - k) 0 (by repeat (first | exact trivial | refine ⟨rfl, ?_⟩)) ⟨by omega, by omega, hH⟩ ?_
  clear hH
  rintro k w2 ⟨hk, hall, hH1⟩ again
  refine WT_seq ?_
  refine WT_seq ?_
  refine WT_region ?_
  refine WL_v rfl (ov_move rfl) ?_
  refine WL_v rfl (ov_move rfl) ?_
  refine WL_v rfl (ov_len rfl hA.sl st_sl_sl_int) ?_
  refine WL_v rfl (ov_lss rfl rfl) ?_
  refine WL_nil ?_
  refine WT_cond rfl (fun hc => ?_) (fun hc => ?_)
  · skip
    first | with_reducible replace hc := of_decide_eq_true hc | with_reducible replace hc := bn_T hc | with_reducible replace hc := bb_T hc | skip
    have hkx : k < xs.length := by omega
    have hky : k < ys.length := by omega
    obtain ⟨u1, g1, c1⟩ := hA.at_ hkx
    obtain ⟨u2, g2, c2⟩ := hB.at_ hky
    refine WT_skip ?_
    refine WT_seq ?_
    refine WT_block ?_
    refine WT_seq ?_
    refine WT_quiet mixed (by kernel_rfl) hH1 ?_
    clear hH1
    refine WQ_v rfl (fun _ _ => ov_move rfl) ?_
    refine WQ_v rfl (fun _ _ => ov_move rfl) ?_
    refine WQ_v rfl (fun _ _ => ov_index rfl rfl st_sl_sl_int hA.sl hkx) ?_
    refine WQ_v rfl (fun _ hH => ov_load rfl one_sl_int (c1 hH)) ?_
    refine WQ_v rfl (fun _ _ => ov_move rfl) ?_
    refine WQ_v rfl (fun _ _ => ov_move rfl) ?_
    refine WQ_v rfl (fun _ _ => ov_index rfl rfl st_sl_sl_int hB.sl hky) ?_
    refine WQ_v rfl (fun _ hH => ov_load rfl one_sl_int (c2 hH)) ?_
    refine WQ_call rfl rfl cf_laws_eqIntS (fun _ hH => eqIntS_ok hH g1 g2) ?_
    refine WQ_v rfl (fun _ _ => ov_not rfl) ?_
    refine WQ_nil ?_
    intro w3 hH1
    refine WT_cond rfl (fun hne => ?_) (fun hne => ?_)
    · skip
      first | with_reducible replace hne := of_decide_eq_true hne | with_reducible replace hne := bn_T hne | with_reducible replace hne := bb_T hne | skip
      refine WT_seq ?_
      refine WT_region ?_
      refine WL_v rfl (ov_assign rfl) ?_
      refine WL_nil ?_
      exact WT_ret1 Tryz.func55 Tryz.results55 rfl ⟨congrArg Value.bool (decide_eq_false fun h => by subst h; simp at hne).symm, hH1⟩
    first | with_reducible replace hne := of_decide_eq_false hne | with_reducible replace hne := bn_F hne | with_reducible replace hne := bb_F hne | skip
    refine WT_skip ?_
    refine WT_inBlock ?_
    refine WT_region ?_
    refine WL_v rfl (ov_move rfl) ?_
    refine WL_v rfl (ov_add rfl rfl (by omega)) ?_
    refine WL_v rfl (ov_assign rfl) ?_
    refine WL_nil ?_
    refine again (k + 1) _ _ (by omega) (by repeat (first | exact trivial | refine ⟨rfl, ?_⟩)) ⟨by omega, fun j hj h1 h2 => ?_, hH1⟩
    rcases Nat.lt_or_ge j k with h3 | h3
    · exact hall j h3 h1 h2
    · obtain rfl : j = k := by omega
      simpa using hne
  first | with_reducible replace hc := of_decide_eq_false hc | with_reducible replace hc := bn_F hc | with_reducible replace hc := bb_F hc | skip
  obtain rfl : k = xs.length := by omega
  refine WT_exit rfl ?_
  refine WT_seq ?_
  refine WT_region ?_
  refine WL_v rfl (ov_assign rfl) ?_
  refine WL_nil ?_
  exact WT_ret1 Tryz.func55 Tryz.results55 rfl ⟨congrArg Value.bool (decide_eq_true (List.ext_getElem hlen fun j h1 h2 => hall j h1 h1 h2)).symm, hH1⟩

theorem markIntSS_ok {O : Heaplet} {Is : List Heaplet} {v : Value} {ls : List (List Int)} (hO : OLists O Is v ls) (hH : H w h (O :: (Is ++ Ls))) {k : Int} (hk : 0 ≤ k ∧ k ≤ 1000000000000000) (hs : sumLen ls ≤ 1000000000) :
    Rets Tryz.prog 59 #[v, .int .i64 k] w fun u w' => u = .int .i64 (k + sumLen ls) ∧ ∃ Is', OLists O Is' v (markLL k ls) ∧ H w' h (O :: (Is' ++ Ls)) := by
  have hsl := hO.sl
  have hlim := hsl.lim
  refine rets_enter Tryz.func59 rfl Tryz.ntmps59 (by simp) ?_
  refine WT_seq ?_
  refine WT_region ?_
  refine WL_v rfl (ov_assign rfl) ?_
  refine WL_nil ?_
  refine WT_seq ?_
  refine WT_seq ?_
  refine WT_region ?_
  refine WL_v rfl (ov_assign rfl) ?_
  refine WL_nil ?_
  refine WT_block ?_
  refine WT_while (fun s : Nat => [(0, v), (1, .int .i64 (k + (sumLen (ls.take s) : Int))), (5, .int .i64 (s : Int))]) (fun s w => s ≤ ls.length ∧ ∃ Is', OLists O Is' v ((markLL k ls).take s ++ ls.drop s) ∧ H w h (O :: (Is' ++ Ls))) (fun s => ls.length - s) 0 ⟨rfl, by rw [show k + ((sumLen (ls.take 0) : Nat) : Int) = k by simp [sumLen]]; rfl, rfl, trivial⟩ ⟨by omega, Is, by simpa using hO, hH⟩ ?_
  clear hH hO
  rintro s w1 ⟨hs1, Is1, hO, hH⟩ again
  refine WT_seq ?_
  refine WT_seq ?_
  refine WT_region ?_
  refine WL_v rfl (ov_move rfl) ?_
  refine WL_v rfl (ov_move rfl) ?_
  refine WL_v rfl (ov_len rfl hsl st_sl_sl_int) ?_
  refine WL_v rfl (ov_lss rfl rfl) ?_
  refine WL_nil ?_
  refine WT_cond rfl (fun hc => ?_) (fun hc => ?_)
  · skip
    first | with_reducible replace hc := of_decide_eq_true hc | with_reducible replace hc := bn_T hc | with_reducible replace hc := bb_T hc | skip
    have hsx : s < ls.length := by omega
    have hml := markLL_len k ls
    have htl : ((markLL k ls).take s).length = s := by rw [List.length_take]; omega
    have hcl : s < ((markLL k ls).take s ++ ls.drop s).length := by rw [List.length_append, htl, List.length_drop]; omega
    have hgs : ((markLL k ls).take s ++ ls.drop s)[s] = ls[s] := by
      rw [List.getElem_append_right (by omega)]
      simp [htl]
    obtain ⟨hil, xs, hR, hat⟩ := hO
    obtain ⟨u, F, g1, g2, g3⟩ := hat s hcl
    rw [hgs] at g3
    have hstk := sumLen_take hsx
    have hsle := sumLen_take_le ls (s + 1)
    have hFi : (O :: (Is1 ++ Ls))[s + 1]? = some F := by rw [List.getElem?_cons_succ, List.getElem?_append_left (List.getElem?_eq_some_iff.1 g2).1]; exact g2
    have hmk := markIntS_ok hH hFi g3 (k := k + (sumLen (ls.take s) : Int)) (by omega) (by omega)
    have hxs : xs.set s u = xs := by
      apply List.ext_getElem?
      intro j
      rw [List.getElem?_set]
      split
      · rename_i hij; subst hij; rw [g1, if_pos (List.getElem?_eq_some_iff.1 g1).1]
      · rfl
    refine WT_skip ?_
    refine WT_seq ?_
    refine WT_block ?_
    refine WT_region ?_
    refine WL_v rfl (ov_move rfl) ?_
    refine WL_v rfl (ov_move rfl) ?_
    refine WL_v rfl (ov_index rfl rfl st_sl_sl_int hsl hsx) ?_
    refine WL_v rfl (ov_load rfl one_sl_int (by rw [Nat.mul_one]; exact hR.cell hH (i := 0) rfl g1)) ?_
    refine WL_v rfl (ov_move rfl) ?_
    refine WL_call rfl rfl cf_laws_markIntS (hmk) ?_; rintro _ w2 ⟨rfl, F2, hF2, hH2⟩
    refine WL_v rfl (ov_assign rfl) ?_
    refine WL_nil ?_
    refine WT_inBlock ?_
    refine WT_region ?_
    refine WL_v rfl (ov_move rfl) ?_
    refine WL_v rfl (ov_add rfl rfl (by omega)) ?_
    refine WL_v rfl (ov_assign rfl) ?_
    refine WL_nil ?_
    have hH3 : H w2 h (O :: (Is1.set s F2 ++ Ls)) := by
      rw [List.set_cons_succ, List.set_append_left _ _ (List.getElem?_eq_some_iff.1 g2).1] at hH2
      exact hH2
    have hset := OLists.set (O' := O) (v := v) (k := s) (u := u) hcl hil (by have := hR.len; rw [Nat.mul_one] at this; exact this) hat (by rw [hxs]; exact hR) hF2
    have he : ((markLL k ls).take s ++ ls.drop s).set s (marks (k + (sumLen (ls.take s) : Int)) ls[s].length) = (markLL k ls).take (s + 1) ++ ls.drop (s + 1) := by
      rw [List.take_succ_eq_append_getElem (by omega), markLL_get (by omega) hsx, List.drop_eq_getElem_cons hsx, List.set_append_right _ _ (by omega), htl, Nat.sub_self, List.set_cons_zero, List.append_assoc]; rfl
    rw [he] at hset
    refine again (s + 1) _ _ (by omega) ⟨rfl, by rw [hstk, show k + ((sumLen (ls.take s) + ls[s].length : Nat) : Int) = k + (sumLen (ls.take s) : Int) + (ls[s].length : Int) by omega]; rfl, rfl, trivial⟩ ⟨by omega, _, hset, hH3⟩
  first | with_reducible replace hc := of_decide_eq_false hc | with_reducible replace hc := bn_F hc | with_reducible replace hc := bb_F hc | skip
  obtain rfl : s = ls.length := by omega
  rw [List.take_of_length_le (by rw [markLL_len]; omega), List.drop_eq_nil_of_le (by omega), List.append_nil] at hO
  refine WT_exit rfl ?_
  refine WT_seq ?_
  refine WT_region ?_
  refine WL_v rfl (ov_move rfl) ?_
  refine WL_v rfl (ov_assign rfl) ?_
  refine WL_nil ?_
  exact WT_ret1 Tryz.func59 Tryz.results59 rfl ⟨by rw [List.take_length], Is1, hO, hH⟩

theorem heldIntSS_ok {av : Value} {k : Int} {ls : List (List Int)} (hH : H w h Ls) (hA : RdLL h Ls av (markLL k ls)) (hk : 0 ≤ k ∧ k ≤ 1000000000000000) (hs : sumLen ls ≤ 1000000000) :
    Rets Tryz.prog 60 #[av, .int .i64 k] w fun v w' => v = .int .i64 (k + sumLen ls) ∧ H w' h Ls := by
  have hml := markLL_len k ls
  have hlim := hA.sl.lim
  refine rets_enter Tryz.func60 rfl Tryz.ntmps60 (by simp) ?_
  refine WT_seq ?_
  refine WT_region ?_
  refine WL_v rfl (ov_assign rfl) ?_
  refine WL_nil ?_
  refine WT_seq ?_
  refine WT_seq ?_
  refine WT_region ?_
  refine WL_v rfl (ov_assign rfl) ?_
  refine WL_nil ?_
  refine WT_block ?_
  refine WT_while (fun s : Nat => [(0, av), (1, .int .i64 (k + (sumLen (ls.take s) : Int))), (5, .int .i64 (s : Int))]) (fun s w => s ≤ ls.length ∧ H w h Ls) (fun s => ls.length - s) 0 ⟨rfl, by rw [show k + ((sumLen (ls.take 0) : Nat) : Int) = k by simp [sumLen]]; rfl, rfl, trivial⟩ ⟨by omega, hH⟩ ?_
  clear hH
  rintro s w1 ⟨hs1, hH⟩ again
  refine WT_seq ?_
  refine WT_seq ?_
  refine WT_region ?_
  refine WL_v rfl (ov_move rfl) ?_
  refine WL_v rfl (ov_move rfl) ?_
  refine WL_v rfl (ov_len rfl hA.sl st_sl_sl_int) ?_
  refine WL_v rfl (ov_lss rfl rfl) ?_
  refine WL_nil ?_
  refine WT_cond rfl (fun hc => ?_) (fun hc => ?_)
  · skip
    first | with_reducible replace hc := of_decide_eq_true hc | with_reducible replace hc := bn_T hc | with_reducible replace hc := bb_T hc | skip
    have hsx : s < ls.length := by omega
    have hsm : s < (markLL k ls).length := by omega
    obtain ⟨u, hu, hcell⟩ := hA.at_ hsm
    rw [markLL_get hsm hsx] at hu
    have hstk := sumLen_take hsx
    have hsle := sumLen_take_le ls (s + 1)
    have hhd := fun (w : World) (hw : H w h Ls) => heldIntS_ok hw hu (by omega) (by omega)
    refine WT_skip ?_
    refine WT_seq ?_
    refine WT_block ?_
    refine WT_seq ?_
    refine WT_region ?_
    refine WL_v rfl (ov_move rfl) ?_
    refine WL_v rfl (ov_move rfl) ?_
    refine WL_v rfl (ov_index rfl rfl st_sl_sl_int hA.sl hsm) ?_
    refine WL_v rfl (ov_load rfl one_sl_int (hcell hH)) ?_
    refine WL_v rfl (ov_move rfl) ?_
    refine WL_call rfl rfl cf_laws_heldIntS (hhd _ hH) ?_; rintro _ w2 ⟨rfl, hH2⟩
    refine WL_v rfl (ov_assign rfl) ?_
    refine WL_nil ?_
    refine WT_seq ?_
    refine WT_region ?_
    refine WL_v rfl (ov_move rfl) ?_
    refine WL_v rfl (ov_F (ov_lss rfl rfl) (decide_eq_false (by omega))) ?_
    refine WL_nil ?_
    refine WT_condF rfl ?_
    refine WT_skip ?_
    refine WT_inBlock ?_
    refine WT_region ?_
    refine WL_v rfl (ov_move rfl) ?_
    refine WL_v rfl (ov_add rfl rfl (by omega)) ?_
    refine WL_v rfl (ov_assign rfl) ?_
    refine WL_nil ?_
    refine again (s + 1) _ _ (by omega) ⟨rfl, by rw [hstk, show k + ((sumLen (ls.take s) + ls[s].length : Nat) : Int) = k + (sumLen (ls.take s) : Int) + (ls[s].length : Int) by omega]; rfl, rfl, trivial⟩ ⟨by omega, hH2⟩
  first | with_reducible replace hc := of_decide_eq_false hc | with_reducible replace hc := bn_F hc | with_reducible replace hc := bb_F hc | skip
  obtain rfl : s = ls.length := by omega
  refine WT_exit rfl ?_
  refine WT_seq ?_
  refine WT_region ?_
  refine WL_v rfl (ov_move rfl) ?_
  refine WL_v rfl (ov_assign rfl) ?_
  refine WL_nil ?_
  exact WT_ret1 Tryz.func60 Tryz.results60 rfl ⟨by rw [List.take_length], hH⟩
end
end Go.Proofs.YteagnhdhafiofaaGreat
