/- Walks: the draws' reader. -/
import Derived.Test.YtmcedghgincaaaaWkA
namespace Go.Proofs.Ytmcedghgincaaaa
open Go.RowKit

/-- The reader of a code: its bytes and how far it is. -/
def rdr (g : Nat) (bv : Value) (p : Nat) : Heaplet := [(g, .cells #[bv, .int .i64 (p : Int)] 111 (0, 0))]

section
variable {h : GH} {Ls : List Heaplet} {w : World}

theorem run_build_rd (a : Option Addr) (n c : Nat) (W : World) : (Instr.build 111 #[(0, .slice a n c)]).run Try.prog W = .ok (.agg #[.slice a n c, .int .i64 0]) W := by kernel_rfl
theorem run_build_rd' {v : Value} {n : Nat} (hv : Sl v n) (W : World) : (Instr.build 111 #[(0, v)]).run Try.prog W = .ok (.agg #[v, .int .i64 0]) W := by
  obtain ⟨A, c, rfl, _⟩ := hv.form
  exact run_build_rd A n c W

theorem l6Open_ok (hH : H w h Ls) {cv : Value} {bs : List Int} (hB : Bytes h cv bs) : Rets Try.prog 62 #[cv] w fun v w' => ∃ g bv bs', v = .pointer (some ⟨g, 0, none⟩) ∧ Bytes h bv bs' ∧ H w' h (rdr g bv 0 :: Ls) := by
  refine rets_enter Try.func62 rfl Try.ntmps62 (by simp) ?_
  refine WT_seq ?_
  refine WT_region ?_
  refine WL_v rfl (ov_assign rfl) ?_
  refine WL_nil ?_
  refine WT_seq ?_
  refine WT_seq ?_
  refine WT_region ?_
  refine WL_v rfl (ov_move rfl) ?_
  refine WL_v rfl (ov_len rfl hB.sl st_sl_uint8) ?_
  refine WL_v rfl (ov_gtr rfl rfl) ?_
  refine WL_nil ?_
  refine WT_join (ι := Value × List Int) (fun s => [(0, s.1)]) (fun s w => Bytes h s.1 s.2 ∧ H w h Ls) (fun joined => ?_) ?_
  · skip
    refine WT_cond rfl (fun hc => ?_) (fun hc => ?_)
    · skip
      first | with_reducible replace hc := of_decide_eq_true hc | with_reducible replace hc := bn_T hc | with_reducible replace hc := bb_T hc | skip
      refine WT_region ?_
      refine WL_v rfl (ov_move rfl) ?_
      refine WL_v rfl (ov_sliceHi rfl rfl st_sl_uint8 (hi := 2000) hB.sl (by omega)) ?_
      refine WL_v rfl (ov_assign rfl) ?_
      refine WL_nil ?_
      exact joined (_, _) _ _ (by repeat (first | exact trivial | refine ⟨rfl, ?_⟩)) ⟨hB.reslice (Nat.zero_le 2000) (by omega), hH⟩
    first | with_reducible replace hc := of_decide_eq_false hc | with_reducible replace hc := bn_F hc | with_reducible replace hc := bb_F hc | skip
    refine WT_skip ?_
    exact joined (cv, bs) _ _ (by repeat (first | exact trivial | refine ⟨rfl, ?_⟩)) ⟨hB, hH⟩
  rintro ⟨bv, bs'⟩ w1 ⟨hB', hH1⟩
  refine WT_seq ?_
  refine WT_region ?_
  refine WL_v rfl (ov_move rfl) ?_
  refine WL_v rfl (ov_build rfl (run_build_rd' hB'.sl)) ?_
  refine WL_box _ rfl hH1 rfl rfl ?_; rintro g w2 hH2
  refine WL_v rfl (ov_assign rfl) ?_
  refine WL_nil ?_
  exact WT_ret1 Try.func62 Try.results62 rfl ⟨g, bv, bs', rfl, hB', hH2⟩

/-- A number that the reader gives. -/
def Picked (n : Int) (r : Nat) : Prop := (1 ≤ n → (r : Int) < n) ∧ (n < 1 → r = 0)
theorem u8wrap {x : Int} (h : 0 ≤ x ∧ x < 256) : IntKind.i64.wrap x = x := wrap_in ⟨by omega, by omega⟩

set_option maxHeartbeats 1000000 in
theorem pick_ok {g : Nat} {bv : Value} {p : Nat} {bs : List Int} (hH : H w h (rdr g bv p :: Ls)) (hB : Bytes h bv bs) (hp : p ≤ 1000000000) (n : Int) :
    Rets Try.prog 91 #[.pointer (some ⟨g, 0, none⟩), .int .i64 n] w fun v w' => ∃ r : Nat, v = .int .i64 (r : Int) ∧ Picked n r ∧ H w' h (rdr g bv (p + 1) :: Ls) := by
  refine rets_enter Try.func91 rfl Try.ntmps91 (by simp) ?_
  by_cases hn : n < 1
  · skip
    refine WT_seq ?_
    refine WT_region ?_
    refine WL_v rfl (ov_assign rfl) ?_
    refine WL_nil ?_
    refine WT_seq ?_
    refine WT_region ?_
    refine WL_v rfl (ov_move rfl) ?_
    refine WL_v rfl (ov_move rfl) ?_
    refine WL_v rfl (ov_nilCheck rfl) ?_
    refine WL_v rfl (ov_field rfl fo_spec_l6Rd_1) ?_
    refine WL_v rfl (ov_load rfl one_int (hH.cb 0 rfl 1)) ?_
    refine WL_v rfl (ov_add rfl rfl (by omega)) ?_
    refine WL_v rfl (ov_nilCheck rfl) ?_
    refine WL_v rfl (ov_field rfl fo_spec_l6Rd_1) ?_
    refine WL_store hH rfl rfl (i := 0) (off := 1) rfl rfl (by simp) rfl sz_int ?_; rintro w1 hH1
    refine WL_nil ?_
    refine WT_seq ?_
    refine WT_seq ?_
    refine WT_region ?_
    refine WL_v rfl (ov_move rfl) ?_
    refine WL_v rfl (ov_T (ov_lss rfl rfl) (by first | exact decide_eq_true hn | exact nb_T hn | exact mb_T hn | exact hn | (simp only [decide_eq_true_eq]; omega) | simpa using hn)) ?_
    refine WL_v rfl (ov_move rfl) ?_
    refine WL_guardOff rfl rfl rfl rfl ?_
    refine WL_guardOff rfl rfl rfl rfl ?_
    refine WL_guardOff rfl rfl rfl rfl ?_
    refine WL_guardOff rfl rfl rfl rfl ?_
    refine WL_guardOff rfl rfl rfl rfl ?_
    refine WL_guardOff rfl rfl rfl rfl ?_
    refine WL_v rfl (ov_pickT rfl rfl) ?_
    refine WL_nil ?_
    refine WT_condT rfl ?_
    refine WT_seq ?_
    refine WT_region ?_
    refine WL_v rfl (ov_assign rfl) ?_
    refine WL_nil ?_
    exact WT_ret1 Try.func91 Try.results91 rfl ⟨0, rfl, ⟨by omega, fun _ => rfl⟩, hH1⟩
  refine WT_seq ?_
  refine WT_region ?_
  refine WL_v rfl (ov_assign rfl) ?_
  refine WL_nil ?_
  refine WT_seq ?_
  refine WT_region ?_
  refine WL_v rfl (ov_move rfl) ?_
  refine WL_v rfl (ov_move rfl) ?_
  refine WL_v rfl (ov_nilCheck rfl) ?_
  refine WL_v rfl (ov_field rfl fo_spec_l6Rd_1) ?_
  refine WL_v rfl (ov_load rfl one_int (hH.cb 0 rfl 1)) ?_
  refine WL_v rfl (ov_add rfl rfl (by omega)) ?_
  refine WL_v rfl (ov_nilCheck rfl) ?_
  refine WL_v rfl (ov_field rfl fo_spec_l6Rd_1) ?_
  refine WL_store hH rfl rfl (i := 0) (off := 1) rfl rfl (by simp) rfl sz_int ?_; rintro w1 hH1
  refine WL_nil ?_
  refine WT_seq ?_
  refine WT_seq ?_
  refine WT_region ?_
  refine WL_v rfl (ov_move rfl) ?_
  refine WL_v rfl (ov_F (ov_lss rfl rfl) (by first | exact decide_eq_false hn | exact nb_F hn | exact mb_F hn | exact hn | (simp only [decide_eq_false_iff_not]; omega) | simpa using hn)) ?_
  refine WL_v rfl (ov_move rfl) ?_
  refine WL_guardOn rfl rfl ?_
  refine WL_v rfl (ov_move rfl) ?_
  refine WL_guardOn rfl rfl ?_
  refine WL_v rfl (ov_nilCheck rfl) ?_
  refine WL_guardOn rfl rfl ?_
  refine WL_v rfl (ov_field rfl fo_spec_l6Rd_0) ?_
  refine WL_guardOn rfl rfl ?_
  refine WL_v rfl (ov_load rfl one_sl_uint8 (hH1.cb 0 rfl 0)) ?_
  refine WL_guardOn rfl rfl ?_
  refine WL_v rfl (ov_len rfl hB.sl st_sl_uint8) ?_
  refine WL_guardOn rfl rfl ?_
  refine WL_v rfl (ov_eql rfl rfl) ?_
  refine WL_v rfl (ov_pickF rfl rfl) ?_
  refine WL_nil ?_
  clear hH
  refine WT_cond rfl (fun hl => ?_) (fun hl => ?_)
  · skip
    first | with_reducible replace hl := of_decide_eq_true hl | with_reducible replace hl := bn_T hl | with_reducible replace hl := bb_T hl | skip
    refine WT_seq ?_
    refine WT_region ?_
    refine WL_v rfl (ov_assign rfl) ?_
    refine WL_nil ?_
    exact WT_ret1 Try.func91 Try.results91 rfl ⟨0, rfl, ⟨by omega, fun _ => rfl⟩, hH1⟩
  first | with_reducible replace hl := of_decide_eq_false hl | with_reducible replace hl := bn_F hl | with_reducible replace hl := bb_F hl | skip
  have hbl := hB.sl.lim
  have hb0 : 0 < bs.length := by omega
  refine WT_skip ?_
  refine WT_seq ?_
  refine WT_region ?_
  refine WL_v rfl (ov_move rfl) ?_
  refine WL_v rfl (ov_nilCheck rfl) ?_
  refine WL_v rfl (ov_field rfl fo_spec_l6Rd_1) ?_
  refine WL_v rfl (ov_load rfl one_int (hH1.cb 0 rfl 1)) ?_
  refine WL_v rfl (ov_as (ov_sub rfl rfl (by omega)) (congrArg (Value.int .i64) (show (p : Int) + 1 - 1 = (p : Int) by omega))) ?_
  refine WL_v rfl (ov_assign rfl) ?_
  refine WL_nil ?_
  refine WT_seq ?_
  refine WT_seq ?_
  refine WT_region ?_
  refine WL_v rfl (ov_move rfl) ?_
  refine WL_v rfl (ov_move rfl) ?_
  refine WL_v rfl (ov_nilCheck rfl) ?_
  refine WL_v rfl (ov_field rfl fo_spec_l6Rd_0) ?_
  refine WL_v rfl (ov_load rfl one_sl_uint8 (hH1.cb 0 rfl 0)) ?_
  refine WL_v rfl (ov_len rfl hB.sl st_sl_uint8) ?_
  refine WL_v rfl (ov_lss rfl rfl) ?_
  refine WL_nil ?_
  refine WT_cond rfl (fun hk => ?_) (fun hk => ?_)
  · skip
    first | with_reducible replace hk := of_decide_eq_true hk | with_reducible replace hk := bn_T hk | with_reducible replace hk := bb_T hk | skip
    have hkl : p < bs.length := by omega
    have hb := hB.rg bs[p] (List.getElem_mem hkl)
    refine WT_seq ?_
    refine WT_region ?_
    refine WL_v rfl (ov_move rfl) ?_
    refine WL_v rfl (ov_nilCheck rfl) ?_
    refine WL_v rfl (ov_field rfl fo_spec_l6Rd_0) ?_
    refine WL_v rfl (ov_load rfl one_sl_uint8 (hH1.cb 0 rfl 0)) ?_
    refine WL_v rfl (ov_move rfl) ?_
    refine WL_v rfl (ov_index rfl rfl st_sl_uint8 hB.sl hkl) ?_
    refine WL_v rfl (ov_load rfl one_uint8 (hB.cell hH1 hkl)) ?_
    refine WL_v rfl (ov_as (ov_convert rfl (by kernel_rfl) Try.underlying3) (congrArg (Value.int .i64) (u8wrap hb))) ?_
    refine WL_v rfl (ov_move rfl) ?_
    refine WL_v rfl (ov_rem rfl rfl (by omega) (by omega)) ?_
    refine WL_v rfl (ov_assign rfl) ?_
    refine WL_nil ?_
    exact WT_ret1 Try.func91 Try.results91 rfl ⟨(bs[p] % n).toNat, by rw [Int.toNat_of_nonneg (Int.emod_nonneg _ (by omega))], ⟨fun _ => by rw [Int.toNat_of_nonneg (Int.emod_nonneg _ (by omega))]; exact Int.emod_lt_of_pos _ (by omega), by omega⟩, hH1⟩
  first | with_reducible replace hk := of_decide_eq_false hk | with_reducible replace hk := bn_F hk | with_reducible replace hk := bb_F hk | skip
  have hi1 : p % bs.length < bs.length := Nat.mod_lt _ hb0
  have hi2 : (p * 7 + 3) % bs.length < bs.length := Nat.mod_lt _ hb0
  have hb1 := hB.rg bs[p % bs.length] (List.getElem_mem hi1)
  have hb2 := hB.rg bs[(p * 7 + 3) % bs.length] (List.getElem_mem hi2)
  obtain ⟨q, hq, hqp⟩ : ∃ q, p / bs.length = q ∧ q ≤ p := ⟨_, rfl, Nat.div_le_self _ _⟩
  obtain ⟨x1, hx1⟩ := Int.eq_ofNat_of_zero_le hb1.1
  obtain ⟨x2, hx2⟩ := Int.eq_ofNat_of_zero_le hb2.1
  refine WT_skip ?_
  refine WT_seq ?_
  refine WT_quiet mixed (by kernel_rfl) hH1 ?_
  clear hH1
  refine WQ_v rfl (fun _ _ => ov_move rfl) ?_
  refine WQ_v rfl (fun _ _ => ov_nilCheck rfl) ?_
  refine WQ_v rfl (fun _ _ => ov_field rfl fo_spec_l6Rd_0) ?_
  refine WQ_v rfl (fun _ hH => ov_load rfl one_sl_uint8 (hH.cb 0 rfl 0)) ?_
  refine WQ_v rfl (fun _ _ => ov_move rfl) ?_
  refine WQ_v rfl (fun _ _ => ov_move rfl) ?_
  refine WQ_v rfl (fun _ _ => ov_nilCheck rfl) ?_
  refine WQ_v rfl (fun _ _ => ov_field rfl fo_spec_l6Rd_0) ?_
  refine WQ_v rfl (fun _ hH => ov_load rfl one_sl_uint8 (hH.cb 0 rfl 0)) ?_
  refine WQ_v rfl (fun _ _ => ov_len rfl hB.sl st_sl_uint8) ?_
  refine WQ_v rfl (fun _ _ => ov_as (ov_rem rfl rfl (by omega) (by omega)) (congrArg (Value.int .i64) (show (p : Int) % (bs.length : Int) = ((p % bs.length : Nat) : Int) from rfl))) ?_
  refine WQ_v rfl (fun _ _ => ov_index rfl rfl st_sl_uint8 hB.sl hi1) ?_
  refine WQ_v rfl (fun _ hH => ov_load rfl one_uint8 (hB.cell hH hi1)) ?_
  refine WQ_v rfl (fun _ _ => ov_as (ov_convert rfl (by kernel_rfl) Try.underlying3) (congrArg (Value.int .i64) ((u8wrap hb1).trans hx1))) ?_
  refine WQ_v rfl (fun _ _ => ov_mul rfl rfl (by omega)) ?_
  refine WQ_v rfl (fun _ _ => ov_move rfl) ?_
  refine WQ_v rfl (fun _ _ => ov_nilCheck rfl) ?_
  refine WQ_v rfl (fun _ _ => ov_field rfl fo_spec_l6Rd_0) ?_
  refine WQ_v rfl (fun _ hH => ov_load rfl one_sl_uint8 (hH.cb 0 rfl 0)) ?_
  refine WQ_v rfl (fun _ _ => ov_move rfl) ?_
  refine WQ_v rfl (fun _ _ => ov_mul rfl rfl (by omega)) ?_
  refine WQ_v rfl (fun _ _ => ov_add rfl rfl (by omega)) ?_
  refine WQ_v rfl (fun _ _ => ov_move rfl) ?_
  refine WQ_v rfl (fun _ _ => ov_nilCheck rfl) ?_
  refine WQ_v rfl (fun _ _ => ov_field rfl fo_spec_l6Rd_0) ?_
  refine WQ_v rfl (fun _ hH => ov_load rfl one_sl_uint8 (hH.cb 0 rfl 0)) ?_
  refine WQ_v rfl (fun _ _ => ov_len rfl hB.sl st_sl_uint8) ?_
  refine WQ_v rfl (fun _ _ => ov_as (ov_rem rfl rfl (by omega) (by omega)) (congrArg (Value.int .i64) (show ((p : Int) * 7 + 3) % (bs.length : Int) = (((p * 7 + 3) % bs.length : Nat) : Int) from rfl))) ?_
  refine WQ_v rfl (fun _ _ => ov_index rfl rfl st_sl_uint8 hB.sl hi2) ?_
  refine WQ_v rfl (fun _ hH => ov_load rfl one_uint8 (hB.cell hH hi2)) ?_
  refine WQ_v rfl (fun _ _ => ov_as (ov_convert rfl (by kernel_rfl) Try.underlying3) (congrArg (Value.int .i64) ((u8wrap hb2).trans hx2))) ?_
  refine WQ_v rfl (fun _ _ => ov_mul rfl rfl (by omega)) ?_
  refine WQ_v rfl (fun _ _ => ov_add rfl rfl (by omega)) ?_
  refine WQ_v rfl (fun _ _ => ov_move rfl) ?_
  refine WQ_v rfl (fun _ _ => ov_mul rfl rfl (by omega)) ?_
  refine WQ_v rfl (fun _ _ => ov_add rfl rfl (by omega)) ?_
  refine WQ_v rfl (fun _ _ => ov_move rfl) ?_
  refine WQ_v rfl (fun _ _ => ov_move rfl) ?_
  refine WQ_v rfl (fun _ _ => ov_nilCheck rfl) ?_
  refine WQ_v rfl (fun _ _ => ov_field rfl fo_spec_l6Rd_0) ?_
  refine WQ_v rfl (fun _ hH => ov_load rfl one_sl_uint8 (hH.cb 0 rfl 0)) ?_
  refine WQ_v rfl (fun _ _ => ov_len rfl hB.sl st_sl_uint8) ?_
  refine WQ_v rfl (fun _ _ => ov_as (ov_quo rfl rfl (by omega) (by omega) (by omega)) (congrArg (Value.int .i64) (show (p : Int) / (bs.length : Int) = (q : Int) from hq ▸ rfl))) ?_
  refine WQ_v rfl (fun _ _ => ov_mul rfl rfl (by omega)) ?_
  refine WQ_v rfl (fun _ _ => ov_as (ov_add rfl rfl (by omega)) (congrArg (Value.int .i64) (show (x1 : Int) * 131 + (x2 : Int) * 1117 + (p : Int) * 29 + (q : Int) * 53 = ((x1 * 131 + x2 * 1117 + p * 29 + q * 53 : Nat) : Int) by omega))) ?_
  refine WQ_v rfl (fun _ _ => ov_assign rfl) ?_
  refine WQ_nil ?_
  intro w2 hH1
  refine WT_seq ?_
  refine WT_region ?_
  refine WL_v rfl (ov_move rfl) ?_
  refine WL_v rfl (ov_move rfl) ?_
  generalize hX : x1 * 131 + x2 * 1117 + p * 29 + q * 53 = X
  have hXb : X < 4611686018427387904 := by omega
  refine WL_v rfl (ov_as (ov_quo rfl rfl (by omega) (by omega) (by omega)) (congrArg (Value.int .i64) (show (X : Int) / 64 = ((X / 64 : Nat) : Int) from rfl))) ?_
  refine WL_v rfl (ov_xor rfl rfl hXb (by omega)) ?_
  refine WL_v rfl (ov_assign rfl) ?_
  refine WL_nil ?_
  refine WT_seq ?_
  refine WT_region ?_
  refine WL_v rfl (ov_move rfl) ?_
  refine WL_v rfl (ov_move rfl) ?_
  refine WL_v rfl (ov_rem rfl rfl (by omega) (by omega)) ?_
  refine WL_v rfl (ov_assign rfl) ?_
  refine WL_nil ?_
  exact WT_ret1 Try.func91 Try.results91 rfl ⟨(((X ^^^ X / 64 : Nat) : Int) % n).toNat, by rw [Int.toNat_of_nonneg (Int.emod_nonneg _ (by omega))], ⟨fun _ => by rw [Int.toNat_of_nonneg (Int.emod_nonneg _ (by omega))]; exact Int.emod_lt_of_pos _ (by omega), by omega⟩, hH1⟩
end
end Go.Proofs.Ytmcedghgincaaaa
