/- Walks: a plan copied by the laws, as memory of one's own. -/
import Derived.Test.YtmcedghgincaaaaWkX
namespace Go.Proofs.Ytmcedghgincaaaa
open Go.RowKit

/-- One node of a plan of one's own. -/
def OAt (Is : List Heaplet) (xs : List Value) (i : Nat) (x : Nd) : Prop :=
  ∃ fv rv F R, (∀ j u, [Value.int .i64 x.kind, fv, rv][j]? = some u → xs[i * 3 + j]? = some u) ∧ Is[2 * i]? = some F ∧ Is[2 * i + 1]? = some R ∧ IRow F 3 fv x.frm ∧ IRow R 3 rv x.row
/-- A plan of one's own: the nodes, and two lists for each. -/
structure OPlan (O : Heaplet) (Is : List Heaplet) (v : Value) (p : List Nd) : Prop where
  len : Is.length = 2 * p.length
  ex : ∃ xs, Row O 58 3 v p.length xs ∧ ∀ i (hi : i < p.length), OAt Is xs i p[i]

section
variable {h : GH} {Ls : List Heaplet} {w : World}

/-- It can be shared. -/
theorem OPlan.plan {O : Heaplet} {Is : List Heaplet} {v : Value} {p : List Nd} (hO : OPlan O Is v p) {h' : GH} (hX : ∀ q ∈ (O :: Is).flatten, h'.blk q.1 = some q.2) : Plan h' v p := by
  obtain ⟨xs, hR, hat⟩ := hO.ex
  have hin : ∀ {X : Heaplet} {i : Nat}, Is[i]? = some X → ∀ q ∈ X, h'.blk q.1 = some q.2 := fun hi q hq => hX q (by
    simp only [List.flatten_cons]
    exact List.mem_append_right _ (List.mem_flatten.2 ⟨_, List.mem_of_getElem? hi, hq⟩))
  have hrd := hR.rd (fun q hq => hX q (by simp [hq]))
  refine ⟨hR.sl, fun i hi => ?_⟩
  obtain ⟨fv, rv, F, R, h1, h2, h3, h4, h5⟩ := hat i hi
  exact ⟨fv, rv, h4.ints (hin h2), h5.ints (hin h3), fun j u hj => hrd _ u (h1 j u hj)⟩
theorem OPlan.freeze {O : Heaplet} {Is : List Heaplet} {v : Value} {p : List Nd} (hO : OPlan O Is v p) (hH : H w h (O :: (Is ++ Ls))) :
    ∃ h', h.Le h' ∧ H w h' Ls ∧ Plan h' v p ∧ ∀ {w2 Ls2}, H w2 h' Ls2 → H w2 h (O :: (Is ++ Ls2)) := by
  have hH' : H w h ((O :: Is).flatten :: Ls) := by simpa [H] using hH
  obtain ⟨h', hle, hH2, hX2, hnd, _⟩ := hH'.freeze
  exact ⟨h', hle, hH2, hO.plan fun q hq => (hX2 q hq).1, fun hH3 => by simpa [H] using hH3.unfreeze hle hX2 hnd⟩

theorem zeroNode (W : World) : (zeroValue 58).run Try.prog W = .ok (.agg #[.int .i64 0, .slice none 0 0, .slice none 0 0]) W := zero_impl_Node W

theorem toNode_ok (hH : H w h Ls) {xv : Value} {x : Nd} (hx : NdV h xv x) (h1 : x.frm.length ≤ 1048576) (h2 : x.row.length ≤ 1048576) : Rets Try.prog 81 #[xv] w fun v w' => ∃ fv rv F R, v = .agg [.int .i64 x.kind, fv, rv].toArray ∧ IRow F 3 fv x.frm ∧ IRow R 3 rv x.row ∧ H w' h (R :: F :: Ls) := by
  obtain ⟨fv, rv, rfl, hf, hr⟩ := hx
  refine rets_enter Try.func81 rfl Try.ntmps81 (by simp) ?_
  refine WT_seq ?_
  refine WT_region ?_
  refine WL_box #[.int .i64 x.kind, fv, rv] rfl hH rfl rfl ?_; rintro g1 w1 hH1
  refine WL_alloc #[.int .i64 0, .slice none 0 0, .slice none 0 0] rfl hH1 zero_impl_Node rfl ?_; rintro g2 w2 hH2
  refine WL_nil ?_
  refine WT_seq ?_
  refine WT_region ?_
  refine WL_alloc #[.int .i64 0, .slice none 0 0, .slice none 0 0] rfl hH2 zero_impl_Node rfl ?_; rintro g3 w3 hH3
  refine WL_nil ?_
  refine WT_seq ?_
  refine WT_region ?_
  refine WL_v rfl (ov_field rfl fo_laws_Node_0) ?_
  refine WL_v rfl (ov_load rfl one_int (hH3.cb 2 rfl 0)) ?_
  refine WL_v rfl (ov_field rfl fo_impl_Node_0) ?_
  refine WL_store hH3 rfl rfl (i := 0) (off := 0) rfl rfl (by simp) rfl sz_int ?_; rintro w4 hH4
  refine WL_nil ?_
  refine WT_seq ?_
  refine WT_region ?_
  refine WL_v rfl (ov_field rfl fo_laws_Node_1) ?_
  refine WL_v rfl (ov_load rfl one_sl_int (hH4.cb 2 rfl 1)) ?_
  refine WL_call rfl rfl cf_laws_toIntS (toIntS_ok hH4 hf h1) ?_; rintro fv2 w5 ⟨F, hF, hH5⟩
  refine WL_v rfl (ov_field rfl fo_impl_Node_1) ?_
  refine WL_store hH5 rfl rfl (i := 1) (off := 1) rfl rfl (by simp) hF.sl.one sz_sl_int ?_; rintro w6 hH6
  refine WL_nil ?_
  refine WT_seq ?_
  refine WT_region ?_
  refine WL_v rfl (ov_field rfl fo_laws_Node_2) ?_
  refine WL_v rfl (ov_load rfl one_sl_int (hH6.cb 3 rfl 2)) ?_
  refine WL_call rfl rfl cf_laws_toIntS (toIntS_ok hH6 hr h2) ?_; rintro rv2 w7 ⟨R, hR, hH7⟩
  refine WL_v rfl (ov_field rfl fo_impl_Node_2) ?_
  refine WL_store hH7 rfl rfl (i := 2) (off := 2) rfl rfl (by simp) hR.sl.one sz_sl_int ?_; rintro w8 hH8
  refine WL_nil ?_
  refine WT_seq ?_
  refine WT_region ?_
  refine WL_v rfl (ov_loadN [.int .i64 x.kind, fv2, rv2] rfl agg_impl_Node rfl ((fun j v hj => by rw [show Addr.add ⟨g3, 0, none⟩ j = ⟨g3, j, none⟩ by simp [add_of]]; exact (hH8.cb 2 rfl j).trans (by simpa using hj)))) ?_
  refine WL_storeN hH8 rfl rfl (i := 3) rfl rfl rfl (ones_cons rfl (ones_cons hF.sl.one (ones_cons hR.sl.one ones_nil))) sz_impl_Node ?_; rintro w9 hH9
  refine WL_nil ?_
  have hl : (loadVar 58 ⟨g2, 0, none⟩).run Try.prog w9 = .ok (.agg [.int .i64 x.kind, fv2, rv2].toArray) w9 :=
    run_loadVarN agg_impl_Node rfl fun j v hj => by rw [show Addr.add ⟨g2, 0, none⟩ j = ⟨g2, j, none⟩ by simp [add_of]]; exact (hH9.cb 3 rfl j).trans (by simpa using hj)
  exact WT_retC Try.func81 Try.results81 rfl hl ⟨fv2, rv2, F, R, rfl, hF, hR, by simpa [H] using ((hH9.dropI (i := 2) rfl).dropI (i := 3) rfl).dropI (i := 4) rfl⟩

theorem OAt.mono {Is : List Heaplet} {xs ys : List Value} {Js : List Heaplet} {i : Nat} {x : Nd} (hO : OAt Is xs i x) (hx : ∀ j, j < 3 → ys[i * 3 + j]? = xs[i * 3 + j]?) : OAt (Is ++ Js) ys i x := by
  obtain ⟨fv, rv, F, R, h1, h2, h3, h4, h5⟩ := hO
  refine ⟨fv, rv, F, R, fun j u hj => ?_, ?_, ?_, h4, h5⟩
  · have : j < 3 := (List.getElem?_eq_some_iff.1 hj).1
    rw [hx j this]; exact h1 j u hj
  · rw [List.getElem?_append_left (List.getElem?_eq_some_iff.1 h2).1]; exact h2
  · rw [List.getElem?_append_left (List.getElem?_eq_some_iff.1 h3).1]; exact h3

theorem H.addRF {R F O : Heaplet} {Is : List Heaplet} (hH : H w h (R :: F :: O :: (Is ++ Ls))) : H w h (O :: ((Is ++ [F, R]) ++ Ls)) := by
  refine hH.perm ?_
  have h1 : (R :: F :: O :: (Is ++ Ls)).Perm (F :: R :: O :: (Is ++ Ls)) := .swap _ _ _
  have h2 : (F :: R :: O :: (Is ++ Ls)).Perm (O :: ([F, R] ++ (Is ++ Ls))) := by
    have : ([F, R] ++ O :: (Is ++ Ls)).Perm (O :: ([F, R] ++ (Is ++ Ls))) := List.perm_middle
    simpa using this
  have h3 : ([F, R] ++ (Is ++ Ls)).Perm ((Is ++ [F, R]) ++ Ls) := by
    rw [← List.append_assoc]
    exact List.perm_append_comm.append_right Ls
  exact (h1.trans h2).trans (.cons _ h3)

theorem toNodeS_ok (hH : H w h Ls) {pv : Value} {p : List Nd} (hP : Plan h pv p) (h0 : p.length ≤ 1048576) (h1 : ∀ i (hi : i < p.length), p[i].frm.length ≤ 1048576 ∧ p[i].row.length ≤ 1048576) :
    Rets Try.prog 34 #[pv] w fun v w' => ∃ O Is, OPlan O Is v p ∧ H w' h (O :: (Is ++ Ls)) := by
  refine rets_enter Try.func34 rfl Try.ntmps34 (by simp) ?_
  refine WT_seq ?_
  refine WT_region ?_
  refine WL_v rfl (ov_assign rfl) ?_
  refine WL_nil ?_
  refine WT_seq ?_
  refine WT_region ?_
  refine WL_v rfl (ov_move rfl) ?_
  refine WL_v rfl (ov_len rfl hP.sl st_sl_laws_Node) ?_
  refine WL_make (n := p.length) (c := p.length) rfl hH rfl rfl st_sl_impl_Node (by omega) (by omega) (by omega) (by omega) ?_; rintro O0 ov w1 hO0 hH1
  refine WL_v rfl (ov_assign rfl) ?_
  refine WL_nil ?_
  refine WT_seq ?_
  refine WT_seq ?_
  refine WT_region ?_
  refine WL_v rfl (ov_assign rfl) ?_
  refine WL_nil ?_
  refine WT_block ?_
  refine WT_while (fun s : Nat => [(0, pv), (3, ov), (4, .int .i64 (s : Int))]) (fun k w => k ≤ p.length ∧ ∃ O Is xs, Is.length = 2 * k ∧ Row O 58 3 ov p.length xs ∧ (∀ i (_ : i < k) (hi : i < p.length), OAt Is xs i p[i]) ∧ H w h (O :: (Is ++ Ls))) (fun k => p.length - k) 0 (by repeat (first | exact trivial | refine ⟨rfl, ?_⟩)) ⟨by omega, O0, [], _, rfl, hO0, by omega, hH1⟩ ?_
  clear hH hH1 hO0
  rintro k w2 ⟨hk, O, Is, xs, hil, hO, hall, hH⟩ again
  refine WT_seq ?_
  refine WT_seq ?_
  refine WT_region ?_
  refine WL_v rfl (ov_move rfl) ?_
  refine WL_v rfl (ov_move rfl) ?_
  refine WL_v rfl (ov_len rfl hP.sl st_sl_laws_Node) ?_
  refine WL_v rfl (ov_lss rfl rfl) ?_
  refine WL_nil ?_
  refine WT_cond rfl (fun hc => ?_) (fun hc => ?_)
  · skip
    first | with_reducible replace hc := of_decide_eq_true hc | with_reducible replace hc := bn_T hc | with_reducible replace hc := bb_T hc | skip
    have hkp : k < p.length := by omega
    obtain ⟨fv, rv, hx, hcell⟩ := hP.ndV' hkp
    have hxl := hO.len
    refine WT_skip ?_
    refine WT_seq ?_
    refine WT_block ?_
    refine WT_region ?_
    refine WL_v rfl (ov_move rfl) ?_
    refine WL_v rfl (ov_move rfl) ?_
    refine WL_v rfl (ov_move rfl) ?_
    refine WL_v rfl (ov_move rfl) ?_
    refine WL_v rfl (ov_index rfl rfl st_sl_laws_Node hP.sl hkp) ?_
    refine WL_v rfl (ov_loadN [.int .i64 p[k].kind, fv, rv] rfl agg_laws_Node rfl ((hcell _ _ hH))) ?_
    refine WL_call rfl rfl cf_laws_toNode (toNode_ok hH hx (h1 k hkp).1 (h1 k hkp).2) ?_; rintro _ w3 ⟨fv2, rv2, F, R, rfl, hF, hR, hH3⟩
    have ho : k * 3 + [Value.int .i64 p[k].kind, fv2, rv2].length ≤ xs.length := by rw [hxl]; simp only [List.length_cons, List.length_nil]; omega
    refine WL_v rfl (ov_index rfl rfl st_sl_impl_Node hO.sl hkp) ?_
    refine WL_storeRowN hH3 rfl rfl (i := 2) rfl hO ho (by simp) (ones_cons rfl (ones_cons hF.sl.one (ones_cons hR.sl.one ones_nil))) sz_impl_Node ?_; rintro O2 w4 hO2 hH4
    refine WL_nil ?_
    refine WT_inBlock ?_
    refine WT_region ?_
    refine WL_v rfl (ov_move rfl) ?_
    refine WL_v rfl (ov_add rfl rfl (by omega)) ?_
    refine WL_v rfl (ov_assign rfl) ?_
    refine WL_nil ?_
    refine again (k + 1) _ _ (by omega) (by repeat (first | exact trivial | refine ⟨rfl, ?_⟩)) ⟨by omega, O2, Is ++ [F, R], _, by simp [hil]; omega, hO2, fun i hi hil2 => ?_, H.addRF hH4⟩
    rcases Nat.lt_or_ge i k with h3 | h3
    · exact (hall i h3 hil2).mono fun j hj => by rw [splice_get ho, if_pos (by omega)]
    · obtain rfl : i = k := by omega
      refine ⟨fv2, rv2, F, R, fun j u hj => ?_, ?_, ?_, hF, hR⟩
      · have : j < 3 := (List.getElem?_eq_some_iff.1 hj).1
        rw [splice_get ho, if_neg (by omega), if_pos (by simp only [List.length_cons, List.length_nil]; omega), show i * 3 + j - i * 3 = j by omega]
        exact hj
      · rw [List.getElem?_append_right (by omega), hil]; simp
      · rw [List.getElem?_append_right (by omega), hil, show 2 * i + 1 - 2 * i = 1 by omega]; rfl
  first | with_reducible replace hc := of_decide_eq_false hc | with_reducible replace hc := bn_F hc | with_reducible replace hc := bb_F hc | skip
  obtain rfl : k = p.length := by omega
  refine WT_exit rfl ?_
  refine WT_seq ?_
  refine WT_region ?_
  refine WL_v rfl (ov_move rfl) ?_
  refine WL_v rfl (ov_assign rfl) ?_
  refine WL_nil ?_
  exact WT_ret1 Try.func34 Try.results34 rfl ⟨O, Is, ⟨hil, xs, hO, fun i hi => hall i hi hi⟩, hH⟩
end
end Go.Proofs.Ytmcedghgincaaaa
