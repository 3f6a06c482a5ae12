/- Walks: the plan of some nodes alone. -/
import Derived.Test.YtmcedghgincaaaaWkHH
import Derived.Test.YtmcedghgincaaaaWkO
namespace Go.Proofs.Ytmcedghgincaaaa
open Go.RowKit

section
variable {h : GH} {Ls : List Heaplet} {w : World}

theorem copyNode_ok (hH : H w h Ls) {k : Int} {fv rv : Value} {f r : List Int} (hF : RdL h Ls fv f) (hR : RdL h Ls rv r) (hfl : f.length ≤ 1000000000) (hrl : r.length ≤ 1000000000) : Rets Try.prog 66 #[.agg [.int .i64 k, fv, rv].toArray] w fun v w' => ∃ x F R, ONd v x F R ∧ x = ⟨k, f, r⟩ ∧ H w' h (F :: R :: Ls) := by
  have hF2 : ∀ {A B}, RdL h (A :: B :: Ls) fv f := ⟨hF.sl, fun hH _ hj => hF.cell hH.drop.drop hj⟩
  have hR2 : ∀ {A B C}, RdL h (A :: B :: C :: Ls) rv r := ⟨hR.sl, fun hH _ hj => hR.cell hH.drop.drop.drop hj⟩
  refine rets_enter Try.func66 rfl Try.ntmps66 (by simp) ?_
  refine WT_seq ?_
  refine WT_region ?_
  refine WL_box _ rfl hH rfl rfl ?_; rintro b w1 hH1
  refine WL_alloc #[.int .i64 0, .slice none 0 0, .slice none 0 0] rfl hH1 zero_impl_Node rfl ?_; rintro gb w2 hH2
  refine WL_nil ?_
  refine WT_seq ?_
  refine WT_mixO (i := 1) [(0, 0), (1, 0), (2, 0), (3, 0), (5, 0), (6, 0), (4, 1), (7, 1), (8, 0), (9, 2)] mixed (by kernel_rfl) hH2 rfl ?_
  clear hH2
  intro w3 hH2 hC
  refine WM_v rfl rfl hC (fun _ _ => ov_field rfl fo_impl_Node_0) ?_
  refine WM_v rfl rfl hC (fun _ ⟨_, hH⟩ => ov_load rfl one_int (hH.cb 1 rfl 0)) ?_
  refine WM_v rfl rfl hC (fun _ _ => ov_field rfl fo_impl_Node_1) ?_
  refine WM_v rfl rfl hC (fun _ ⟨_, hH⟩ => ov_load rfl one_sl_int (hH.cb 1 rfl 1)) ?_
  refine WM_v rfl rfl hC (fun _ _ => ov_field rfl fo_impl_Node_2) ?_
  refine WM_v rfl rfl hC (fun _ ⟨_, hH⟩ => ov_load rfl one_sl_int (hH.cb 1 rfl 2)) ?_
  refine WM_e rfl ?_
  refine WL_call rfl rfl cf_impl_copyInts (copyInts_ok hH2 hF2 hfl) ?_; rintro fv2 w4 ⟨F, hF', hH4⟩
  replace hC : Cl _ _ _ := Cl.one hH4 (i := 2) rfl
  refine WL_mix (fun _ => hC) ?_
  refine WM_e rfl ?_
  refine WL_call rfl rfl cf_impl_copyInts (copyInts_ok hH4 hR2 hrl) ?_; rintro rv2 w5 ⟨R, hR', hH5⟩
  replace hC : Cl _ _ _ := Cl.one hH5 (i := 3) rfl
  refine WL_mix (fun _ => hC) ?_
  refine WM_v rfl rfl hC (fun _ _ => ov_build rfl (run_build_node hF'.sl hR'.sl)) ?_
  refine WM_e rfl ?_
  refine WL_storeN hH5 rfl rfl (i := 2) rfl rfl rfl (ones_cons rfl (ones_cons hF'.sl.one (ones_cons hR'.sl.one ones_nil))) sz_impl_Node ?_; rintro w6 hH6
  refine WL_mix (fun h => absurd rfl h) ?_
  refine WM_nil ?_
  have hl : (loadVar 58 ⟨gb, 0, none⟩).run Try.prog w6 = .ok (.agg [.int .i64 k, fv2, rv2].toArray) w6 :=
    run_loadVarN agg_impl_Node rfl fun j v hj => by rw [show Addr.add ⟨gb, 0, none⟩ j = ⟨gb, j, none⟩ by simp [add_of]]; exact (hH6.cb 2 rfl j).trans (by simpa using hj)
  exact WT_retC Try.func66 Try.results66 rfl hl ⟨⟨k, f, r⟩, F, R, ⟨fv2, rv2, rfl, hF', hR'⟩, rfl, ((hH6.del 3 rfl).del 2 rfl).swap⟩

/-- What a cut gives. -/
def CutV (h : GH) (Ls : List Heaplet) (p : List Nd) (K : Nat → Bool) (v : Value) (w' : World) : Prop := ∃ ov nv O Is X, v = .tuple #[ov, nv, .bool true] ∧ OPlan O Is ov (cutTo p K p.length) ∧ IRow X 3 nv (numsTo K p.length) ∧ H w' h (O :: (Is ++ X :: Ls))

theorem planCut_no (hH : H w h Ls) {pv lv : Value} {p : List Nd} {L : List Int} (hP : Plan h pv p) (hL : RdL h Ls lv L) (hok : cutOk p L = false) : Rets Try.prog 52 #[pv, lv] w fun v w' => v = .tuple #[.slice none 0 0, .slice none 0 0, .bool false] ∧ H w' h Ls := by
  refine rets_enter Try.func52 rfl Try.ntmps52 (by simp) ?_
  refine WT_seq ?_
  refine WT_region ?_
  refine WL_v rfl (ov_assign rfl) ?_
  refine WL_v rfl (ov_assign rfl) ?_
  refine WL_v rfl (ov_assign rfl) ?_
  refine WL_nil ?_
  refine WT_seq ?_
  refine WT_region ?_
  refine WL_v rfl (ov_move rfl) ?_
  refine WL_v rfl (ov_move rfl) ?_
  refine WL_call rfl rfl cf_impl_CutKeep (cutKeep_no hH hP hL hok) ?_; rintro _ w1 ⟨rfl, hH1⟩
  refine WL_v rfl (ov_move rfl) ?_
  refine WL_v rfl (ov_extract rfl rfl) ?_
  refine WL_v rfl (ov_extract rfl rfl) ?_
  refine WL_v rfl (ov_assign rfl) ?_
  refine WL_v rfl (ov_assign rfl) ?_
  refine WL_nil ?_
  refine WT_seq ?_
  refine WT_seq ?_
  refine WT_region ?_
  refine WL_v rfl (ov_move rfl) ?_
  refine WL_v rfl (ov_not rfl) ?_
  refine WL_nil ?_
  refine WT_condT rfl ?_
  refine WT_seq ?_
  refine WT_region ?_
  refine WL_v rfl (ov_assign rfl) ?_
  refine WL_v rfl (ov_assign rfl) ?_
  refine WL_v rfl (ov_assign rfl) ?_
  refine WL_nil ?_
  exact WT_ret3 Try.func52 Try.results52 rfl rfl rfl ⟨rfl, hH1⟩

/-- The numbers of the first kept ones. -/
def numsR (K : Nat → Bool) (N r : Nat) : List Int := (List.range N).map fun i => if K i = true ∧ numK K i < r then ((numK K i : Nat) : Int) else -1
theorem numsR_len (K : Nat → Bool) (N r : Nat) : (numsR K N r).length = N := by simp [numsR]
theorem numsR_zero (K : Nat → Bool) (N : Nat) : numsR K N 0 = List.replicate N (-1) := by
  refine List.ext_getElem (by simp [numsR]) fun i h1 h2 => ?_
  simp [numsR]
theorem numsR_all (K : Nat → Bool) (N : Nat) : numsR K N (numK K N) = numsTo K N := by
  refine List.map_congr_left fun i hi => ?_
  have := List.mem_range.1 hi
  by_cases h : K i = true
  · rw [if_pos ⟨h, numK_lt this h⟩, if_pos h]
  · rw [if_neg (fun hh => h hh.1), if_neg h]
theorem numsR_get {K : Nat → Bool} {N r i : Nat} (h : i < (numsR K N r).length) : (numsR K N r)[i] = if K i = true ∧ numK K i < r then ((numK K i : Nat) : Int) else -1 := by simp [numsR]
theorem numsR_set {K : Nat → Bool} {N r a : Nat} (hk : K a = true) (hr : numK K a = r) : (numsR K N r).set a ((r : Nat) : Int) = numsR K N (r + 1) := by
  refine List.ext_getElem (by simp [numsR]) fun i h1 h2 => ?_
  rw [List.getElem_set, numsR_get, numsR_get]
  split
  · rename_i h3
    subst h3
    rw [if_pos ⟨hk, by omega⟩, hr]
  · rename_i h3
    by_cases h4 : K i = true ∧ numK K i < r
    · rw [if_pos h4, if_pos ⟨h4.1, by omega⟩]
    · rw [if_neg h4, if_neg]
      rintro ⟨h5, h6⟩
      have h7 : numK K i = r := by
        rcases Nat.lt_or_ge (numK K i) r with h8 | h8
        · exact absurd ⟨h5, h8⟩ h4
        · omega
      rcases Nat.lt_trichotomy i a with h8 | h8 | h8
      · have := numK_lt h8 h5; omega
      · exact h3 h8.symm
      · have := numK_lt h8 hk; omega
/-- Where the kept nodes lie. -/
theorem keep_at {K : Nat → Bool} {N r : Nat} (h : r < numK K N) : ∃ a, a < N ∧ K a = true ∧ numK K a = r ∧ ((List.range N).filter K)[r]? = some a := by
  obtain ⟨a, h1, h2, h3⟩ := cut_at h
  refine ⟨a, h1, h2, h3, ?_⟩
  have : ∀ {n}, a < n → ((List.range n).filter K)[r]? = some a := fun {n} => by
    induction n with
    | zero => intro h; omega
    | succ n ih =>
      intro h
      rw [List.range_succ, List.filter_append]
      rcases Nat.lt_or_ge a n with h4 | h4
      · have h5 := ih h4
        rw [List.getElem?_append_left (List.getElem?_eq_some_iff.1 h5).1]; exact h5
      · obtain rfl : a = n := by omega
        rw [List.getElem?_append_right (by rw [← h3]; exact Nat.le_refl _), List.filter_cons, if_pos h2, ← h3]
        show [a][numK K a - numK K a]? = some a
        rw [Nat.sub_self]; rfl
  exact this h1
theorem cut_take {p : List Nd} {K : Nat → Bool} {r a : Nat} (ha : a < p.length) (hk : K a = true) (hr : numK K a = r) : (cutTo p K p.length).take (r + 1) = (cutTo p K p.length).take r ++ [cutNode K (p.getD a default)] := by
  have hl : r < (cutTo p K p.length).length := by rw [cutTo_len, ← hr]; exact numK_lt ha hk
  rw [List.take_succ_eq_append_getElem hl, ← getD_of hl]
  subst hr
  rw [cutTo_getD hk ha]
theorem rowOk_six {r : List Int} (h : rowOk r = true) : r.length ≤ 6 := by
  unfold rowOk at h
  rw [Bool.and_eq_true, decide_eq_true_eq] at h
  exact h.2
theorem H.lateFR {F R : Heaplet} {T : List Heaplet} (hH : H w h (F :: R :: (T ++ Ls))) : H w h ((T ++ [F, R]) ++ Ls) := by
  refine hH.perm ?_
  have : (([F, R] ++ T) ++ Ls).Perm ((T ++ [F, R]) ++ Ls) := List.perm_append_comm.append_right Ls
  simpa using this

set_option maxHeartbeats 1000000 in
theorem planCut_yes (hH : H w h Ls) {pv lv : Value} {p : List Nd} {L : List Int} (hP : Plan h pv p) (hL : RdL h Ls lv L) (hok : cutOk p L = true) : Rets Try.prog 52 #[pv, lv] w fun v w' => ∃ K : Nat → Bool, (∀ a, K a = true ↔ Keep p L a) ∧ CutV h Ls p K v w' := by
  have hok2 := hok
  unfold cutOk at hok2
  rw [Bool.and_eq_true] at hok2
  obtain ⟨hv, hall⟩ := hok2
  have hlen := PlanOk.len hv
  refine rets_enter Try.func52 rfl Try.ntmps52 (by simp) ?_
  refine WT_seq ?_
  refine WT_region ?_
  refine WL_v rfl (ov_assign rfl) ?_
  refine WL_v rfl (ov_assign rfl) ?_
  refine WL_v rfl (ov_assign rfl) ?_
  refine WL_nil ?_
  refine WT_seq ?_
  refine WT_region ?_
  refine WL_v rfl (ov_move rfl) ?_
  refine WL_v rfl (ov_move rfl) ?_
  refine WL_call rfl rfl cf_impl_CutKeep (cutKeep_yes hH hP hL hok) ?_; rintro _ w1 ⟨K, X, kv, rfl, hK, hKp, hX, hH1⟩
  refine WL_v rfl (ov_move rfl) ?_
  refine WL_v rfl (ov_extract rfl rfl) ?_
  refine WL_v rfl (ov_extract rfl rfl) ?_
  refine WL_v rfl (ov_assign rfl) ?_
  refine WL_v rfl (ov_assign rfl) ?_
  refine WL_nil ?_
  refine WT_seq ?_
  refine WT_seq ?_
  refine WT_region ?_
  refine WL_v rfl (ov_move rfl) ?_
  refine WL_v rfl (ov_not rfl) ?_
  refine WL_nil ?_
  have hcl := Keep.clK hv hK
  have hkl : (toI ((List.range p.length).filter K)).length = numK K p.length := toI_len _
  have hkn := numK_le K p.length
  refine WT_condF rfl ?_
  refine WT_skip ?_
  refine WT_seq ?_
  refine WT_region ?_
  refine WL_v rfl (ov_move rfl) ?_
  refine WL_v rfl (ov_len rfl hP.sl st_sl_impl_Node) ?_
  refine WL_makeI rfl hH1 rfl rfl st_sl_int (by omega) (by omega) ?_; rintro Y0 nv w2 hY0 hH2
  refine WL_v rfl (ov_assign rfl) ?_
  refine WL_nil ?_
  refine WT_seq ?_
  refine WT_seq ?_
  refine WT_region ?_
  refine WL_v rfl (ov_move rfl) ?_
  refine WL_v rfl (ov_len rfl hY0.sl st_sl_int) ?_
  refine WL_v rfl (ov_move rfl) ?_
  refine WL_nil ?_
  refine WT_block ?_
  refine WT_while (fun s : Nat => [(0, pv), (7, kv), (9, nv), (28, nv), (29, .int .i64 ((List.replicate p.length (0 : Int)).length : Int)), (30, .int .i64 (s : Int))]) (fun k w => k ≤ p.length ∧ ∃ Y, IRow Y 3 nv (List.replicate k (-1) ++ List.replicate (p.length - k) 0) ∧ H w h (X :: Y :: Ls)) (fun k => p.length - k) 0 (by repeat (first | exact trivial | refine ⟨rfl, ?_⟩)) ⟨by omega, Y0, by simpa using hY0, hH2.swap⟩ ?_
  clear hH hH1 hH2 hY0
  rintro k w3 ⟨hk, Y, hY, hH⟩ again
  refine WT_seq ?_
  refine WT_region ?_
  refine WL_v rfl (ov_lss rfl rfl) ?_
  refine WL_nil ?_
  refine WT_seq ?_
  refine WT_cond rfl (fun hc => ?_) (fun hc => ?_)
  · skip
    first | with_reducible replace hc := of_decide_eq_true hc | with_reducible replace hc := bn_T hc | with_reducible replace hc := bb_T hc | skip
    have hkp : k < p.length := by rw [List.length_replicate] at hc; omega
    have hrep : List.replicate (p.length - k) (0 : Int) = 0 :: List.replicate (p.length - (k + 1)) 0 := by
      rw [show p.length - k = (p.length - (k + 1)) + 1 by omega, List.replicate_succ]
    rw [hrep] at hY
    have hkl2 : k < (List.replicate k (-1 : Int) ++ (0 : Int) :: List.replicate (p.length - (k + 1)) 0).length := by simp
    refine WT_skip ?_
    refine WT_seq ?_
    refine WT_block ?_
    refine WT_seq ?_
    refine WT_region ?_
    refine WL_v rfl (ov_move rfl) ?_
    refine WL_v rfl (ov_assign rfl) ?_
    refine WL_nil ?_
    refine WT_region ?_
    refine WL_v rfl (ov_move rfl) ?_
    refine WL_v rfl (ov_move rfl) ?_
    refine WL_v rfl (ov_index rfl rfl st_sl_int hY.sl hkl2) ?_
    refine WL_storeI hH rfl rfl (i := 1) rfl hY hkl2 sz_int ?_; rintro Y2 w4 hY2 hH4
    refine WL_nil ?_
    refine WT_inBlock ?_
    refine WT_region ?_
    refine WL_v rfl (ov_add rfl rfl (by omega)) ?_
    refine WL_v rfl (ov_move rfl) ?_
    refine WL_nil ?_
    rw [set_mid _ _ _ _ _ (by simp)] at hY2
    refine again (k + 1) _ _ (by omega) (by repeat (first | exact trivial | refine ⟨rfl, ?_⟩)) ⟨by omega, Y2, by rw [List.replicate_succ', List.append_assoc]; exact hY2, hH4⟩
  first | with_reducible replace hc := of_decide_eq_false hc | with_reducible replace hc := bn_F hc | with_reducible replace hc := bb_F hc | skip
  obtain rfl : k = p.length := by rw [List.length_replicate] at hc; omega
  rw [Nat.sub_self, List.replicate_zero, List.append_nil, ← numsR_zero K] at hY
  refine WT_exit rfl ?_
  refine WT_seq ?_
  refine WT_region ?_
  refine WL_v rfl (ov_move rfl) ?_
  refine WL_v rfl (ov_len rfl hX.sl st_sl_int) ?_
  refine WL_make (sz := 3) (n := 0) (c := (toI ((List.range p.length).filter K)).length) rfl hH rfl rfl st_sl_impl_Node (by omega) (by omega) (by omega) (by omega) ?_; rintro O ov w4 hO hH4
  refine WL_v rfl (ov_assign rfl) ?_
  refine WL_nil ?_
  refine WT_seq ?_
  refine WT_seq ?_
  refine WT_region ?_
  refine WL_v rfl (ov_move rfl) ?_
  refine WL_v rfl (ov_len rfl hX.sl st_sl_int) ?_
  refine WL_v rfl (ov_move rfl) ?_
  refine WL_nil ?_
  refine WT_block ?_
  refine WT_while (fun s : Nat × Value => [(0, pv), (9, nv), (11, s.2), (40, kv), (41, .int .i64 ((toI ((List.range p.length).filter K)).length : Int)), (42, .int .i64 (s.1 : Int))]) (fun s w => s.1 ≤ numK K p.length ∧ ∃ Y O Is, IRow Y 3 nv (numsR K p.length s.1) ∧ OPlan O Is s.2 ((cutTo p K p.length).take s.1) ∧ H w h (X :: Y :: O :: (Is ++ Ls))) (fun s => numK K p.length - s.1) (0, ov) (by repeat (first | exact trivial | refine ⟨rfl, ?_⟩)) ⟨by omega, Y, O, [], hY, ⟨rfl, [], by simpa using hO, by simp⟩, (hH4.pull 2 rfl).pull 2 rfl⟩ ?_
  clear hH hH4 hY hO Y O ov
  rintro ⟨r, ov⟩ w5 ⟨hr, Y, O, Is, hY, hO, hH⟩ again
  simp only at hr hY hO
  refine WT_seq ?_
  refine WT_region ?_
  refine WL_v rfl (ov_lss rfl rfl) ?_
  refine WL_nil ?_
  refine WT_seq ?_
  refine WT_cond rfl (fun hc => ?_) (fun hc => ?_)
  · skip
    first | with_reducible replace hc := of_decide_eq_true hc | with_reducible replace hc := bn_T hc | with_reducible replace hc := bb_T hc | skip
    have hrk : r < numK K p.length := by simp only at hc; omega
    obtain ⟨a, hap, hka, hra, hge⟩ := keep_at hrk
    have hrl : r < (toI ((List.range p.length).filter K)).length := by omega
    have hgr : (toI ((List.range p.length).filter K))[r] = (a : Int) := by
      have h1 : (toI ((List.range p.length).filter K))[r]? = some (a : Int) := by
        show (((List.range p.length).filter K).map fun (j : Nat) => (j : Int))[r]? = _
        rw [List.getElem?_map, hge]; rfl
      exact (List.getElem?_eq_some_iff.1 h1).2
    have hnl := numsR_len K p.length r
    have hnl2 := numsR_len K p.length (r + 1)
    have hay : a < (numsR K p.length r).length := by omega
    obtain ⟨fv, rv, hf, hrr, hcell⟩ := hP.node hap
    have hN := PlanOk.node hv hap
    have hf2 := NodeOk.len2 hN
    have hfr := frm_pos hv hap
    rw [getD_of hap] at hfr
    have hclf := hcl a hap hka
    rw [getD_of hap] at hclf
    have hrw := hrr.sl.lim
    refine WT_skip ?_
    refine WT_seq ?_
    refine WT_block ?_
    refine WT_seq ?_
    refine WT_region ?_
    refine WL_v rfl (ov_move rfl) ?_
    refine WL_v rfl (ov_index rfl rfl st_sl_int hX.sl hrl) ?_
    refine WL_v rfl (ov_load rfl one_int (hX.cell hH (i := 0) rfl hrl)) ?_; rw [hgr]
    refine WL_v rfl (ov_assign rfl) ?_
    refine WL_v rfl (ov_assign rfl) ?_
    refine WL_nil ?_
    refine WT_seq ?_
    refine WT_region ?_
    refine WL_v rfl (ov_move rfl) ?_
    refine WL_v rfl (ov_move rfl) ?_
    refine WL_v rfl (ov_move rfl) ?_
    refine WL_v rfl (ov_index rfl rfl st_sl_int hY.sl hay) ?_
    refine WL_storeI hH rfl rfl (i := 1) rfl hY hay sz_int ?_; rintro Y2 w6 hY2 hH6
    refine WL_nil ?_
    refine WT_seq ?_
    refine WT_region ?_
    refine WL_v rfl (ov_move rfl) ?_
    refine WL_v rfl (ov_move rfl) ?_
    rw [numsR_set hka hra] at hY2
    refine WL_v rfl (ov_index rfl rfl st_sl_impl_Node hP.sl hap) ?_
    refine WL_v rfl (ov_loadN [.int .i64 p[a].kind, fv, rv] rfl agg_impl_Node rfl ((hcell _ _ hH6))) ?_
    refine WL_call rfl rfl cf_impl_copyNode (copyNode_ok hH6 (hf.rdl _) (hrr.rdl _) (by omega) (by have := rowOk_six hN.row; omega)) ?_; rintro _ w7 ⟨x, F, R, ⟨fv2, rv2, rfl, hF, hR⟩, hx, hH7⟩
    subst hx
    simp only at hF hR
    refine WL_alloc _ rfl hH7 zero_impl_Node rfl ?_; rintro g w8 hH8
    refine WL_storeN hH8 rfl rfl (i := 0) rfl rfl rfl (ones_cons rfl (ones_cons hF.sl.one (ones_cons hR.sl.one ones_nil))) sz_impl_Node ?_; rintro w9 hH9
    refine WL_nil ?_
    refine WT_seq ?_
    refine WT_seq ?_
    refine WT_region ?_
    refine WL_v rfl (ov_field rfl fo_impl_Node_1) ?_
    refine WL_v rfl (ov_load rfl one_sl_int (hH9.cb 0 rfl 1)) ?_
    refine WL_v rfl (ov_len rfl hF.sl st_sl_int) ?_
    refine WL_v rfl (ov_move rfl) ?_
    refine WL_nil ?_
    refine WT_block ?_
    refine WT_while (fun j : Nat => [(0, pv), (9, nv), (11, ov), (14, ptr g), (40, kv), (41, .int .i64 ((toI ((List.range p.length).filter K)).length : Int)), (42, .int .i64 (r : Int)), (57, fv2), (58, .int .i64 (p[a].frm.length : Int)), (59, .int .i64 (j : Int))]) (fun j w => j ≤ p[a].frm.length ∧ ∃ F, IRow F 3 fv2 ((cutNode K p[a]).frm.take j ++ p[a].frm.drop j) ∧ H w h ([(g, .cells #[.int .i64 p[a].kind, fv2, rv2] 58 (0, 0))] :: F :: R :: X :: Y2 :: O :: (Is ++ Ls))) (fun j => p[a].frm.length - j) 0 (by repeat (first | exact trivial | refine ⟨rfl, ?_⟩)) ⟨by omega, F, by simpa using hF, hH9⟩ ?_
    clear hH hH6 hH7 hH8 hH9 hF F hY
    rintro j w10 ⟨hj, F, hF, hH⟩ again2
    have hcfl : (cutNode K p[a]).frm.length = p[a].frm.length := by simp [cutNode]
    refine WT_seq ?_
    refine WT_region ?_
    refine WL_v rfl (ov_lss rfl rfl) ?_
    refine WL_nil ?_
    refine WT_seq ?_
    refine WT_cond rfl (fun hc2 => ?_) (fun hc2 => ?_)
    · skip
      first | with_reducible replace hc2 := of_decide_eq_true hc2 | with_reducible replace hc2 := bn_T hc2 | with_reducible replace hc2 := bb_T hc2 | skip
      have hjf : j < p[a].frm.length := by omega
      have htl : ((cutNode K p[a]).frm.take j).length = j := by rw [List.length_take]; omega
      have hdr : p[a].frm.drop j = p[a].frm[j] :: p[a].frm.drop (j + 1) := List.drop_eq_getElem_cons hjf
      rw [hdr] at hF
      have hjl : j < ((cutNode K p[a]).frm.take j ++ p[a].frm[j] :: p[a].frm.drop (j + 1)).length := by rw [List.length_append, htl, List.length_cons]; omega
      have hgj := getElem_mid ((cutNode K p[a]).frm.take j) (p[a].frm.drop (j + 1)) p[a].frm[j] j htl hjl
      have hfm := List.getElem_mem hjf
      have hfp := hfr _ hfm
      have hfk := hclf _ hfm
      obtain ⟨u, hu⟩ := Int.eq_ofNat_of_zero_le hfp.1
      replace hgj := hgj.trans hu
      rw [hu] at hfk
      rw [Int.toNat_natCast] at hfk
      have hua : u < a := by omega
      have hnu := numK_lt hua hfk
      have huy : u < (numsR K p.length (r + 1)).length := by omega
      have hgu : (numsR K p.length (r + 1))[u] = ((numK K u : Nat) : Int) := by rw [numsR_get, if_pos ⟨hfk, by omega⟩]
      refine WT_skip ?_
      refine WT_seq ?_
      refine WT_block ?_
      refine WT_seq ?_
      refine WT_region ?_
      refine WL_v rfl (ov_move rfl) ?_
      refine WL_v rfl (ov_index rfl rfl st_sl_int hF.sl hjl) ?_
      refine WL_v rfl (ov_load rfl one_int (hF.cell hH (i := 1) rfl hjl)) ?_; rw [hgj]
      refine WL_v rfl (ov_assign rfl) ?_
      refine WL_v rfl (ov_assign rfl) ?_
      refine WL_nil ?_
      refine WT_mixL [(0, 0), (1, 0), (2, 0), (3, 0), (4, 0), (5, 0), (6, 0), (7, 0), (8, 2)] mixed (by kernel_rfl) hH ?_
      clear hH
      intro w11 hH hC
      refine WM_v rfl rfl hC (fun _ _ => ov_field rfl fo_impl_Node_1) ?_
      refine WM_v rfl rfl hC (fun _ ⟨_, hH⟩ => ov_load rfl one_sl_int (hH.cb 1 rfl 1)) ?_
      refine WM_v rfl rfl hC (fun _ _ => ov_move rfl) ?_
      refine WM_v rfl rfl hC (fun _ _ => ov_move rfl) ?_
      refine WM_v rfl rfl hC (fun _ _ => ov_move rfl) ?_
      refine WM_v rfl rfl hC (fun _ _ => ov_index rfl rfl st_sl_int hY2.sl huy) ?_
      refine WM_v rfl rfl hC (fun _ ⟨_, hH⟩ => ov_load rfl one_int (hY2.cell hH (i := 5) rfl huy)) ?_; rw [hgu]
      refine WM_v rfl rfl hC (fun _ _ => ov_index rfl rfl st_sl_int hF.sl hjl) ?_
      refine WM_e rfl ?_
      refine WL_storeI hH rfl rfl (i := 1) rfl hF hjl sz_int ?_; rintro F2 w12 hF2 hH12
      refine WL_mix (fun h => absurd rfl h) ?_
      refine WM_nil ?_
      refine WT_inBlock ?_
      refine WT_region ?_
      refine WL_v rfl (ov_add rfl rfl (by omega)) ?_
      refine WL_v rfl (ov_move rfl) ?_
      refine WL_nil ?_
      rw [set_mid _ _ _ _ _ htl] at hF2
      refine again2 (j + 1) _ _ (by omega) (by repeat (first | exact trivial | refine ⟨rfl, ?_⟩)) ⟨by omega, F2, ?_, hH12⟩
      have : (cutNode K p[a]).frm.take (j + 1) = (cutNode K p[a]).frm.take j ++ [((numK K u : Nat) : Int)] := by
        rw [List.take_succ_eq_append_getElem (by omega)]
        congr 2
        simp [cutNode, hu]
      rw [this, List.append_assoc]
      exact hF2
    first | with_reducible replace hc2 := of_decide_eq_false hc2 | with_reducible replace hc2 := bn_F hc2 | with_reducible replace hc2 := bb_F hc2 | skip
    obtain rfl : j = p[a].frm.length := by omega
    have hF9 : IRow F 3 fv2 (cutNode K p[a]).frm := by
      rw [List.drop_length, List.append_nil, List.take_of_length_le (by omega)] at hF
      exact hF
    obtain ⟨hil, xs, hR3, hat⟩ := hO
    have htk : ((cutTo p K p.length).take r).length = r := by rw [List.length_take, cutTo_len]; omega
    refine WT_exit rfl ?_
    refine WT_region ?_
    refine WL_v rfl (ov_move rfl) ?_
    refine WL_v rfl (ov_loadN [.int .i64 p[a].kind, fv2, rv2] rfl agg_impl_Node rfl ((fun j v hj => by rw [show Addr.add ⟨g, 0, none⟩ j = ⟨g, j, none⟩ by simp [add_of]]; exact (hH.cb 0 rfl j).trans (by simpa using hj)))) ?_
    refine WL_buildSlice (sz := 3) [.int .i64 p[a].kind, fv2, rv2] rfl hH rfl (run_bs_node hF9.sl hR.sl) rfl (by omega) ?_; rintro Z zv w11 hZ hH11
    refine WL_append1 (i := 6) (j := 0) (n := ((cutTo p K p.length).take r).length) (m := 1) rfl hH11 rfl rfl st_sl_impl_Node (by omega) rfl hR3 rfl hZ (ones_cons rfl (ones_cons hF9.sl.one (ones_cons hR.sl.one ones_nil))) (by omega) (by omega) ?_; rintro O2 ov2 w12 hO2 hH12
    refine WL_v rfl (ov_assign rfl) ?_
    refine WL_nil ?_
    refine WT_inBlock ?_
    refine WT_region ?_
    refine WL_v rfl (ov_add rfl rfl (by omega)) ?_
    refine WL_v rfl (ov_move rfl) ?_
    refine WL_nil ?_
    refine again (r + 1, ov2) _ _ (by simp only; omega) (by repeat (first | exact trivial | refine ⟨rfl, ?_⟩)) ⟨by simp only; omega, Y2, O2, Is ++ [F, R], hY2, ?_, H.lateFR (T := X :: Y2 :: O2 :: Is) hH12.drop.drop⟩
    show OPlan O2 (Is ++ [F, R]) ov2 ((cutTo p K p.length).take (r + 1))
    rw [cut_take hap hka hra, getD_of hap]
    exact OPlan.snoc (x := cutNode K p[a]) hil hR3.len hat hO2 hF9 hR
  first | with_reducible replace hc := of_decide_eq_false hc | with_reducible replace hc := bn_F hc | with_reducible replace hc := bb_F hc | skip
  have hrk : r = numK K p.length := by simp only at hc; omega
  subst hrk
  rw [numsR_all] at hY
  rw [List.take_of_length_le (by rw [cutTo_len]; exact Nat.le_refl _)] at hO
  refine WT_exit rfl ?_
  refine WT_seq ?_
  refine WT_region ?_
  refine WL_v rfl (ov_move rfl) ?_
  refine WL_v rfl (ov_move rfl) ?_
  refine WL_v rfl (ov_assign rfl) ?_
  refine WL_v rfl (ov_assign rfl) ?_
  refine WL_v rfl (ov_assign rfl) ?_
  refine WL_nil ?_
  exact WT_ret3 Try.func52 Try.results52 rfl rfl rfl ⟨K, hK, ov, nv, O, Is, Y, rfl, hO, hY, hH.drop.perm (by
    have := (List.perm_middle (a := Y) (l₁ := O :: Is) (l₂ := Ls)).symm
    simpa using this)⟩
end
end Go.Proofs.Ytmcedghgincaaaa
