/- Walks: the plan of some nodes alone. -/
import Derived.Test.YtafljegjdanldaaBk2
namespace Go.Proofs.Ytafljegjdanldaa
open Go.RowKit

section
variable {h : GH} {Ls : List Heaplet} {w : World}

theorem copyNode_ok (hH : H w h Ls) {k : Int} {fv rv : Value} {f r : List Int} (hF : RdL h Ls fv f) (hR : RdL h Ls rv r) (hfl : f.length ≤ 1000000000) (hrl : r.length ≤ 1000000000) : Rets Try.prog 59 #[.agg [.int .i64 k, fv, rv].toArray] w fun v w' => ∃ x F R, ONd v x F R ∧ x = ⟨k, f, r⟩ ∧ H w' h (F :: R :: Ls) := by
  have hF2 : ∀ {A B}, RdL h (A :: B :: Ls) fv f := ⟨hF.sl, fun hH _ hj => hF.cell hH.drop.drop hj⟩
  have hR2 : ∀ {A B C}, RdL h (A :: B :: C :: Ls) rv r := ⟨hR.sl, fun hH _ hj => hR.cell hH.drop.drop.drop hj⟩
  refine rets_enter Try.func59 rfl Try.ntmps59 (by simp) ?_
  refine WT_seq ?_
  refine WT_region ?_
  refine WL_box _ rfl hH rfl rfl ?_; rintro b w1 hH1
  refine WL_alloc #[.int .i64 0, .slice none 0 0, .slice none 0 0] rfl hH1 zero_impl_Node rfl ?_; rintro gb w2 hH2
  refine WL_nil ?_
  refine WT_seq ?_
  refine WT_mixO (i := 1) [(0, 0), (1, 0), (2, 0), (3, 0), (5, 0), (6, 0), (4, 2), (7, 2), (8, 0), (9, 3)] mixed (by kernel_rfl) hH2 rfl ?_
  clear hH2
  intro w3 hH2 hC
  refine WM_v rfl rfl hC (fun _ _ => ov_field rfl fo_impl_Node_0) ?_
  refine WM_v rfl rfl hC (fun _ ⟨_, hH⟩ => ov_load rfl one_int (hH.cb 1 rfl 0)) ?_
  refine WM_v rfl rfl hC (fun _ _ => ov_field rfl fo_impl_Node_1) ?_
  refine WM_v rfl rfl hC (fun _ ⟨_, hH⟩ => ov_load rfl one_sl_int (hH.cb 1 rfl 1)) ?_
  refine WM_v rfl rfl hC (fun _ _ => ov_field rfl fo_impl_Node_2) ?_
  refine WM_v rfl rfl hC (fun _ ⟨_, hH⟩ => ov_load rfl one_sl_int (hH.cb 1 rfl 2)) ?_
  refine WM_e rfl ?_
  refine WL_call rfl rfl cf_impl_copyInts (copyInts_ok hH2 hF2 hfl) ?_; rintro fv2 w4 ⟨F, hF', hH4⟩
  replace hC : Cl _ _ _ := Cl.one hH4 (i := 2) rfl
  refine WL_mix (fun _ => hC) ?_
  refine WM_e rfl ?_
  refine WL_call rfl rfl cf_impl_copyInts (copyInts_ok hH4 hR2 hrl) ?_; rintro rv2 w5 ⟨R, hR', hH5⟩
  replace hC : Cl _ _ _ := Cl.one hH5 (i := 3) rfl
  refine WL_mix (fun _ => hC) ?_
  refine WM_v rfl rfl hC (fun _ _ => ov_build rfl (run_build_node hF'.sl hR'.sl)) ?_
  refine WM_e rfl ?_
  refine WL_storeN hH5 rfl rfl (i := 2) rfl rfl rfl (ones_cons rfl (ones_cons hF'.sl.one (ones_cons hR'.sl.one ones_nil))) sz_impl_Node ?_; rintro w6 hH6
  refine WL_mix (fun h => absurd rfl h) ?_
  refine WM_nil ?_
  have hl : (loadVar 32 ⟨gb, 0, none⟩).run Try.prog w6 = .ok (.agg [.int .i64 k, fv2, rv2].toArray) w6 :=
    run_loadVarN agg_impl_Node rfl fun j v hj => by rw [show Addr.add ⟨gb, 0, none⟩ j = ⟨gb, j, none⟩ by simp [add_of]]; exact (hH6.cb 2 rfl j).trans (by simpa using hj)
  exact WT_retC Try.func59 Try.results59 rfl hl ⟨⟨k, f, r⟩, F, R, ⟨fv2, rv2, rfl, hF', hR'⟩, rfl, ((hH6.del 3 rfl).del 2 rfl).swap⟩

/-- What a cut gives. -/
def CutV (h : GH) (Ls : List Heaplet) (p : List Nd) (K : Nat → Bool) (v : Value) (w' : World) : Prop := ∃ ov nv O Is X, v = .tuple #[ov, nv, .bool true] ∧ OPlan O Is ov (cutTo p K p.length) ∧ IRow X 3 nv (numsTo K p.length) ∧ H w' h (O :: (Is ++ X :: Ls))

theorem planCut_no (hH : H w h Ls) {pv lv : Value} {p : List Nd} {L : List Int} (hP : Plan h pv p) (hL : RdL h Ls lv L) (hok : cutOk p L = false) : Rets Try.prog 24 #[pv, lv] w fun v w' => v = .tuple #[.slice none 0 0, .slice none 0 0, .bool false] ∧ H w' h Ls := by
  refine rets_enter Try.func24 rfl Try.ntmps24 (by simp) ?_
  refine WT_seq ?_
  refine WT_region ?_
  refine WL_v rfl (ov_assign rfl) ?_
  refine WL_v rfl (ov_assign rfl) ?_
  refine WL_v rfl (ov_assign rfl) ?_
  refine WL_nil ?_
  refine WT_seq ?_
  refine WT_region ?_
  refine WL_v rfl (ov_move rfl) ?_
  refine WL_v rfl (ov_move rfl) ?_
  refine WL_call rfl rfl cf_impl_CutKeep (cutKeep_no hH hP hL hok) ?_; rintro _ w1 ⟨rfl, hH1⟩
  refine WL_v rfl (ov_move rfl) ?_
  refine WL_v rfl (ov_extract rfl rfl) ?_
  refine WL_v rfl (ov_extract rfl rfl) ?_
  refine WL_v rfl (ov_assign rfl) ?_
  refine WL_v rfl (ov_assign rfl) ?_
  refine WL_nil ?_
  refine WT_seq ?_
  refine WT_seq ?_
  refine WT_region ?_
  refine WL_v rfl (ov_move rfl) ?_
  refine WL_v rfl (ov_not rfl) ?_
  refine WL_nil ?_
  refine WT_condT rfl ?_
  refine WT_seq ?_
  refine WT_region ?_
  refine WL_v rfl (ov_assign rfl) ?_
  refine WL_v rfl (ov_assign rfl) ?_
  refine WL_v rfl (ov_assign rfl) ?_
  refine WL_nil ?_
  exact WT_ret3 Try.func24 Try.results24 rfl rfl rfl ⟨rfl, hH1⟩

/-- The numbers of the first kept ones. -/
def numsR (K : Nat → Bool) (N r : Nat) : List Int := (List.range N).map fun i => if K i = true ∧ numK K i < r then ((numK K i : Nat) : Int) else -1
theorem numsR_len (K : Nat → Bool) (N r : Nat) : (numsR K N r).length = N := by simp [numsR]
theorem numsR_zero (K : Nat → Bool) (N : Nat) : numsR K N 0 = List.replicate N (-1) := by
  refine List.ext_getElem (by simp [numsR]) fun i h1 h2 => ?_
  simp [numsR]
theorem numsR_all (K : Nat → Bool) (N : Nat) : numsR K N (numK K N) = numsTo K N := by
  refine List.map_congr_left fun i hi => ?_
  have := List.mem_range.1 hi
  by_cases h : K i = true
  · rw [if_pos ⟨h, numK_lt this h⟩, if_pos h]
  · rw [if_neg (fun hh => h hh.1), if_neg h]
theorem numsR_get {K : Nat → Bool} {N r i : Nat} (h : i < (numsR K N r).length) : (numsR K N r)[i] = if K i = true ∧ numK K i < r then ((numK K i : Nat) : Int) else -1 := by simp [numsR]
theorem numsR_set {K : Nat → Bool} {N r a : Nat} (hk : K a = true) (hr : numK K a = r) : (numsR K N r).set a ((r : Nat) : Int) = numsR K N (r + 1) := by
  refine List.ext_getElem (by simp [numsR]) fun i h1 h2 => ?_
  rw [List.getElem_set, numsR_get, numsR_get]
  split
  · rename_i h3
    subst h3
    rw [if_pos ⟨hk, by omega⟩, hr]
  · rename_i h3
    by_cases h4 : K i = true ∧ numK K i < r
    · rw [if_pos h4, if_pos ⟨h4.1, by omega⟩]
    · rw [if_neg h4, if_neg]
      rintro ⟨h5, h6⟩
      have h7 : numK K i = r := by
        rcases Nat.lt_or_ge (numK K i) r with h8 | h8
        · exact absurd ⟨h5, h8⟩ h4
        · omega
      rcases Nat.lt_trichotomy i a with h8 | h8 | h8
      · have := numK_lt h8 h5; omega
      · exact h3 h8.symm
      · have := numK_lt h8 hk; omega
/-- Where the kept nodes lie. -/
theorem keep_at {K : Nat → Bool} {N r : Nat} (h : r < numK K N) : ∃ a, a < N ∧ K a = true ∧ numK K a = r ∧ ((List.range N).filter K)[r]? = some a := by
  obtain ⟨a, h1, h2, h3⟩ := cut_at h
  refine ⟨a, h1, h2, h3, ?_⟩
  have : ∀ {n}, a < n → ((List.range n).filter K)[r]? = some a := fun {n} => by
    induction n with
    | zero => intro h; omega
    | succ n ih =>
      intro h
      rw [List.range_succ, List.filter_append]
      rcases Nat.lt_or_ge a n with h4 | h4
      · have h5 := ih h4
        rw [List.getElem?_append_left (List.getElem?_eq_some_iff.1 h5).1]; exact h5
      · obtain rfl : a = n := by omega
        rw [List.getElem?_append_right (by rw [← h3]; exact Nat.le_refl _), List.filter_cons, if_pos h2, ← h3]
        show [a][numK K a - numK K a]? = some a
        rw [Nat.sub_self]; rfl
  exact this h1
theorem cut_take {p : List Nd} {K : Nat → Bool} {r a : Nat} (ha : a < p.length) (hk : K a = true) (hr : numK K a = r) : (cutTo p K p.length).take (r + 1) = (cutTo p K p.length).take r ++ [cutNode K (p.getD a default)] := by
  have hl : r < (cutTo p K p.length).length := by rw [cutTo_len, ← hr]; exact numK_lt ha hk
  rw [List.take_succ_eq_append_getElem hl, ← getD_of hl]
  subst hr
  rw [cutTo_getD hk ha]
theorem rowOk_six {r : List Int} (h : rowOk r = true) : r.length ≤ 6 := by
  unfold rowOk at h
  rw [Bool.and_eq_true, decide_eq_true_eq] at h
  exact h.2
theorem H.lateFR {F R : Heaplet} {T : List Heaplet} (hH : H w h (F :: R :: (T ++ Ls))) : H w h ((T ++ [F, R]) ++ Ls) := by
  refine hH.perm ?_
  have : (([F, R] ++ T) ++ Ls).Perm ((T ++ [F, R]) ++ Ls) := List.perm_append_comm.append_right Ls
  simpa using this

set_option maxHeartbeats 1000000 in
theorem planCut_yes (hH : H w h Ls) {pv lv : Value} {p : List Nd} {L : List Int} (hP : Plan h pv p) (hL : RdL h Ls lv L) (hok : cutOk p L = true) : Rets Try.prog 24 #[pv, lv] w fun v w' => ∃ K : Nat → Bool, (∀ a, K a = true ↔ Keep p L a) ∧ CutV h Ls p K v w' := by
  have hok2 := hok
  unfold cutOk at hok2
  rw [Bool.and_eq_true] at hok2
  obtain ⟨hv, hall⟩ := hok2
  have hlen := PlanOk.len hv
  refine rets_enter Try.func24 rfl Try.ntmps24 (by simp) ?_
  refine WT_seq ?_
  refine WT_region ?_
  refine WL_v rfl (ov_assign rfl) ?_
  refine WL_v rfl (ov_assign rfl) ?_
  refine WL_v rfl (ov_assign rfl) ?_
  refine WL_nil ?_
  refine WT_seq ?_
  refine WT_region ?_
  refine WL_v rfl (ov_move rfl) ?_
  refine WL_v rfl (ov_move rfl) ?_
  refine WL_call rfl rfl cf_impl_CutKeep (cutKeep_yes hH hP hL hok) ?_; rintro _ w1 ⟨K, X, kv, rfl, hK, hKp, hX, hH1⟩
  refine WL_v rfl (ov_move rfl) ?_
  refine WL_v rfl (ov_extract rfl rfl) ?_
  refine WL_v rfl (ov_extract rfl rfl) ?_
  refine WL_v rfl (ov_assign rfl) ?_
  refine WL_v rfl (ov_assign rfl) ?_
  refine WL_nil ?_
  refine WT_seq ?_
  refine WT_seq ?_
  refine WT_region ?_
  refine WL_v rfl (ov_move rfl) ?_
  refine WL_v rfl (ov_not rfl) ?_
  refine WL_nil ?_
  have hcl := Keep.clK hv hK
  have hkl : (toI ((List.range p.length).filter K)).length = numK K p.length := toI_len _
  have hkn := numK_le K p.length
  refine WT_condF rfl ?_
  refine WT_skip ?_
  refine WT_seq ?_
  refine WT_region ?_
  refine WL_v rfl (ov_move rfl) ?_
  refine WL_v rfl (ov_len rfl hP.sl st_sl_impl_Node) ?_
  refine WL_makeI rfl hH1 rfl rfl st_sl_int (by omega) (by omega) ?_; rintro Y0 nv w2 hY0 hH2
  refine WL_v rfl (ov_assign rfl) ?_
  refine WL_nil ?_
  refine WT_seq ?_
  refine WT_seq ?_
  refine WT_region ?_
  refine WL_v rfl (ov_move rfl) ?_
  refine WL_v rfl (ov_len rfl hY0.sl st_sl_int) ?_
  refine WL_v rfl (ov_move rfl) ?_
  refine WL_nil ?_
  refine WT_block ?_
  refine WT_while (fun s : Nat => [(0, pv), (7, kv), (9, nv), (28, nv), (29, .int .i64 ((List.replicate p.length (0 : Int)).length : Int)), (30, .int .i64 (s : Int))]) (fun k w => k ≤ p.length ∧ ∃ Y, IRow Y 3 nv (List.replicate k (-1) ++ List.replicate (p.length - k) 0) ∧ H w h (X :: Y :: Ls)) (fun k => p.length - k) 0 (by repeat (first | exact trivial | refine ⟨rfl, ?_⟩)) ⟨by omega, Y0, by simpa using hY0, hH2.swap⟩ ?_
  clear hH hH1 hH2 hY0
  rintro k w3 ⟨hk, Y, hY, hH⟩ again
  refine WT_seq ?_
  refine WT_region ?_
  refine WL_v rfl (ov_lss rfl rfl) ?_
  refine WL_nil ?_
  refine WT_seq ?_
  refine WT_cond rfl (fun hc => ?_) (fun hc => ?_)
  · skip
    first | with_reducible replace hc := of_decide_eq_true hc | with_reducible replace hc := bn_T hc | with_reducible replace hc := bb_T hc | skip
    have hkp : k < p.length := by rw [List.length_replicate] at hc; omega
    have hrep : List.replicate (p.length - k) (0 : Int) = 0 :: List.replicate (p.length - (k + 1)) 0 := by
      rw [show p.length - k = (p.length - (k + 1)) + 1 by omega, List.replicate_succ]
    rw [hrep] at hY
    have hkl2 : k < (List.replicate k (-1 : Int) ++ (0 : Int) :: List.replicate (p.length - (k + 1)) 0).length := by simp
    refine WT_skip ?_
    refine WT_seq ?_
    refine WT_block ?_
    refine WT_seq ?_
    refine WT_region ?_
    refine WL_v rfl (ov_move rfl) ?_
    refine WL_v rfl (ov_assign rfl) ?_
    refine WL_nil ?_
    refine WT_region ?_
    refine WL_v rfl (ov_move rfl) ?_
    refine WL_v rfl (ov_move rfl) ?_
    refine WL_v rfl (ov_index rfl rfl st_sl_int hY.sl hkl2) ?_
    refine WL_storeI hH rfl rfl (i := 1) rfl hY hkl2 sz_int ?_; rintro Y2 w4 hY2 hH4
    refine WL_nil ?_
    refine WT_inBlock ?_
    refine WT_region ?_
    refine WL_v rfl (ov_add rfl rfl (by omega)) ?_
    refine WL_v rfl (ov_move rfl) ?_
    refine WL_nil ?_
    rw [set_mid _ _ _ _ _ (by simp)] at hY2
    refine again (k + 1) _ _ (by omega) (by repeat (first | exact trivial | refine ⟨rfl, ?_⟩)) ⟨by omega, Y2, by rw [List.replicate_succ', List.append_assoc]; exact hY2, hH4⟩
  first | with_reducible replace hc := of_decide_eq_false hc | with_reducible replace hc := bn_F hc | with_reducible replace hc := bb_F hc | skip
  obtain rfl : k = p.length := by rw [List.length_replicate] at hc; omega
  rw [Nat.sub_self, List.replicate_zero, List.append_nil, ← numsR_zero K] at hY
  refine WT_exit rfl ?_
  refine WT_seq ?_
  refine WT_region ?_
  refine WL_v rfl (ov_move rfl) ?_
  refine WL_v rfl (ov_len rfl hX.sl st_sl_int) ?_
  refine WL_make (sz := 3) (n := 0) (c := (toI ((List.range p.length).filter K)).length) rfl hH rfl rfl st_sl_impl_Node (by omega) (by omega) (by omega) (by omega) ?_; rintro O ov w4 hO hH4
  refine WL_v rfl (ov_assign rfl) ?_
  refine WL_nil ?_
  refine WT_seq ?_
  refine WT_seq ?_
  refine WT_region ?_
  refine WL_v rfl (ov_move rfl) ?_
  refine WL_v rfl (ov_len rfl hX.sl st_sl_int) ?_
  refine WL_v rfl (ov_move rfl) ?_
  refine WL_nil ?_
  refine WT_block ?_
  refine WT_while (fun s : Nat × Value => [(0, pv), (9, nv), (11, s.2), (40, kv), (41, .int .i64 ((toI ((List.range p.length).filter K)).length : Int)), (42, .int .i64 (s.1 : Int))]) (fun s w => s.1 ≤ numK K p.length ∧ ∃ Y O Is, IRow Y 3 nv (numsR K p.length s.1) ∧ OPlan O Is s.2 ((cutTo p K p.length).take s.1) ∧ H w h (X :: Y :: O :: (Is ++ Ls))) (fun s => numK K p.length - s.1) (0, ov) (by repeat (first | exact trivial | refine ⟨rfl, ?_⟩)) ⟨by omega, Y, O, [], hY, ⟨rfl, [], by simpa using hO, by simp⟩, (hH4.pull 2 rfl).pull 2 rfl⟩ ?_
  clear hH hH4 hY hO Y O ov
  rintro ⟨r, ov⟩ w5 ⟨hr, Y, O, Is, hY, hO, hH⟩ again
  simp only at hr hY hO
  refine WT_seq ?_
  refine WT_region ?_
  refine WL_v rfl (ov_lss rfl rfl) ?_
  refine WL_nil ?_
  refine WT_seq ?_
  refine WT_cond rfl (fun hc => ?_) (fun hc => ?_)
  · skip
    first | with_reducible replace hc := of_decide_eq_true hc | with_reducible replace hc := bn_T hc | with_reducible replace hc := bb_T hc | skip
    have hrk : r < numK K p.length := by simp only at hc; omega
    obtain ⟨a, hap, hka, hra, hge⟩ := keep_at hrk
    have hrl : r < (toI ((List.range p.length).filter K)).length := by omega
    have hgr : (toI ((List.range p.length).filter K))[r] = (a : Int) := by
      have h1 : (toI ((List.range p.length).filter K))[r]? = some (a : Int) := by
        show (((List.range p.length).filter K).map fun (j : Nat) => (j : Int))[r]? = _
        rw [List.getElem?_map, hge]; rfl
      exact (List.getElem?_eq_some_iff.1 h1).2
    have hnl := numsR_len K p.length r
    have hnl2 := numsR_len K p.length (r + 1)
    have hay : a < (numsR K p.length r).length := by omega
    obtain ⟨fv, rv, hf, hrr, hcell⟩ := hP.node hap
    have hN := PlanOk.node hv hap
    have hf2 := NodeOk.len2 hN
    have hfr := frm_pos hv hap
    rw [getD_of hap] at hfr
    have hclf := hcl a hap hka
    rw [getD_of hap] at hclf
    have hrw := hrr.sl.lim
    refine WT_skip ?_
    refine WT_seq ?_
    refine WT_block ?_
    refine WT_seq ?_
    refine WT_region ?_
    refine WL_v rfl (ov_move rfl) ?_
    refine WL_v rfl (ov_index rfl rfl st_sl_int hX.sl hrl) ?_
    refine WL_v rfl (ov_load rfl one_int (hX.cell hH (i := 0) rfl hrl)) ?_; rw [hgr]
    refine WL_v rfl (ov_assign rfl) ?_
    refine WL_v rfl (ov_assign rfl) ?_
    refine WL_nil ?_
    refine WT_seq ?_
    refine WT_region ?_
    refine WL_v rfl (ov_move rfl) ?_
    refine WL_v rfl (ov_move rfl) ?_
    refine WL_v rfl (ov_move rfl) ?_
    refine WL_v rfl (ov_index rfl rfl st_sl_int hY.sl hay) ?_
    refine WL_storeI hH rfl rfl (i := 1) rfl hY hay sz_int ?_; rintro Y2 w6 hY2 hH6
    refine WL_nil ?_
    refine WT_seq ?_
    refine WT_region ?_
    refine WL_v rfl (ov_move rfl) ?_
    refine WL_v rfl (ov_move rfl) ?_
    rw [numsR_set hka hra] at hY2
    refine WL_v rfl (ov_index rfl rfl st_sl_impl_Node hP.sl hap) ?_
    refine WL_v rfl (ov_loadN [.int .i64 p[a].kind, fv, rv] rfl agg_impl_Node rfl ((hcell _ _ hH6))) ?_
    refine WL_call rfl rfl cf_impl_copyNode (copyNode_ok hH6 (hf.rdl _) (hrr.rdl _) (by omega) (by have := rowOk_six hN.row; omega)) ?_; rintro _ w7 ⟨x, F, R, ⟨fv2, rv2, rfl, hF, hR⟩, hx, hH7⟩
    subst hx
    simp only at hF hR
    refine WL_alloc _ rfl hH7 zero_impl_Node rfl ?_; rintro g w8 hH8
    refine WL_storeN hH8 rfl rfl (i := 0) rfl rfl rfl (ones_cons rfl (ones_cons hF.sl.one (ones_cons hR.sl.one ones_nil))) sz_impl_Node ?_; rintro w9 hH9
    refine WL_nil ?_
    refine WT_seq ?_
    refine WT_seq ?_
    refine WT_region ?_
    refine WL_v rfl (ov_field rfl fo_impl_Node_1) ?_
    refine WL_v rfl (ov_load rfl one_sl_int (hH9.cb 0 rfl 1)) ?_
    refine WL_v rfl (ov_len rfl hF.sl st_sl_int) ?_
    refine WL_v rfl (ov_move rfl) ?_
    refine WL_nil ?_
    refine WT_block ?_
    refine WT_while (fun j : Nat => [(0, pv), (9, nv), (11, ov), (14, ptr g), (40, kv), (41, .int .i64 ((toI ((List.range p.length).filter K)).length : Int)), (42, .int .i64 (r : Int)), (57, fv2), (58, .int .i64 (p[a].frm.length : Int)), (59, .int .i64 (j : Int))]) (fun j w => j ≤ p[a].frm.length ∧ ∃ F, IRow F 3 fv2 ((cutNode K p[a]).frm.take j ++ p[a].frm.drop j) ∧ H w h ([(g, .cells #[.int .i64 p[a].kind, fv2, rv2] 32 (0, 0))] :: F :: R :: X :: Y2 :: O :: (Is ++ Ls))) (fun j => p[a].frm.length - j) 0 (by repeat (first | exact trivial | refine ⟨rfl, ?_⟩)) ⟨by omega, F, by simpa using hF, hH9⟩ ?_
    clear hH hH6 hH7 hH8 hH9 hF F hY
    rintro j w10 ⟨hj, F, hF, hH⟩ again2
    have hcfl : (cutNode K p[a]).frm.length = p[a].frm.length := by simp [cutNode]
    refine WT_seq ?_
    refine WT_region ?_
    refine WL_v rfl (ov_lss rfl rfl) ?_
    refine WL_nil ?_
    refine WT_seq ?_
    refine WT_cond rfl (fun hc2 => ?_) (fun hc2 => ?_)
    · skip
      first | with_reducible replace hc2 := of_decide_eq_true hc2 | with_reducible replace hc2 := bn_T hc2 | with_reducible replace hc2 := bb_T hc2 | skip
      have hjf : j < p[a].frm.length := by omega
      have htl : ((cutNode K p[a]).frm.take j).length = j := by rw [List.length_take]; omega
      have hdr : p[a].frm.drop j = p[a].frm[j] :: p[a].frm.drop (j + 1) := List.drop_eq_getElem_cons hjf
      rw [hdr] at hF
      have hjl : j < ((cutNode K p[a]).frm.take j ++ p[a].frm[j] :: p[a].frm.drop (j + 1)).length := by rw [List.length_append, htl, List.length_cons]; omega
      have hgj := getElem_mid ((cutNode K p[a]).frm.take j) (p[a].frm.drop (j + 1)) p[a].frm[j] j htl hjl
      have hfm := List.getElem_mem hjf
      have hfp := hfr _ hfm
      have hfk := hclf _ hfm
      obtain ⟨u, hu⟩ := Int.eq_ofNat_of_zero_le hfp.1
      replace hgj := hgj.trans hu
      rw [hu] at hfk
      rw [Int.toNat_natCast] at hfk
      have hua : u < a := by omega
      have hnu := numK_lt hua hfk
      have huy : u < (numsR K p.length (r + 1)).length := by omega
      have hgu : (numsR K p.length (r + 1))[u] = ((numK K u : Nat) : Int) := by rw [numsR_get, if_pos ⟨hfk, by omega⟩]
      refine WT_skip ?_
      refine WT_seq ?_
      refine WT_block ?_
      refine WT_seq ?_
      refine WT_region ?_
      refine WL_v rfl (ov_move rfl) ?_
      refine WL_v rfl (ov_index rfl rfl st_sl_int hF.sl hjl) ?_
      refine WL_v rfl (ov_load rfl one_int (hF.cell hH (i := 1) rfl hjl)) ?_; rw [hgj]
      refine WL_v rfl (ov_assign rfl) ?_
      refine WL_v rfl (ov_assign rfl) ?_
      refine WL_nil ?_
      refine WT_mixL [(0, 0), (1, 0), (2, 0), (3, 0), (4, 0), (5, 0), (6, 0), (7, 0), (8, 3)] mixed (by kernel_rfl) hH ?_
      clear hH
      intro w11 hH hC
      refine WM_v rfl rfl hC (fun _ _ => ov_field rfl fo_impl_Node_1) ?_
      refine WM_v rfl rfl hC (fun _ ⟨_, hH⟩ => ov_load rfl one_sl_int (hH.cb 1 rfl 1)) ?_
      refine WM_v rfl rfl hC (fun _ _ => ov_move rfl) ?_
      refine WM_v rfl rfl hC (fun _ _ => ov_move rfl) ?_
      refine WM_v rfl rfl hC (fun _ _ => ov_move rfl) ?_
      refine WM_v rfl rfl hC (fun _ _ => ov_index rfl rfl st_sl_int hY2.sl huy) ?_
      refine WM_v rfl rfl hC (fun _ ⟨_, hH⟩ => ov_load rfl one_int (hY2.cell hH (i := 5) rfl huy)) ?_; rw [hgu]
      refine WM_v rfl rfl hC (fun _ _ => ov_index rfl rfl st_sl_int hF.sl hjl) ?_
      refine WM_e rfl ?_
      refine WL_storeI hH rfl rfl (i := 1) rfl hF hjl sz_int ?_; rintro F2 w12 hF2 hH12
      refine WL_mix (fun h => absurd rfl h) ?_
      refine WM_nil ?_
      refine WT_inBlock ?_
      refine WT_region ?_
      refine WL_v rfl (ov_add rfl rfl (by omega)) ?_
      refine WL_v rfl (ov_move rfl) ?_
      refine WL_nil ?_
      rw [set_mid _ _ _ _ _ htl] at hF2
      refine again2 (j + 1) _ _ (by omega) (by repeat (first | exact trivial | refine ⟨rfl, ?_⟩)) ⟨by omega, F2, ?_, hH12⟩
      have : (cutNode K p[a]).frm.take (j + 1) = (cutNode K p[a]).frm.take j ++ [((numK K u : Nat) : Int)] := by
        rw [List.take_succ_eq_append_getElem (by omega)]
        congr 2
        simp [cutNode, hu]
      rw [this, List.append_assoc]
      exact hF2
    first | with_reducible replace hc2 := of_decide_eq_false hc2 | with_reducible replace hc2 := bn_F hc2 | with_reducible replace hc2 := bb_F hc2 | skip
    obtain rfl : j = p[a].frm.length := by omega
    have hF9 : IRow F 3 fv2 (cutNode K p[a]).frm := by
      rw [List.drop_length, List.append_nil, List.take_of_length_le (by omega)] at hF
      exact hF
    obtain ⟨hil, xs, hR3, hat⟩ := hO
    have htk : ((cutTo p K p.length).take r).length = r := by rw [List.length_take, cutTo_len]; omega
    refine WT_exit rfl ?_
    refine WT_region ?_
    refine WL_v rfl (ov_move rfl) ?_
    refine WL_v rfl (ov_loadN [.int .i64 p[a].kind, fv2, rv2] rfl agg_impl_Node rfl ((fun j v hj => by rw [show Addr.add ⟨g, 0, none⟩ j = ⟨g, j, none⟩ by simp [add_of]]; exact (hH.cb 0 rfl j).trans (by simpa using hj)))) ?_
    refine WL_buildSlice (sz := 3) [.int .i64 p[a].kind, fv2, rv2] rfl hH rfl (run_bs_node hF9.sl hR.sl) rfl (by omega) ?_; rintro Z zv w11 hZ hH11
    refine WL_append1 (i := 6) (j := 0) (n := ((cutTo p K p.length).take r).length) (m := 1) rfl hH11 rfl rfl st_sl_impl_Node (by omega) rfl hR3 rfl hZ (ones_cons rfl (ones_cons hF9.sl.one (ones_cons hR.sl.one ones_nil))) (by omega) (by omega) ?_; rintro O2 ov2 w12 hO2 hH12
    refine WL_v rfl (ov_assign rfl) ?_
    refine WL_nil ?_
    refine WT_inBlock ?_
    refine WT_region ?_
    refine WL_v rfl (ov_add rfl rfl (by omega)) ?_
    refine WL_v rfl (ov_move rfl) ?_
    refine WL_nil ?_
    refine again (r + 1, ov2) _ _ (by simp only; omega) (by repeat (first | exact trivial | refine ⟨rfl, ?_⟩)) ⟨by simp only; omega, Y2, O2, Is ++ [F, R], hY2, ?_, H.lateFR (T := X :: Y2 :: O2 :: Is) hH12.drop.drop⟩
    show OPlan O2 (Is ++ [F, R]) ov2 ((cutTo p K p.length).take (r + 1))
    rw [cut_take hap hka hra, getD_of hap]
    exact OPlan.snoc (x := cutNode K p[a]) hil hR3.len hat hO2 hF9 hR
  first | with_reducible replace hc := of_decide_eq_false hc | with_reducible replace hc := bn_F hc | with_reducible replace hc := bb_F hc | skip
  have hrk : r = numK K p.length := by simp only at hc; omega
  subst hrk
  rw [numsR_all] at hY
  rw [List.take_of_length_le (by rw [cutTo_len]; exact Nat.le_refl _)] at hO
  refine WT_exit rfl ?_
  refine WT_seq ?_
  refine WT_region ?_
  refine WL_v rfl (ov_move rfl) ?_
  refine WL_v rfl (ov_move rfl) ?_
  refine WL_v rfl (ov_assign rfl) ?_
  refine WL_v rfl (ov_assign rfl) ?_
  refine WL_v rfl (ov_assign rfl) ?_
  refine WL_nil ?_
  exact WT_ret3 Try.func24 Try.results24 rfl rfl rfl ⟨K, hK, ov, nv, O, Is, Y, rfl, hO, hY, hH.drop.perm (by
    have := (List.perm_middle (a := Y) (l₁ := O :: Is) (l₂ := Ls)).symm
    simpa using this)⟩
end
end Go.Proofs.Ytafljegjdanldaa

/- Walks: the laws' marks: all of a list or a plan is written over, and read again. -/
namespace Go.Proofs.Ytafljegjdanldaa
open Go.RowKit

/-- Numbers from one on. -/
def marks (k : Int) (n : Nat) : List Int := (List.range n).map fun (j : Nat) => k + (j : Int)
theorem marks_len (k : Int) (n : Nat) : (marks k n).length = n := by simp [marks]
theorem marks_succ (k : Int) (n : Nat) : marks k (n + 1) = marks k n ++ [k + (n : Int)] := by simp [marks, List.range_succ]
theorem marks_get {k : Int} {n j : Nat} (h : j < (marks k n).length) : (marks k n)[j] = k + (j : Int) := by simp [marks]

section
variable {h : GH} {Ls : List Heaplet} {w : World}

/-- A node of a plan of one's own, whatever is in it. -/
def OAtW (Is : List Heaplet) (xs : List Value) (i : Nat) : Prop :=
  ∃ (kv fv rv : Value) (F R : Heaplet) (f r : List Int), xs[i * 3]? = some kv ∧ xs[i * 3 + 1]? = some fv ∧ xs[i * 3 + 2]? = some rv ∧ Is[2 * i]? = some F ∧ Is[2 * i + 1]? = some R ∧ IRow F 3 fv f ∧ IRow R 3 rv r ∧ f.length ≤ 1048576 ∧ r.length ≤ 1048576
theorem OAt.weak {Is : List Heaplet} {xs : List Value} {i : Nat} {x : Nd} (h : OAt Is xs i x) (h1 : x.frm.length ≤ 1048576) (h2 : x.row.length ≤ 1048576) : OAtW Is xs i := by
  obtain ⟨fv, rv, F, R, g1, g2, g3, g4, g5⟩ := h
  exact ⟨_, fv, rv, F, R, _, _, by simpa using g1 0 _ rfl, g1 1 _ rfl, g1 2 _ rfl, g2, g3, g4, g5, h1, h2⟩

end
end Go.Proofs.Ytafljegjdanldaa

/- Walks: lists of lists: one's own, shared; the laws' helpers on them. -/
namespace Go.Proofs.Ytafljegjdanldaa
open Go.RowKit

/-- One of a list of lists of one's own. -/
def OLAt (Is : List Heaplet) (xs : List Value) (i : Nat) (l : List Int) : Prop := ∃ v F, xs[i]? = some v ∧ Is[i]? = some F ∧ IRow F 3 v l
/-- A list of lists of one's own: the outer one, and a part for each. -/
structure OLists (O : Heaplet) (Is : List Heaplet) (v : Value) (ls : List (List Int)) : Prop where
  len : Is.length = ls.length
  ex : ∃ xs, Row O 24 1 v ls.length xs ∧ ∀ i (hi : i < ls.length), OLAt Is xs i ls[i]
theorem OLists.sl {O : Heaplet} {Is : List Heaplet} {v : Value} {ls : List (List Int)} (hO : OLists O Is v ls) : Sl v ls.length := by
  obtain ⟨xs, hR, _⟩ := hO.ex
  exact hR.sl
theorem OLists.nil (O : Heaplet) (v : Value) (h : Row O 24 1 v 0 []) : OLists O [] v [] := ⟨rfl, [], h, fun i hi => by simp at hi⟩

section
variable {h : GH} {Ls : List Heaplet} {w : World}

/-- A list of lists that reads so. -/
structure RdLL (h : GH) (Ls : List Heaplet) (v : Value) (ls : List (List Int)) : Prop where
  sl : Sl v ls.length
  at_ : ∀ {i} (hi : i < ls.length), ∃ u, RdL h Ls u ls[i] ∧ ∀ {w}, H w h Ls → w.cell? ((slA v).add (i * 1)) = some u
/-- A shared list of lists. -/
structure Lists (h : GH) (v : Value) (ls : List (List Int)) : Prop where
  sl : Sl v ls.length
  at_ : ∀ {i} (hi : i < ls.length), ∃ u, Ints h u ls[i] ∧ (slA v).spot = none ∧ ∃ cs e fz, h.blk (slA v).block = some (.cells cs e fz) ∧ cs[(slA v).off + i]? = some u
theorem Lists.mono {h h' : GH} {v : Value} {ls : List (List Int)} (hL : Lists h v ls) (hle : h.Le h') : Lists h' v ls := ⟨hL.sl, fun hi => by
  obtain ⟨u, h1, h2, cs, e, fz, h3, h4⟩ := hL.at_ hi
  exact ⟨u, h1.mono hle, h2, cs, e, fz, hle.blk _ _ h3, h4⟩⟩
theorem Lists.elem {v : Value} {ls : List (List Int)} (hL : Lists h v ls) {i : Nat} (hi : i < ls.length) : ∃ u, Ints h u ls[i] ∧ ∀ {w Ls}, H w h Ls → w.cell? ((slA v).add (i * 1)) = some u := by
  obtain ⟨u, h1, h2, cs, e, fz, h3, h4⟩ := hL.at_ hi
  refine ⟨u, h1, fun hH => ?_⟩
  rw [Nat.mul_one, add_of h2, cell_of_heap (hH.rd _ _ h3)]
  exact h4
theorem Lists.rdll {v : Value} {ls : List (List Int)} (hL : Lists h v ls) (Ls : List Heaplet) : RdLL h Ls v ls := ⟨hL.sl, fun hi => by
  obtain ⟨u, h1, h2⟩ := hL.elem hi
  exact ⟨u, h1.rdl _, fun hH => h2 hH⟩⟩

/-- Where the parts of a list of lists lie. -/
structure LAt (Ls : List Heaplet) (a b : Nat) (O : Heaplet) (Is : List Heaplet) : Prop where
  o : Ls[a]? = some O
  i : ∀ j F, Is[j]? = some F → Ls[b + j]? = some F
theorem LAt.cons {O : Heaplet} {Is Ms : List Heaplet} : LAt (O :: (Is ++ Ms)) 0 1 O Is := ⟨rfl, fun j F hj => by
  rw [show 1 + j = j + 1 by omega, List.getElem?_cons_succ, List.getElem?_append_left (List.getElem?_eq_some_iff.1 hj).1]
  exact hj⟩
theorem LAt.skip {O : Heaplet} {Is Ms : List Heaplet} {a b : Nat} (hL : LAt Ms a b O Is) (A : List Heaplet) : LAt (A ++ Ms) (A.length + a) (A.length + b) O Is :=
  ⟨by rw [List.getElem?_append_right (by omega), Nat.add_sub_cancel_left]; exact hL.o, fun j F hj => by
    rw [Nat.add_assoc, List.getElem?_append_right (by omega), Nat.add_sub_cancel_left]; exact hL.i j F hj⟩
theorem LAt.skip1 {O X : Heaplet} {Is Ms : List Heaplet} {a b : Nat} (hL : LAt Ms a b O Is) : LAt (X :: Ms) (a + 1) (b + 1) O Is :=
  ⟨hL.o, fun j F hj => by rw [show b + 1 + j = b + j + 1 by omega, List.getElem?_cons_succ]; exact hL.i j F hj⟩
theorem OLists.elem {O : Heaplet} {Is : List Heaplet} {v : Value} {ls : List (List Int)} (hO : OLists O Is v ls) {a b : Nat} (hA : LAt Ls a b O Is) {i : Nat} (hi : i < ls.length) :
    ∃ u F, IRow F 3 u ls[i] ∧ Is[i]? = some F ∧ Ls[b + i]? = some F ∧ ∀ {w}, H w h Ls → w.cell? ((slA v).add (i * 1)) = some u := by
  obtain ⟨xs, hR, hat⟩ := hO.ex
  obtain ⟨u, F, h1, h2, h3⟩ := hat i hi
  exact ⟨u, F, h3, h2, hA.i i F h2, fun hH => by rw [Nat.mul_one]; exact hR.cell hH hA.o h1⟩
theorem OLists.rdll {O : Heaplet} {Is : List Heaplet} {v : Value} {ls : List (List Int)} (hO : OLists O Is v ls) {a b : Nat} (hA : LAt Ls a b O Is) : RdLL h Ls v ls := ⟨hO.sl, fun hi => by
  obtain ⟨u, F, h1, _, h2, h3⟩ := hO.elem (h := h) hA hi
  exact ⟨u, h1.rdl h2, fun hH => h3 hH⟩⟩
/-- A list more. -/
theorem OLists.snoc {O O' : Heaplet} {Is : List Heaplet} {v v' : Value} {ls : List (List Int)} {xs : List Value} {l : List Int} {u : Value} {F : Heaplet} (hil : Is.length = ls.length) (hR : Row O 24 1 v ls.length xs) (hat : ∀ i (hi : i < ls.length), OLAt Is xs i ls[i])
    (hO : Row O' 24 1 v' (ls.length + 1) (xs ++ [u])) (hF : IRow F 3 u l) : OLists O' (Is ++ [F]) v' (ls ++ [l]) := by
  have hxl := hR.len
  refine ⟨by simp [hil], _, by simpa using hO, fun i hi => ?_⟩
  rw [List.getElem_append]
  split
  · rename_i h1
    obtain ⟨u', F', g1, g2, g3⟩ := hat i h1
    exact ⟨u', F', by rw [List.getElem?_append_left (List.getElem?_eq_some_iff.1 g1).1]; exact g1, by rw [List.getElem?_append_left (List.getElem?_eq_some_iff.1 g2).1]; exact g2, g3⟩
  · rename_i h1
    have : i = ls.length := by simp at hi; omega
    subst this
    refine ⟨u, F, by rw [List.getElem?_append_right (by omega)]; simp [hxl], by rw [List.getElem?_append_right (by omega)]; simp [hil], by simpa using hF⟩
/-- One of the lists is replaced. -/
theorem OLists.set {O' : Heaplet} {Is : List Heaplet} {v : Value} {ls : List (List Int)} {xs : List Value} {l : List Int} {u : Value} {F : Heaplet} {k : Nat} (hk : k < ls.length) (hil : Is.length = ls.length) (hxl : xs.length = ls.length) (hat : ∀ i (hi : i < ls.length), OLAt Is xs i ls[i])
    (hO : Row O' 24 1 v ls.length (xs.set k u)) (hF : IRow F 3 u l) : OLists O' (Is.set k F) v (ls.set k l) := by
  refine ⟨by simp [hil], _, by simpa using hO, fun i hi => ?_⟩
  have hi' : i < ls.length := by simpa using hi
  rw [List.getElem_set]
  split
  · rename_i h1
    subst h1
    exact ⟨u, F, by rw [List.getElem?_set, if_pos rfl, if_pos (by omega)], by rw [List.getElem?_set, if_pos rfl, if_pos (by omega)], hF⟩
  · rename_i h1
    obtain ⟨u', F', g1, g2, g3⟩ := hat i hi'
    exact ⟨u', F', by rw [List.getElem?_set, if_neg h1]; exact g1, by rw [List.getElem?_set, if_neg h1]; exact g2, g3⟩
/-- It can be shared. -/
theorem OLists.lists {O : Heaplet} {Is : List Heaplet} {v : Value} {ls : List (List Int)} (hO : OLists O Is v ls) {h' : GH} (hX : ∀ q ∈ (O :: Is).flatten, h'.blk q.1 = some q.2) : Lists h' v ls := by
  obtain ⟨xs, hR, hat⟩ := hO.ex
  refine ⟨hR.sl, fun {i} hi => ?_⟩
  obtain ⟨u, F, h1, h2, h3⟩ := hat i hi
  obtain ⟨g1, cs, e, fz, g2, g3⟩ := hR.rd (fun q hq => hX q (by simp [hq])) _ _ h1
  exact ⟨u, h3.ints fun q hq => hX q (by
    simp only [List.flatten_cons]
    exact List.mem_append_right _ (List.mem_flatten.2 ⟨_, List.mem_of_getElem? h2, hq⟩)), g1, cs, e, fz, g2, g3⟩
theorem OLists.freeze {O : Heaplet} {Is : List Heaplet} {v : Value} {ls : List (List Int)} (hO : OLists O Is v ls) (hH : H w h (O :: (Is ++ Ls))) :
    ∃ h', h.Le h' ∧ H w h' Ls ∧ Lists h' v ls ∧ ∀ {w2 Ls2}, H w2 h' Ls2 → H w2 h (O :: (Is ++ Ls2)) := by
  have hH' : H w h ((O :: Is).flatten :: Ls) := by simpa [H] using hH
  obtain ⟨h', hle, hH2, hX2, hnd, _⟩ := hH'.freeze
  exact ⟨h', hle, hH2, hO.lists fun q hq => (hX2 q hq).1, fun hH3 => by simpa [H] using hH3.unfreeze hle hX2 hnd⟩

end
end Go.Proofs.Ytafljegjdanldaa

/- Plain: what kinds do with rows, and the rows of a plan. No program in sight. -/
namespace Go.Proofs.Ytafljegjdanldaa

def bothOk (a b : List Int) : Bool := rowOk a && rowOk b && decide (a.length = b.length)
def pairL (f : Int → Int → Int) (a b : List Int) : List Int := if bothOk a b then List.zipWith (fun x y => f x y % 1009) a b else []
def sumsFrom : Int → List Int → List Int
  | _, [] => []
  | s, x :: r => ((s + x) % 1009) :: sumsFrom ((s + x) % 1009) r
def sumsL (r : List Int) : List Int := if rowOk r then sumsFrom 0 r else []
/-- A number is put into a list: ahead of the first greater one. -/
def putL (n : Int) : List Int → List Int
  | [] => [n]
  | x :: r => if n < x then n :: x :: r else x :: putL n r
def isortL (r : List Int) : List Int := r.foldl (fun acc n => putL n acc) []
def sortL (r : List Int) : List Int := if rowOk r then isortL r else []
def turnL (r : List Int) : List Int := if rowOk r then r.reverse else []
def one1 (f : List Int → List Int) : List (List Int) → List Int
  | [a] => f a
  | _ => []
def two2 (f : List Int → List Int → List Int) : List (List Int) → List Int
  | [a, b] => f a b
  | _ => []
def kindRow (k : Int) (rows : List (List Int)) : List Int :=
  if k = 1 then two2 (pairL (· + ·)) rows else if k = 2 then two2 (pairL (· * ·)) rows else if k = 3 then one1 sumsL rows else if k = 4 then one1 sortL rows else if k = 5 then one1 turnL rows else []
/-- The row of a node from the rows of the ones ahead. -/
def stepL (x : Nd) (rows : List (List Int)) : List Int := if x.kind = 0 then x.row else kindRow x.kind (x.frm.map fun f => rows.getD f.toNat [])
def valsTo (p : List Nd) : Nat → List (List Int)
  | 0 => []
  | n + 1 => valsTo p n ++ [stepL (p.getD n default) (valsTo p n)]
/-- The rows of a plan. -/
abbrev valsL (p : List Nd) : List (List Int) := valsTo p p.length

theorem rowOk_iff (r : List Int) : rowOk r = true ↔ (∀ x ∈ r, 0 ≤ x ∧ x ≤ 1008) ∧ r.length ≤ 6 := by
  simp only [rowOk, Bool.and_eq_true, List.all_eq_true, decide_eq_true_eq]
theorem rowOk_nil : rowOk [] = true := rfl
theorem bothOk_iff (a b : List Int) : bothOk a b = true ↔ rowOk a = true ∧ rowOk b = true ∧ a.length = b.length := by
  simp only [bothOk, Bool.and_eq_true, decide_eq_true_eq, and_assoc]

theorem pairL_len {f : Int → Int → Int} {a b : List Int} (h : bothOk a b = true) : (pairL f a b).length = a.length := by
  have := ((bothOk_iff a b).1 h).2.2
  simp [pairL, h, this]
theorem pairL_ok (f : Int → Int → Int) (a b : List Int) : rowOk (pairL f a b) = true := by
  by_cases h : bothOk a b = true
  · have hl := pairL_len (f := f) h
    have h6 := ((rowOk_iff a).1 ((bothOk_iff a b).1 h).1).2
    refine (rowOk_iff _).2 ⟨fun x hx => ?_, by omega⟩
    rw [pairL, if_pos h] at hx
    obtain ⟨i, hi, rfl⟩ := List.getElem_of_mem hx
    rw [List.getElem_zipWith]
    omega
  · rw [pairL, if_neg h]; rfl
theorem sumsFrom_len : ∀ (s : Int) (r : List Int), (sumsFrom s r).length = r.length
  | _, [] => rfl
  | s, x :: r => by simp [sumsFrom, sumsFrom_len]
theorem sumsFrom_mem : ∀ (s : Int) (r : List Int), ∀ x ∈ sumsFrom s r, 0 ≤ x ∧ x ≤ 1008
  | _, [], x, h => by simp [sumsFrom] at h
  | s, y :: r, x, h => by
    simp only [sumsFrom, List.mem_cons] at h
    rcases h with rfl | h
    · omega
    · exact sumsFrom_mem _ r x h
theorem sumsL_ok (r : List Int) : rowOk (sumsL r) = true := by
  by_cases h : rowOk r = true
  · rw [sumsL, if_pos h]
    exact (rowOk_iff _).2 ⟨sumsFrom_mem 0 r, by rw [sumsFrom_len]; exact ((rowOk_iff r).1 h).2⟩
  · rw [sumsL, if_neg h]; rfl
theorem putL_len (n : Int) : ∀ l : List Int, (putL n l).length = l.length + 1
  | [] => rfl
  | x :: r => by
    unfold putL
    split
    · rfl
    · simp [putL_len n r]
theorem putL_mem (n : Int) : ∀ (l : List Int) (x : Int), x ∈ putL n l ↔ x = n ∨ x ∈ l
  | [], x => by simp [putL]
  | y :: r, x => by
    unfold putL
    split
    · simp
    · rw [List.mem_cons, putL_mem n r, List.mem_cons]
      constructor
      · rintro (h | h | h) <;> simp [h]
      · rintro (h | h | h) <;> simp [h]
theorem putL_sorted (n : Int) : ∀ (l : List Int), l.Pairwise (· ≤ ·) → (putL n l).Pairwise (· ≤ ·)
  | [], _ => by simp [putL]
  | y :: r, h => by
    rw [List.pairwise_cons] at h
    unfold putL
    split
    · rename_i hlt
      refine List.pairwise_cons.2 ⟨fun z hz => ?_, List.pairwise_cons.2 h⟩
      rcases List.mem_cons.1 hz with rfl | hz
      · omega
      · have := h.1 z hz; omega
    · rename_i hlt
      refine List.pairwise_cons.2 ⟨fun z hz => ?_, putL_sorted n r h.2⟩
      rcases (putL_mem n r z).1 hz with rfl | hz
      · omega
      · exact h.1 z hz
theorem putL_perm (n : Int) : ∀ (l : List Int), (putL n l).Perm (n :: l)
  | [] => .refl _
  | y :: r => by
    unfold putL
    split
    · exact .refl _
    · exact ((putL_perm n r).cons y).trans (List.Perm.swap n y r)
/-- Where a number is put that comes behind some and ahead of all others. -/
theorem putL_mid (n : Int) : ∀ (a b : List Int), (∀ x ∈ a, x ≤ n) → (∀ x, b.head? = some x → n < x) → putL n (a ++ b) = a ++ n :: b
  | [], [], _, _ => rfl
  | [], y :: r, _, h => by
    have := h y rfl
    simp [putL, this]
  | x :: a, b, h1, h2 => by
    have := h1 x (by simp)
    rw [List.cons_append, putL, if_neg (by omega), putL_mid n a b (fun y hy => h1 y (by simp [hy])) h2, List.cons_append]
theorem isort_fold : ∀ (r acc : List Int), acc.Pairwise (· ≤ ·) → (r.foldl (fun acc n => putL n acc) acc).Pairwise (· ≤ ·) ∧ (r.foldl (fun acc n => putL n acc) acc).Perm (acc ++ r)
  | [], acc, h => ⟨h, by simp⟩
  | x :: r, acc, h => by
    obtain ⟨h1, h2⟩ := isort_fold r (putL x acc) (putL_sorted x acc h)
    refine ⟨h1, h2.trans ?_⟩
    exact ((putL_perm x acc).append_right r).trans (List.perm_middle.symm)
theorem isort_sorted (r : List Int) : (isortL r).Pairwise (· ≤ ·) := (isort_fold r [] List.Pairwise.nil).1
theorem isort_perm (r : List Int) : (isortL r).Perm r := (isort_fold r [] List.Pairwise.nil).2
theorem isort_len (r : List Int) : (isortL r).length = r.length := (isort_perm r).length_eq
theorem isort_snoc (r : List Int) (x : Int) : isortL (r ++ [x]) = putL x (isortL r) := by simp [isortL, List.foldl_append]
theorem sortL_ok (r : List Int) : rowOk (sortL r) = true := by
  by_cases h : rowOk r = true
  · rw [sortL, if_pos h]
    obtain ⟨h1, h2⟩ := (rowOk_iff r).1 h
    exact (rowOk_iff _).2 ⟨fun x hx => h1 x ((isort_perm r).mem_iff.1 hx), by rw [isort_len]; exact h2⟩
  · rw [sortL, if_neg h]; rfl
theorem turnL_ok (r : List Int) : rowOk (turnL r) = true := by
  by_cases h : rowOk r = true
  · rw [turnL, if_pos h]
    obtain ⟨h1, h2⟩ := (rowOk_iff r).1 h
    exact (rowOk_iff _).2 ⟨fun x hx => h1 x (List.mem_reverse.1 hx), by simpa using h2⟩
  · rw [turnL, if_neg h]; rfl
theorem one1_ok {f : List Int → List Int} (hf : ∀ r, rowOk (f r) = true) (rows : List (List Int)) : rowOk (one1 f rows) = true := by
  unfold one1
  split
  · exact hf _
  · rfl
theorem two2_ok {f : List Int → List Int → List Int} (hf : ∀ a b, rowOk (f a b) = true) (rows : List (List Int)) : rowOk (two2 f rows) = true := by
  unfold two2
  split
  · exact hf _ _
  · rfl
theorem kindRow_ok (k : Int) (rows : List (List Int)) : rowOk (kindRow k rows) = true := by
  unfold kindRow
  split; · exact two2_ok (pairL_ok _) _
  split; · exact two2_ok (pairL_ok _) _
  split; · exact one1_ok sumsL_ok _
  split; · exact one1_ok sortL_ok _
  split; · exact one1_ok turnL_ok _
  rfl
theorem stepL_ok {x : Nd} (h : rowOk x.row = true) (rows : List (List Int)) : rowOk (stepL x rows) = true := by
  unfold stepL
  split
  · exact h
  · exact kindRow_ok _ _

theorem valsTo_len (p : List Nd) : ∀ n, (valsTo p n).length = n
  | 0 => rfl
  | n + 1 => by simp [valsTo, valsTo_len p n]
theorem valsTo_last (p : List Nd) (n : Nat) : (valsTo p (n + 1)).getD n [] = stepL (p.getD n default) (valsTo p n) := by
  have := valsTo_len p n
  rw [valsTo, List.getD_eq_getElem?_getD, List.getElem?_append_right (by omega)]
  simp [this]
theorem valsTo_keep (p : List Nd) {i n : Nat} (hi : i < n) : ∀ {m : Nat}, n ≤ m → (valsTo p m).getD i [] = (valsTo p n).getD i [] := by
  intro m hm
  induction m with
  | zero => omega
  | succ m ih =>
    rcases Nat.lt_or_ge m n with h | h
    · obtain rfl : n = m + 1 := by omega
      rfl
    · rw [← ih h, valsTo, List.getD_eq_getElem?_getD, List.getElem?_append_left (by rw [valsTo_len]; omega), ← List.getD_eq_getElem?_getD]
/-- The row of a node. -/
theorem vals_step (p : List Nd) {i : Nat} (hi : i < p.length) : (valsL p).getD i [] = stepL (p.getD i default) (valsTo p i) := by
  rw [valsTo_keep p (Nat.lt_succ_self i) hi, valsTo_last]
theorem vals_ok {p : List Nd} (hp : planOk p = true) {i : Nat} : rowOk ((valsL p).getD i []) = true := by
  rcases Nat.lt_or_ge i p.length with h | h
  · rw [vals_step p h, getD_of h]
    exact stepL_ok (PlanOk.node hp h).row _
  · rw [List.getD_eq_getElem?_getD, List.getElem?_eq_none (by rw [valsTo_len]; exact h)]
    rfl

end Go.Proofs.Ytafljegjdanldaa

/- Walks: what kinds do with rows. -/
namespace Go.Proofs.Ytafljegjdanldaa
open Go.RowKit

section
variable {h : GH} {Ls : List Heaplet} {w : World}

theorem RdL.up {X : Heaplet} {v : Value} {xs : List Int} (hA : RdL h Ls v xs) : RdL h (X :: Ls) v xs := ⟨hA.sl, fun hH _ hj => hA.cell hH.drop hj⟩
/-- A row, and whether it was made. -/
def RowT (h : GH) (Ls : List Heaplet) (v : Value) (w' : World) (r : List Int) : Prop := ∃ rv b X, v = .tuple #[rv, .bool b] ∧ IRow X 3 rv r ∧ H w' h (X :: Ls)
theorem RowT.none (hH : H w h Ls) : RowT h Ls (.tuple #[.slice none 0 0, .bool false]) w [] := ⟨_, _, [], rfl, IRow.nil _, hH.nilIn⟩
theorem rowOk_F {r : List Int} (h : ¬ rowOk r = true) : rowOk r = false := by simpa using h
theorem rowOk_len6 {r : List Int} (h : rowOk r = true) : r.length ≤ 6 := ((rowOk_iff r).1 h).2
theorem rowOk_at {r : List Int} (h : rowOk r = true) {i : Nat} (hi : i < r.length) : 0 ≤ r[i] ∧ r[i] ≤ 1008 := ((rowOk_iff r).1 h).1 _ (List.getElem_mem hi)

theorem rvValidR_ok (hH : H w h Ls) {rv : Value} {r : List Int} (hR : RdL h Ls rv r) : Rets Try.prog 121 #[rv] w fun v w' => v = .bool (rowOk r) ∧ H w' h Ls := by
  refine rets_enter Try.func121 rfl Try.ntmps121 (by simp) ?_
  refine WT_seq ?_
  refine WT_region ?_
  refine WL_v rfl (ov_assign rfl) ?_
  refine WL_nil ?_
  refine WT_seq ?_
  refine WT_seq ?_
  refine WT_region ?_
  refine WL_v rfl (ov_move rfl) ?_
  refine WL_v rfl (ov_len rfl hR.sl st_impl_rowValues) ?_
  refine WL_v rfl (ov_gtr rfl rfl) ?_
  refine WL_nil ?_
  refine WT_cond rfl (fun hl => ?_) (fun hl => ?_)
  · skip
    first | with_reducible replace hl := of_decide_eq_true hl | with_reducible replace hl := bn_T hl | with_reducible replace hl := bb_T hl | skip
    refine WT_seq ?_
    refine WT_region ?_
    refine WL_v rfl (ov_assign rfl) ?_
    refine WL_nil ?_
    exact WT_ret1 Try.func121 Try.results121 rfl ⟨by rw [rowOk_len (by omega)], hH⟩
  first | with_reducible replace hl := of_decide_eq_false hl | with_reducible replace hl := bn_F hl | with_reducible replace hl := bb_F hl | skip
  refine WT_skip ?_
  refine WT_seq ?_
  refine WT_seq ?_
  refine WT_region ?_
  refine WL_v rfl (ov_move rfl) ?_
  refine WL_v rfl (ov_len rfl hR.sl st_impl_rowValues) ?_
  refine WL_v rfl (ov_move rfl) ?_
  refine WL_nil ?_
  refine WT_block ?_
  refine WT_while (fun s : Nat => [(0, rv), (8, rv), (9, .int .i64 (r.length : Int)), (10, .int .i64 (s : Int))]) (fun k w => k ≤ r.length ∧ (∀ j (_ : j < k) (hjr : j < r.length), 0 ≤ r[j] ∧ r[j] ≤ 1008) ∧ H w h Ls) (fun k => r.length - k) 0 (by repeat (first | exact trivial | refine ⟨rfl, ?_⟩)) ⟨by omega, by omega, hH⟩ ?_
  clear hH
  rintro k w1 ⟨hk, hall, hH⟩ again
  refine WT_seq ?_
  refine WT_region ?_
  refine WL_v rfl (ov_lss rfl rfl) ?_
  refine WL_nil ?_
  refine WT_seq ?_
  refine WT_cond rfl (fun hc => ?_) (fun hc => ?_)
  · skip
    first | with_reducible replace hc := of_decide_eq_true hc | with_reducible replace hc := bn_T hc | with_reducible replace hc := bb_T hc | skip
    have hkr : k < r.length := by omega
    by_cases h1 : r[k] < 0
    · skip
      refine WT_skip ?_
      refine WT_seq ?_
      refine WT_block ?_
      refine WT_seq ?_
      refine WT_region ?_
      refine WL_v rfl (ov_index rfl rfl st_impl_rowValues hR.sl hkr) ?_
      refine WL_v rfl (ov_load rfl one_int (hR.cell hH hkr)) ?_
      refine WL_v rfl (ov_assign rfl) ?_
      refine WL_nil ?_
      refine WT_seq ?_
      refine WT_region ?_
      refine WL_v rfl (ov_move rfl) ?_
      refine WL_v rfl (ov_T (ov_lss rfl rfl) (by first | exact decide_eq_true h1 | exact nb_T h1 | exact mb_T h1 | exact h1 | (simp only [decide_eq_true_eq]; omega) | simpa using h1)) ?_
      refine WL_v rfl (ov_move rfl) ?_
      refine WL_guardOff rfl rfl rfl rfl ?_
      refine WL_guardOff rfl rfl rfl rfl ?_
      refine WL_v rfl (ov_pickT rfl rfl) ?_
      refine WL_nil ?_
      refine WT_condT rfl ?_
      refine WT_seq ?_
      refine WT_region ?_
      refine WL_v rfl (ov_assign rfl) ?_
      refine WL_nil ?_
      exact WT_ret1 Try.func121 Try.results121 rfl ⟨by rw [rowOk_bad hkr (by omega)], hH⟩
    refine WT_skip ?_
    refine WT_seq ?_
    refine WT_block ?_
    refine WT_seq ?_
    refine WT_region ?_
    refine WL_v rfl (ov_index rfl rfl st_impl_rowValues hR.sl hkr) ?_
    refine WL_v rfl (ov_load rfl one_int (hR.cell hH hkr)) ?_
    refine WL_v rfl (ov_assign rfl) ?_
    refine WL_nil ?_
    refine WT_seq ?_
    refine WT_region ?_
    refine WL_v rfl (ov_move rfl) ?_
    refine WL_v rfl (ov_F (ov_lss rfl rfl) (by first | exact decide_eq_false h1 | exact nb_F h1 | exact mb_F h1 | exact h1 | (simp only [decide_eq_false_iff_not]; omega) | simpa using h1)) ?_
    refine WL_v rfl (ov_move rfl) ?_
    refine WL_guardOn rfl rfl ?_
    refine WL_v rfl (ov_move rfl) ?_
    refine WL_guardOn rfl rfl ?_
    refine WL_v rfl (ov_geq rfl rfl) ?_
    refine WL_v rfl (ov_pickF rfl rfl) ?_
    refine WL_nil ?_
    refine WT_cond rfl (fun h2 => ?_) (fun h2 => ?_)
    · skip
      first | with_reducible replace h2 := of_decide_eq_true h2 | with_reducible replace h2 := bn_T h2 | with_reducible replace h2 := bb_T h2 | skip
      refine WT_seq ?_
      refine WT_region ?_
      refine WL_v rfl (ov_assign rfl) ?_
      refine WL_nil ?_
      exact WT_ret1 Try.func121 Try.results121 rfl ⟨by rw [rowOk_bad hkr (by omega)], hH⟩
    first | with_reducible replace h2 := of_decide_eq_false h2 | with_reducible replace h2 := bn_F h2 | with_reducible replace h2 := bb_F h2 | skip
    refine WT_skip ?_
    refine WT_inBlock ?_
    refine WT_region ?_
    refine WL_v rfl (ov_add rfl rfl (by omega)) ?_
    refine WL_v rfl (ov_move rfl) ?_
    refine WL_nil ?_
    refine again (k + 1) _ _ (by omega) (by repeat (first | exact trivial | refine ⟨rfl, ?_⟩)) ⟨by omega, fun j hj hjr => ?_, hH⟩
    rcases Nat.lt_or_ge j k with h1 | h1
    · exact hall j h1 hjr
    · obtain rfl : j = k := by omega
      omega
  first | with_reducible replace hc := of_decide_eq_false hc | with_reducible replace hc := bn_F hc | with_reducible replace hc := bb_F hc | skip
  obtain rfl : k = r.length := by omega
  refine WT_exit rfl ?_
  refine WT_seq ?_
  refine WT_region ?_
  refine WL_v rfl (ov_assign rfl) ?_
  refine WL_nil ?_
  exact WT_ret1 Try.func121 Try.results121 rfl ⟨by rw [rowOk_good (by omega) (fun j hj => hall j hj hj)], hH⟩

theorem sRowValidR_ok (hH : H w h Ls) {rv : Value} {r : List Int} (hR : RdL h Ls rv r) : Rets Try.prog 102 #[rv] w fun v w' => v = .bool (rowOk r) ∧ H w' h Ls := by
  have hlim := hR.sl.lim
  refine rets_enter Try.func102 rfl Try.ntmps102 (by simp) ?_
  refine WT_seq ?_
  refine WT_region ?_
  refine WL_v rfl (ov_assign rfl) ?_
  refine WL_nil ?_
  refine WT_seq ?_
  refine WT_seq ?_
  refine WT_region ?_
  refine WL_v rfl (ov_assign rfl) ?_
  refine WL_nil ?_
  refine WT_block ?_
  refine WT_while (fun s : Nat => [(0, rv), (3, .int .i64 (s : Int))]) (fun k w => k ≤ r.length ∧ (∀ j (hj : j < k) (hjr : j < r.length), 0 ≤ r[j] ∧ r[j] ≤ 1008) ∧ H w h Ls) (fun k => r.length - k) 0 (by repeat (first | exact trivial | refine ⟨rfl, ?_⟩)) ⟨by omega, by omega, hH⟩ ?_
  clear hH
  rintro k w1 ⟨hk, hall, hH⟩ again
  refine WT_seq ?_
  refine WT_seq ?_
  refine WT_region ?_
  refine WL_v rfl (ov_move rfl) ?_
  refine WL_v rfl (ov_move rfl) ?_
  refine WL_v rfl (ov_len rfl hR.sl st_sl_int) ?_
  refine WL_v rfl (ov_lss rfl rfl) ?_
  refine WL_nil ?_
  refine WT_cond rfl (fun hc => ?_) (fun hc => ?_)
  · skip
    first | with_reducible replace hc := of_decide_eq_true hc | with_reducible replace hc := bn_T hc | with_reducible replace hc := bb_T hc | skip
    have hkr : k < r.length := by omega
    refine WT_skip ?_
    refine WT_seq ?_
    refine WT_block ?_
    refine WT_seq ?_
    refine WT_region ?_
    refine WL_v rfl (ov_move rfl) ?_
    refine WL_v rfl (ov_move rfl) ?_
    refine WL_v rfl (ov_index rfl rfl st_sl_int hR.sl hkr) ?_
    refine WL_v rfl (ov_load rfl one_int (hR.cell hH hkr)) ?_
    refine WL_call rfl rfl cf_spec_l6In (l6In_ok hH _ _ _) ?_; rintro _ w2 ⟨rfl, hH2⟩
    refine WL_v rfl (ov_not rfl) ?_
    refine WL_nil ?_
    refine WT_cond rfl (fun hin => ?_) (fun hin => ?_)
    · skip
      first | with_reducible replace hin := of_decide_eq_true hin | with_reducible replace hin := bn_T hin | with_reducible replace hin := bb_T hin | skip
      refine WT_seq ?_
      refine WT_region ?_
      refine WL_v rfl (ov_assign rfl) ?_
      refine WL_nil ?_
      exact WT_ret1 Try.func102 Try.results102 rfl ⟨congrArg Value.bool (by rw [rowOk, List.all_eq_false.2 ⟨_, List.getElem_mem hkr, by simpa using hin⟩, Bool.false_and]), hH2⟩
    first | with_reducible replace hin := of_decide_eq_false hin | with_reducible replace hin := bn_F hin | with_reducible replace hin := bb_F hin | skip
    refine WT_skip ?_
    refine WT_inBlock ?_
    refine WT_region ?_
    refine WL_v rfl (ov_move rfl) ?_
    refine WL_v rfl (ov_add rfl rfl (by omega)) ?_
    refine WL_v rfl (ov_assign rfl) ?_
    refine WL_nil ?_
    refine again (k + 1) _ _ (by omega) (by repeat (first | exact trivial | refine ⟨rfl, ?_⟩)) ⟨by omega, fun j hj hjr => ?_, hH2⟩
    rcases Nat.lt_or_ge j k with h1 | h1
    · exact hall j h1 hjr
    · obtain rfl : j = k := by omega
      exact hin
  first | with_reducible replace hc := of_decide_eq_false hc | with_reducible replace hc := bn_F hc | with_reducible replace hc := bb_F hc | skip
  obtain rfl : k = r.length := by omega
  refine WT_exit rfl ?_
  refine WT_seq ?_
  refine WT_region ?_
  refine WL_v rfl (ov_move rfl) ?_
  refine WL_v rfl (ov_len rfl hR.sl st_sl_int) ?_
  refine WL_v rfl (ov_leq rfl rfl) ?_
  refine WL_v rfl (ov_assign rfl) ?_
  refine WL_nil ?_
  exact WT_ret1 Try.func102 Try.results102 rfl ⟨congrArg Value.bool (by rw [rowOk, List.all_eq_true.2 (fun x hx => by obtain ⟨j, hj, rfl⟩ := List.mem_iff_getElem.1 hx; simpa using hall j hj hj), Bool.true_and]; exact decide_eq_decide.2 (by omega)), hH⟩

theorem pairL_snoc {f : Int → Int → Int} {a b : List Int} {k : Nat} (ha : k < a.length) (hb : k < b.length) : (List.zipWith (fun x y => f x y % 1009) a b).take (k + 1) = (List.zipWith (fun x y => f x y % 1009) a b).take k ++ [f a[k] b[k] % 1009] := by
  rw [List.take_succ_eq_append_getElem (by simp; omega), List.getElem_zipWith]

theorem join_ok (hH : H w h Ls) {av bv : Value} {a b : List Int} {fid : FuncId} {f : Int → Int → Int} (hA : RdL h Ls av a) (hB : RdL h Ls bv b)
    (hcf : ∀ (vs : Array Value) (W : World), (callFunc fid vs).run Try.prog W = .ok (.enter fid vs) W)
    (hf : ∀ {w : World} {Ls : List Heaplet} (x y : Int), 0 ≤ x → x ≤ 1008 → 0 ≤ y → y ≤ 1008 → H w h Ls → Rets Try.prog fid #[.int .i64 x, .int .i64 y] w fun v w' => v = .int .i64 (f x y) ∧ H w' h Ls)
    (hfp : ∀ x y : Int, 0 ≤ x → x ≤ 1008 → 0 ≤ y → y ≤ 1008 → 0 ≤ f x y) :
    Rets Try.prog 118 #[av, bv, .func (.func fid) #[] #[]] w fun v w' => RowT h Ls v w' (pairL f a b) := by
  have hva := fun {w : World} (hH : H w h Ls) => rvValidR_ok hH hA
  have hvb := fun {w : World} (hH : H w h Ls) => rvValidR_ok hH hB
  refine rets_enter Try.func118 rfl Try.ntmps118 (by simp) ?_
  by_cases ha : rowOk a = true
  · skip
    rw [ha] at hva
    by_cases hb : rowOk b = true
    · skip
      rw [hb] at hvb
      by_cases hl : a.length = b.length
      · skip
        have h6 := rowOk_len6 ha
        have hboth : bothOk a b = true := (bothOk_iff a b).2 ⟨ha, hb, hl⟩
        rw [pairL, if_pos hboth]
        refine WT_seq ?_
        refine WT_region ?_
        refine WL_v rfl (ov_assign rfl) ?_
        refine WL_v rfl (ov_assign rfl) ?_
        refine WL_nil ?_
        refine WT_seq ?_
        refine WT_seq ?_
        refine WT_region ?_
        refine WL_v rfl (ov_move rfl) ?_
        refine WL_call rfl rfl cf_impl_rowValues_valid (hva hH) ?_; rintro _ w1 ⟨rfl, hH1⟩
        refine WL_v rfl (ov_not rfl) ?_
        refine WL_v rfl (ov_move rfl) ?_
        refine WL_guardOn rfl rfl ?_
        refine WL_v rfl (ov_move rfl) ?_
        refine WL_guardOn rfl rfl ?_
        refine WL_call rfl rfl cf_impl_rowValues_valid (hvb hH1) ?_; rintro _ w2 ⟨rfl, hH2⟩
        refine WL_guardOn rfl rfl ?_
        refine WL_v rfl (ov_not rfl) ?_
        refine WL_v rfl (ov_pickF rfl rfl) ?_
        refine WL_v rfl (ov_move rfl) ?_
        refine WL_guardOn rfl rfl ?_
        refine WL_v rfl (ov_move rfl) ?_
        refine WL_guardOn rfl rfl ?_
        refine WL_v rfl (ov_len rfl hA.sl st_impl_rowValues) ?_
        refine WL_guardOn rfl rfl ?_
        refine WL_v rfl (ov_move rfl) ?_
        refine WL_guardOn rfl rfl ?_
        refine WL_v rfl (ov_len rfl hB.sl st_impl_rowValues) ?_
        refine WL_guardOn rfl rfl ?_
        refine WL_v rfl (ov_F (ov_neq rfl rfl) (by first | exact decide_eq_false (by simp [hl]) | exact nb_F (by simp [hl]) | exact mb_F (by simp [hl]) | exact (by simp [hl]) | (simp only [decide_eq_false_iff_not]; omega) | simpa using (by simp [hl]))) ?_
        refine WL_v rfl (ov_pickF rfl rfl) ?_
        refine WL_nil ?_
        refine WT_condF rfl ?_
        refine WT_skip ?_
        refine WT_seq ?_
        refine WT_region ?_
        refine WL_v rfl (ov_move rfl) ?_
        refine WL_v rfl (ov_len rfl hA.sl st_impl_rowValues) ?_
        refine WL_makeI rfl hH2 rfl rfl st_impl_rowValues (by omega) (by omega) ?_; rintro X0 xv w3 hX0 hH3
        refine WL_v rfl (ov_assign rfl) ?_
        refine WL_nil ?_
        refine WT_seq ?_
        refine WT_seq ?_
        refine WT_region ?_
        refine WL_v rfl (ov_move rfl) ?_
        refine WL_v rfl (ov_len rfl hA.sl st_impl_rowValues) ?_
        refine WL_v rfl (ov_move rfl) ?_
        refine WL_nil ?_
        refine WT_block ?_
        refine WT_while (fun s : Nat => [(0, av), (1, bv), (2, .func (.func fid) #[] #[]), (8, xv), (29, av), (30, .int .i64 (a.length : Int)), (31, .int .i64 (s : Int))]) (fun k w => k ≤ a.length ∧ ∃ X, IRow X 3 xv ((List.zipWith (fun x y => f x y % 1009) a b).take k ++ List.replicate (a.length - k) 0) ∧ H w h (X :: Ls)) (fun k => a.length - k) 0 (by repeat (first | exact trivial | refine ⟨rfl, ?_⟩)) ⟨by omega, X0, by simpa using hX0, hH3⟩ ?_
        clear hH hH1 hH2 hH3 hX0 hva hvb
        rintro k w4 ⟨hk, X, hX, hH⟩ again
        refine WT_seq ?_
        refine WT_region ?_
        refine WL_v rfl (ov_lss rfl rfl) ?_
        refine WL_nil ?_
        refine WT_seq ?_
        refine WT_cond rfl (fun hc => ?_) (fun hc => ?_)
        · skip
          first | with_reducible replace hc := of_decide_eq_true hc | with_reducible replace hc := bn_T hc | with_reducible replace hc := bb_T hc | skip
          have hka : k < a.length := by omega
          have hkb : k < b.length := by omega
          have hrep : List.replicate (a.length - k) (0 : Int) = 0 :: List.replicate (a.length - (k + 1)) 0 := by
            rw [show a.length - k = (a.length - (k + 1)) + 1 by omega, List.replicate_succ]
          rw [hrep] at hX
          have htl : ((List.zipWith (fun x y => f x y % 1009) a b).take k).length = k := by simp; omega
          have hkx : k < ((List.zipWith (fun x y => f x y % 1009) a b).take k ++ (0 : Int) :: List.replicate (a.length - (k + 1)) 0).length := by simp; omega
          have hax := rowOk_at ha hka
          have hbx := rowOk_at hb hkb
          refine WT_skip ?_
          refine WT_seq ?_
          refine WT_block ?_
          refine WT_seq ?_
          refine WT_region ?_
          refine WL_v rfl (ov_move rfl) ?_
          refine WL_v rfl (ov_index rfl rfl st_impl_rowValues hA.sl hka) ?_
          refine WL_v rfl (ov_load rfl one_int (hA.cell hH.drop hka)) ?_
          refine WL_v rfl (ov_assign rfl) ?_
          refine WL_v rfl (ov_assign rfl) ?_
          refine WL_nil ?_
          refine WT_region ?_
          refine WL_v rfl (ov_move rfl) ?_
          refine WL_v rfl (ov_move rfl) ?_
          refine WL_v rfl (ov_move rfl) ?_
          refine WL_v rfl (ov_move rfl) ?_
          refine WL_v rfl (ov_move rfl) ?_
          refine WL_v rfl (ov_move rfl) ?_
          refine WL_v rfl (ov_index rfl rfl st_impl_rowValues hB.sl hkb) ?_
          refine WL_v rfl (ov_load rfl one_int (hB.cell hH.drop hkb)) ?_
          refine WL_callV (ws := [.int .i64 a[k], .int .i64 b[k]]) rfl rfl rfl rfl hcf (hf _ _ hax.1 hax.2 hbx.1 hbx.2 hH) ?_; rintro _ w5 ⟨rfl, hH5⟩
          refine WL_v rfl (ov_rem rfl rfl (hfp _ _ hax.1 hax.2 hbx.1 hbx.2) (by decide)) ?_
          refine WL_v rfl (ov_index rfl rfl st_impl_rowValues hX.sl hkx) ?_
          refine WL_storeI hH5 rfl rfl (i := 0) rfl hX hkx sz_int ?_; rintro X2 w6 hX2 hH6
          refine WL_nil ?_
          refine WT_inBlock ?_
          refine WT_region ?_
          refine WL_v rfl (ov_add rfl rfl (by omega)) ?_
          refine WL_v rfl (ov_move rfl) ?_
          refine WL_nil ?_
          rw [set_mid _ _ _ _ _ htl] at hX2
          refine again (k + 1) _ _ (by omega) (by repeat (first | exact trivial | refine ⟨rfl, ?_⟩)) ⟨by omega, X2, by rw [pairL_snoc hka hkb, List.append_assoc]; exact hX2, hH6⟩
        first | with_reducible replace hc := of_decide_eq_false hc | with_reducible replace hc := bn_F hc | with_reducible replace hc := bb_F hc | skip
        obtain rfl : k = a.length := by omega
        refine WT_exit rfl ?_
        refine WT_seq ?_
        refine WT_region ?_
        refine WL_v rfl (ov_move rfl) ?_
        refine WL_v rfl (ov_assign rfl) ?_
        refine WL_v rfl (ov_assign rfl) ?_
        refine WL_nil ?_
        exact WT_ret2 Try.func118 Try.results118 rfl rfl ⟨_, _, X, rfl, by rw [List.take_of_length_le (by simp; omega), Nat.sub_self] at hX; simpa using hX, hH⟩
      · skip
        have hboth : ¬ bothOk a b = true := fun hh => hl ((bothOk_iff a b).1 hh).2.2
        rw [pairL, if_neg hboth]
        refine WT_seq ?_
        refine WT_region ?_
        refine WL_v rfl (ov_assign rfl) ?_
        refine WL_v rfl (ov_assign rfl) ?_
        refine WL_nil ?_
        refine WT_seq ?_
        refine WT_seq ?_
        refine WT_region ?_
        refine WL_v rfl (ov_move rfl) ?_
        refine WL_call rfl rfl cf_impl_rowValues_valid (hva hH) ?_; rintro _ w1 ⟨rfl, hH1⟩
        refine WL_v rfl (ov_not rfl) ?_
        refine WL_v rfl (ov_move rfl) ?_
        refine WL_guardOn rfl rfl ?_
        refine WL_v rfl (ov_move rfl) ?_
        refine WL_guardOn rfl rfl ?_
        refine WL_call rfl rfl cf_impl_rowValues_valid (hvb hH1) ?_; rintro _ w2 ⟨rfl, hH2⟩
        refine WL_guardOn rfl rfl ?_
        refine WL_v rfl (ov_not rfl) ?_
        refine WL_v rfl (ov_pickF rfl rfl) ?_
        refine WL_v rfl (ov_move rfl) ?_
        refine WL_guardOn rfl rfl ?_
        refine WL_v rfl (ov_move rfl) ?_
        refine WL_guardOn rfl rfl ?_
        refine WL_v rfl (ov_len rfl hA.sl st_impl_rowValues) ?_
        refine WL_guardOn rfl rfl ?_
        refine WL_v rfl (ov_move rfl) ?_
        refine WL_guardOn rfl rfl ?_
        refine WL_v rfl (ov_len rfl hB.sl st_impl_rowValues) ?_
        refine WL_guardOn rfl rfl ?_
        refine WL_v rfl (ov_T (ov_neq rfl rfl) (by first | exact decide_eq_true (by omega) | exact nb_T (by omega) | exact mb_T (by omega) | exact (by omega) | (simp only [decide_eq_true_eq]; omega) | simpa using (by omega))) ?_
        refine WL_v rfl (ov_pickF rfl rfl) ?_
        refine WL_nil ?_
        refine WT_condT rfl ?_
        refine WT_seq ?_
        refine WT_region ?_
        refine WL_v rfl (ov_assign rfl) ?_
        refine WL_v rfl (ov_assign rfl) ?_
        refine WL_nil ?_
        exact WT_ret2 Try.func118 Try.results118 rfl rfl (RowT.none hH2)
    · skip
      rw [rowOk_F hb] at hvb
      have hboth : ¬ bothOk a b = true := fun hh => hb ((bothOk_iff a b).1 hh).2.1
      rw [pairL, if_neg hboth]
      refine WT_seq ?_
      refine WT_region ?_
      refine WL_v rfl (ov_assign rfl) ?_
      refine WL_v rfl (ov_assign rfl) ?_
      refine WL_nil ?_
      refine WT_seq ?_
      refine WT_seq ?_
      refine WT_region ?_
      refine WL_v rfl (ov_move rfl) ?_
      refine WL_call rfl rfl cf_impl_rowValues_valid (hva hH) ?_; rintro _ w1 ⟨rfl, hH1⟩
      refine WL_v rfl (ov_not rfl) ?_
      refine WL_v rfl (ov_move rfl) ?_
      refine WL_guardOn rfl rfl ?_
      refine WL_v rfl (ov_move rfl) ?_
      refine WL_guardOn rfl rfl ?_
      refine WL_call rfl rfl cf_impl_rowValues_valid (hvb hH1) ?_; rintro _ w2 ⟨rfl, hH2⟩
      refine WL_guardOn rfl rfl ?_
      refine WL_v rfl (ov_not rfl) ?_
      refine WL_v rfl (ov_pickF rfl rfl) ?_
      refine WL_v rfl (ov_move rfl) ?_
      refine WL_guardOff rfl rfl rfl rfl ?_
      refine WL_guardOff rfl rfl rfl rfl ?_
      refine WL_guardOff rfl rfl rfl rfl ?_
      refine WL_guardOff rfl rfl rfl rfl ?_
      refine WL_guardOff rfl rfl rfl rfl ?_
      refine WL_v rfl (ov_pickT rfl rfl) ?_
      refine WL_nil ?_
      refine WT_condT rfl ?_
      refine WT_seq ?_
      refine WT_region ?_
      refine WL_v rfl (ov_assign rfl) ?_
      refine WL_v rfl (ov_assign rfl) ?_
      refine WL_nil ?_
      exact WT_ret2 Try.func118 Try.results118 rfl rfl (RowT.none hH2)
  · skip
    rw [rowOk_F ha] at hva
    have hboth : ¬ bothOk a b = true := fun hh => ha ((bothOk_iff a b).1 hh).1
    rw [pairL, if_neg hboth]
    refine WT_seq ?_
    refine WT_region ?_
    refine WL_v rfl (ov_assign rfl) ?_
    refine WL_v rfl (ov_assign rfl) ?_
    refine WL_nil ?_
    refine WT_seq ?_
    refine WT_seq ?_
    refine WT_region ?_
    refine WL_v rfl (ov_move rfl) ?_
    refine WL_call rfl rfl cf_impl_rowValues_valid (hva hH) ?_; rintro _ w1 ⟨rfl, hH1⟩
    refine WL_v rfl (ov_not rfl) ?_
    refine WL_v rfl (ov_move rfl) ?_
    refine WL_guardOff rfl rfl rfl rfl ?_
    refine WL_guardOff rfl rfl rfl rfl ?_
    refine WL_guardOff rfl rfl rfl rfl ?_
    refine WL_v rfl (ov_pickT rfl rfl) ?_
    refine WL_v rfl (ov_move rfl) ?_
    refine WL_guardOff rfl rfl rfl rfl ?_
    refine WL_guardOff rfl rfl rfl rfl ?_
    refine WL_guardOff rfl rfl rfl rfl ?_
    refine WL_guardOff rfl rfl rfl rfl ?_
    refine WL_guardOff rfl rfl rfl rfl ?_
    refine WL_v rfl (ov_pickT rfl rfl) ?_
    refine WL_nil ?_
    refine WT_condT rfl ?_
    refine WT_seq ?_
    refine WT_region ?_
    refine WL_v rfl (ov_assign rfl) ?_
    refine WL_v rfl (ov_assign rfl) ?_
    refine WL_nil ?_
    exact WT_ret2 Try.func118 Try.results118 rfl rfl (RowT.none hH1)

theorem addF_ok (x y : Int) (h1 : 0 ≤ x) (h2 : x ≤ 1008) (h3 : 0 ≤ y) (h4 : y ≤ 1008) (hH : H w h Ls) : Rets Try.prog 119 #[.int .i64 x, .int .i64 y] w fun v w' => v = .int .i64 (x + y) ∧ H w' h Ls := by
  refine rets_enter Try.func119 rfl Try.ntmps119 (by simp) ?_
  refine WT_seq ?_
  refine WT_region ?_
  refine WL_v rfl (ov_assign rfl) ?_
  refine WL_nil ?_
  refine WT_seq ?_
  refine WT_region ?_
  refine WL_v rfl (ov_move rfl) ?_
  refine WL_v rfl (ov_move rfl) ?_
  refine WL_v rfl (ov_add rfl rfl (by omega)) ?_
  refine WL_v rfl (ov_assign rfl) ?_
  refine WL_nil ?_
  exact WT_ret1 Try.func119 Try.results119 rfl ⟨rfl, hH⟩
theorem mul_small {x y : Int} (h1 : 0 ≤ x) (h2 : x ≤ 1008) (h3 : 0 ≤ y) (h4 : y ≤ 1008) : 0 ≤ x * y ∧ x * y ≤ 1016064 :=
  ⟨Int.mul_nonneg h1 h3, by have := Int.mul_le_mul h2 h4 h3 (by decide); omega⟩
theorem mulF_ok (x y : Int) (h1 : 0 ≤ x) (h2 : x ≤ 1008) (h3 : 0 ≤ y) (h4 : y ≤ 1008) (hH : H w h Ls) : Rets Try.prog 120 #[.int .i64 x, .int .i64 y] w fun v w' => v = .int .i64 (x * y) ∧ H w' h Ls := by
  have hm := mul_small h1 h2 h3 h4
  refine rets_enter Try.func120 rfl Try.ntmps120 (by simp) ?_
  refine WT_seq ?_
  refine WT_region ?_
  refine WL_v rfl (ov_assign rfl) ?_
  refine WL_nil ?_
  refine WT_seq ?_
  refine WT_region ?_
  refine WL_v rfl (ov_move rfl) ?_
  refine WL_v rfl (ov_move rfl) ?_
  refine WL_v rfl (ov_mul rfl rfl (by omega)) ?_
  refine WL_v rfl (ov_assign rfl) ?_
  refine WL_nil ?_
  exact WT_ret1 Try.func120 Try.results120 rfl ⟨rfl, hH⟩
theorem cf_addF (vs : Array Value) (W : World) : (callFunc 119 vs).run Try.prog W = .ok (.enter 119 vs) W := by kernel_rfl
theorem cf_mulF (vs : Array Value) (W : World) : (callFunc 120 vs).run Try.prog W = .ok (.enter 120 vs) W := by kernel_rfl
theorem rowAdd_ok (hH : H w h Ls) {av bv : Value} {a b : List Int} (hA : RdL h Ls av a) (hB : RdL h Ls bv b) : Rets Try.prog 103 #[av, bv] w fun v w' => RowT h Ls v w' (pairL (· + ·) a b) := by
  refine rets_enter Try.func103 rfl Try.ntmps103 (by simp) ?_
  refine WT_seq ?_
  refine WT_region ?_
  refine WL_v rfl (ov_assign rfl) ?_
  refine WL_v rfl (ov_assign rfl) ?_
  refine WL_nil ?_
  refine WT_seq ?_
  refine WT_region ?_
  refine WL_v rfl (ov_move rfl) ?_
  refine WL_v rfl (ov_move rfl) ?_
  refine WL_call rfl rfl cf_impl_rowValues_join (join_ok hH hA hB cf_addF (fun x y h1 h2 h3 h4 hH => addF_ok x y h1 h2 h3 h4 hH) (fun x y _ _ _ _ => by omega)) ?_; rintro _ w1 ⟨rv, ok, X, rfl, hX, hH1⟩
  refine WL_v rfl (ov_extract rfl rfl) ?_
  refine WL_v rfl (ov_extract rfl rfl) ?_
  refine WL_v rfl (ov_assign rfl) ?_
  refine WL_v rfl (ov_assign rfl) ?_
  refine WL_nil ?_
  exact WT_ret2 Try.func103 Try.results103 rfl rfl ⟨rv, ok, X, rfl, hX, hH1⟩
theorem rowTimes_ok (hH : H w h Ls) {av bv : Value} {a b : List Int} (hA : RdL h Ls av a) (hB : RdL h Ls bv b) : Rets Try.prog 104 #[av, bv] w fun v w' => RowT h Ls v w' (pairL (· * ·) a b) := by
  refine rets_enter Try.func104 rfl Try.ntmps104 (by simp) ?_
  refine WT_seq ?_
  refine WT_region ?_
  refine WL_v rfl (ov_assign rfl) ?_
  refine WL_v rfl (ov_assign rfl) ?_
  refine WL_nil ?_
  refine WT_seq ?_
  refine WT_region ?_
  refine WL_v rfl (ov_move rfl) ?_
  refine WL_v rfl (ov_move rfl) ?_
  refine WL_call rfl rfl cf_impl_rowValues_join (join_ok hH hA hB cf_mulF (fun x y h1 h2 h3 h4 hH => mulF_ok x y h1 h2 h3 h4 hH) (fun x y h1 h2 h3 h4 => (mul_small h1 h2 h3 h4).1)) ?_; rintro _ w1 ⟨rv, ok, X, rfl, hX, hH1⟩
  refine WL_v rfl (ov_extract rfl rfl) ?_
  refine WL_v rfl (ov_extract rfl rfl) ?_
  refine WL_v rfl (ov_assign rfl) ?_
  refine WL_v rfl (ov_assign rfl) ?_
  refine WL_nil ?_
  exact WT_ret2 Try.func104 Try.results104 rfl rfl ⟨rv, ok, X, rfl, hX, hH1⟩

theorem sumsFrom_take (s : Int) : ∀ (r : List Int) (k : Nat), (sumsFrom s r).take k = sumsFrom s (r.take k)
  | _, 0 => by simp [sumsFrom]
  | [], k + 1 => by simp [sumsFrom]
  | x :: r, k + 1 => by simp [sumsFrom, sumsFrom_take _ r k]
/-- The sum behind some of a row. -/
def sumAt (r : List Int) (k : Nat) : Int := (r.take k).foldl (fun s x => (s + x) % 1009) 0
theorem sumAt_succ {r : List Int} {k : Nat} (hk : k < r.length) : sumAt r (k + 1) = (sumAt r k + r[k]) % 1009 := by
  rw [sumAt, List.take_succ_eq_append_getElem hk, List.foldl_append]; rfl
theorem sumAt_range (r : List Int) : ∀ k, k ≤ r.length → 0 ≤ sumAt r k ∧ sumAt r k ≤ 1008
  | 0, _ => by simp [sumAt]
  | k + 1, h => by rw [sumAt_succ (by omega)]; omega
theorem sumsFrom_snoc (s : Int) : ∀ (r : List Int) (x : Int), sumsFrom s (r ++ [x]) = sumsFrom s r ++ [(r.foldl (fun s x => (s + x) % 1009) s + x) % 1009]
  | [], x => rfl
  | y :: r, x => by simp [sumsFrom, sumsFrom_snoc _ r x]
theorem sums_take {r : List Int} {k : Nat} (hk : k < r.length) : sumsFrom 0 (r.take (k + 1)) = sumsFrom 0 (r.take k) ++ [sumAt r (k + 1)] := by
  rw [List.take_succ_eq_append_getElem hk, sumsFrom_snoc, sumAt_succ hk]; rfl

theorem sums_ok (hH : H w h Ls) {av : Value} {r : List Int} (hA : RdL h Ls av r) (hr : rowOk r = true) : Rets Try.prog 122 #[av] w fun v w' => ∃ X, IRow X 3 v (sumsFrom 0 r) ∧ H w' h (X :: Ls) := by
  have h6 := rowOk_len6 hr
  refine rets_enter Try.func122 rfl Try.ntmps122 (by simp) ?_
  refine WT_seq ?_
  refine WT_region ?_
  refine WL_v rfl (ov_assign rfl) ?_
  refine WL_nil ?_
  refine WT_seq ?_
  refine WT_region ?_
  refine WL_v rfl (ov_move rfl) ?_
  refine WL_v rfl (ov_len rfl hA.sl st_impl_rowValues) ?_
  refine WL_makeI rfl hH rfl rfl st_impl_rowValues (by omega) (by omega) ?_; rintro X0 xv w1 hX0 hH1
  refine WL_v rfl (ov_assign rfl) ?_
  refine WL_nil ?_
  refine WT_seq ?_
  refine WT_region ?_
  refine WL_v rfl (ov_assign rfl) ?_
  refine WL_nil ?_
  refine WT_seq ?_
  refine WT_seq ?_
  refine WT_region ?_
  refine WL_v rfl (ov_move rfl) ?_
  refine WL_v rfl (ov_len rfl hA.sl st_impl_rowValues) ?_
  refine WL_v rfl (ov_move rfl) ?_
  refine WL_nil ?_
  refine WT_block ?_
  refine WT_while (fun s : Nat => [(0, av), (3, xv), (4, .int .i64 (sumAt r s)), (10, av), (11, .int .i64 (r.length : Int)), (12, .int .i64 (s : Int))]) (fun k w => k ≤ r.length ∧ ∃ X, IRow X 3 xv (sumsFrom 0 (r.take k) ++ List.replicate (r.length - k) 0) ∧ H w h (X :: Ls)) (fun k => r.length - k) 0 (by repeat (first | exact trivial | refine ⟨rfl, ?_⟩)) ⟨by omega, X0, by simpa [sumsFrom] using hX0, hH1⟩ ?_
  clear hH hH1 hX0
  rintro k w2 ⟨hk, X, hX, hH⟩ again
  refine WT_seq ?_
  refine WT_region ?_
  refine WL_v rfl (ov_lss rfl rfl) ?_
  refine WL_nil ?_
  refine WT_seq ?_
  refine WT_cond rfl (fun hc => ?_) (fun hc => ?_)
  · skip
    first | with_reducible replace hc := of_decide_eq_true hc | with_reducible replace hc := bn_T hc | with_reducible replace hc := bb_T hc | skip
    have hkr : k < r.length := by omega
    have hrep : List.replicate (r.length - k) (0 : Int) = 0 :: List.replicate (r.length - (k + 1)) 0 := by
      rw [show r.length - k = (r.length - (k + 1)) + 1 by omega, List.replicate_succ]
    rw [hrep] at hX
    have htl : (sumsFrom 0 (r.take k)).length = k := by rw [sumsFrom_len, List.length_take]; omega
    have hkx : k < (sumsFrom 0 (r.take k) ++ (0 : Int) :: List.replicate (r.length - (k + 1)) 0).length := by rw [List.length_append, htl]; simp
    have hx := rowOk_at hr hkr
    have hs := sumAt_range r k hk
    have hss := sumAt_succ hkr
    refine WT_skip ?_
    refine WT_seq ?_
    refine WT_block ?_
    refine WT_seq ?_
    refine WT_region ?_
    refine WL_v rfl (ov_move rfl) ?_
    refine WL_v rfl (ov_index rfl rfl st_impl_rowValues hA.sl hkr) ?_
    refine WL_v rfl (ov_load rfl one_int (hA.cell hH.drop hkr)) ?_
    refine WL_v rfl (ov_assign rfl) ?_
    refine WL_v rfl (ov_assign rfl) ?_
    refine WL_nil ?_
    refine WT_seq ?_
    refine WT_region ?_
    refine WL_v rfl (ov_move rfl) ?_
    refine WL_v rfl (ov_move rfl) ?_
    refine WL_v rfl (ov_add rfl rfl (by omega)) ?_
    refine WL_v rfl (ov_as (ov_rem rfl rfl (by omega) (by decide)) (congrArg (Value.int .i64) hss.symm)) ?_
    refine WL_v rfl (ov_assign rfl) ?_
    refine WL_nil ?_
    refine WT_region ?_
    refine WL_v rfl (ov_move rfl) ?_
    refine WL_v rfl (ov_move rfl) ?_
    refine WL_v rfl (ov_move rfl) ?_
    refine WL_v rfl (ov_index rfl rfl st_impl_rowValues hX.sl hkx) ?_
    refine WL_storeI hH rfl rfl (i := 0) rfl hX hkx sz_int ?_; rintro X2 w3 hX2 hH3
    refine WL_nil ?_
    refine WT_inBlock ?_
    refine WT_region ?_
    refine WL_v rfl (ov_add rfl rfl (by omega)) ?_
    refine WL_v rfl (ov_move rfl) ?_
    refine WL_nil ?_
    rw [set_mid _ _ _ _ _ htl] at hX2
    refine again (k + 1) _ _ (by omega) (by repeat (first | exact trivial | refine ⟨rfl, ?_⟩)) ⟨by omega, X2, by rw [sums_take hkr, List.append_assoc]; exact hX2, hH3⟩
  first | with_reducible replace hc := of_decide_eq_false hc | with_reducible replace hc := bn_F hc | with_reducible replace hc := bb_F hc | skip
  obtain rfl : k = r.length := by omega
  refine WT_exit rfl ?_
  refine WT_seq ?_
  refine WT_region ?_
  refine WL_v rfl (ov_move rfl) ?_
  refine WL_v rfl (ov_assign rfl) ?_
  refine WL_nil ?_
  exact WT_ret1 Try.func122 Try.results122 rfl ⟨X, by rw [List.take_length, Nat.sub_self] at hX; simpa using hX, hH⟩

theorem rowSums_ok (hH : H w h Ls) {av : Value} {r : List Int} (hA : RdL h Ls av r) : Rets Try.prog 105 #[av] w fun v w' => RowT h Ls v w' (sumsL r) := by
  have hva := fun {w : World} (hH : H w h Ls) => rvValidR_ok hH hA
  refine rets_enter Try.func105 rfl Try.ntmps105 (by simp) ?_
  by_cases hr : rowOk r = true
  · skip
    rw [hr] at hva
    rw [sumsL, if_pos hr]
    refine WT_seq ?_
    refine WT_region ?_
    refine WL_v rfl (ov_assign rfl) ?_
    refine WL_v rfl (ov_assign rfl) ?_
    refine WL_nil ?_
    refine WT_seq ?_
    refine WT_region ?_
    refine WL_v rfl (ov_move rfl) ?_
    refine WL_v rfl (ov_assign rfl) ?_
    refine WL_nil ?_
    refine WT_seq ?_
    refine WT_seq ?_
    refine WT_region ?_
    refine WL_v rfl (ov_move rfl) ?_
    refine WL_call rfl rfl cf_impl_rowValues_valid (hva hH) ?_; rintro _ w1 ⟨rfl, hH1⟩
    refine WL_v rfl (ov_not rfl) ?_
    refine WL_nil ?_
    refine WT_condF rfl ?_
    refine WT_skip ?_
    refine WT_seq ?_
    refine WT_region ?_
    refine WL_v rfl (ov_move rfl) ?_
    refine WL_call rfl rfl cf_impl_rowValues_sums (sums_ok hH1 hA hr) ?_; rintro v w2 ⟨X, hX, hH2⟩
    refine WL_v rfl (ov_assign rfl) ?_
    refine WL_v rfl (ov_assign rfl) ?_
    refine WL_nil ?_
    exact WT_ret2 Try.func105 Try.results105 rfl rfl ⟨_, _, X, rfl, hX, hH2⟩
  · skip
    rw [rowOk_F hr] at hva
    rw [sumsL, if_neg hr]
    refine WT_seq ?_
    refine WT_region ?_
    refine WL_v rfl (ov_assign rfl) ?_
    refine WL_v rfl (ov_assign rfl) ?_
    refine WL_nil ?_
    refine WT_seq ?_
    refine WT_region ?_
    refine WL_v rfl (ov_move rfl) ?_
    refine WL_v rfl (ov_assign rfl) ?_
    refine WL_nil ?_
    refine WT_seq ?_
    refine WT_seq ?_
    refine WT_region ?_
    refine WL_v rfl (ov_move rfl) ?_
    refine WL_call rfl rfl cf_impl_rowValues_valid (hva hH) ?_; rintro _ w1 ⟨rfl, hH1⟩
    refine WL_v rfl (ov_not rfl) ?_
    refine WL_nil ?_
    refine WT_condT rfl ?_
    refine WT_seq ?_
    refine WT_region ?_
    refine WL_v rfl (ov_assign rfl) ?_
    refine WL_v rfl (ov_assign rfl) ?_
    refine WL_nil ?_
    exact WT_ret2 Try.func105 Try.results105 rfl rfl (RowT.none hH1)

/-! Sorting. -/
theorem isNaN_ok (hH : H w h Ls) (x : Int) : Rets Try.prog 153 #[.int .i64 x] w fun v w' => v = .bool false ∧ H w' h Ls := by
  refine rets_enter Try.func153 rfl Try.ntmps153 (by simp) ?_
  refine WT_seq ?_
  refine WT_region ?_
  refine WL_v rfl (ov_assign rfl) ?_
  refine WL_nil ?_
  refine WT_seq ?_
  refine WT_region ?_
  refine WL_v rfl (ov_move rfl) ?_
  refine WL_v rfl (ov_move rfl) ?_
  refine WL_v rfl (ov_F (ov_neq rfl rfl) (by first | exact decide_eq_false rfl | exact nb_F rfl | exact mb_F rfl | exact rfl | (simp only [decide_eq_false_iff_not]; omega) | simpa using rfl)) ?_
  refine WL_v rfl (ov_assign rfl) ?_
  refine WL_nil ?_
  exact WT_ret1 Try.func153 Try.results153 rfl ⟨rfl, hH⟩
theorem less_ok (hH : H w h Ls) (x y : Int) : Rets Try.prog 143 #[.int .i64 x, .int .i64 y] w fun v w' => v = .bool (decide (x < y)) ∧ H w' h Ls := by
  refine rets_enter Try.func143 rfl Try.ntmps143 (by simp) ?_
  refine WT_seq ?_
  refine WT_region ?_
  refine WL_v rfl (ov_assign rfl) ?_
  refine WL_nil ?_
  refine WT_seq ?_
  refine WT_region ?_
  refine WL_v rfl (ov_move rfl) ?_
  refine WL_call rfl rfl cf_cmp_isNaN_int (isNaN_ok hH x) ?_; rintro _ w1 ⟨rfl, hH1⟩
  refine WL_v rfl (ov_move rfl) ?_
  refine WL_guardOff rfl rfl rfl rfl ?_
  refine WL_guardOff rfl rfl rfl rfl ?_
  refine WL_guardOff rfl rfl rfl rfl ?_
  refine WL_v rfl (ov_pickF rfl rfl) ?_
  refine WL_v rfl (ov_move rfl) ?_
  refine WL_guardOn rfl rfl ?_
  refine WL_v rfl (ov_move rfl) ?_
  refine WL_guardOn rfl rfl ?_
  refine WL_v rfl (ov_move rfl) ?_
  refine WL_guardOn rfl rfl ?_
  refine WL_v rfl (ov_lss rfl rfl) ?_
  refine WL_v rfl (ov_pickF rfl rfl) ?_
  refine WL_v rfl (ov_assign rfl) ?_
  refine WL_nil ?_
  exact WT_ret1 Try.func143 Try.results143 rfl ⟨rfl, hH1⟩
end
end Go.Proofs.Ytafljegjdanldaa

/- Walks: rows are sorted and turned; what a kind does with rows. -/
namespace Go.Proofs.Ytafljegjdanldaa
open Go.RowKit

section
variable {h : GH} {Ls : List Heaplet} {w : World}

theorem get_mid2 (A R : List Int) (y x : Int) (n : Nat) (h : A.length = n) (hn : n + 1 < (A ++ y :: x :: R).length) : (A ++ y :: x :: R)[n + 1] = x := by
  subst h
  rw [List.getElem_append_right (by omega)]
  simp
theorem set_mid2 (A R : List Int) (y x u : Int) (n : Nat) (h : A.length = n) : (A ++ y :: x :: R).set (n + 1) u = A ++ y :: u :: R := by
  subst h
  rw [List.set_append_right _ _ (by omega)]
  simp

set_option maxHeartbeats 1000000 in
theorem insSort_ok {X : Heaplet} (hH : H w h (X :: Ls)) {v : Value} {xs : List Int} (hX : IRow X 3 v xs) (hl : xs.length ≤ 12) : Rets Try.prog 137 #[v, .int .i64 0, .int .i64 (xs.length : Int)] w fun _ w' => ∃ X', IRow X' 3 v (isortL xs) ∧ H w' h (X' :: Ls) := by
  refine rets_enter Try.func137 rfl Try.ntmps137 (by simp) ?_
  refine WT_seq ?_
  refine WT_region ?_
  refine WL_v rfl (ov_move rfl) ?_
  refine WL_v rfl (ov_add rfl rfl (by omega)) ?_
  refine WL_v rfl (ov_assign rfl) ?_
  refine WL_nil ?_
  refine WT_block ?_
  have h0 : isortL (xs.take 1) ++ xs.drop 1 = xs := by
    cases xs with
    | nil => rfl
    | cons x r => rfl
  refine WT_while (fun s : Nat => [(0, v), (1, .int .i64 0), (2, .int .i64 (xs.length : Int)), (6, .int .i64 (s : Int))]) (fun s w => 1 ≤ s ∧ (s ≤ xs.length ∨ s = 1) ∧ ∃ X, IRow X 3 v (isortL (xs.take s) ++ xs.drop s) ∧ H w h (X :: Ls)) (fun s => xs.length - s) 1 (by repeat (first | exact trivial | refine ⟨rfl, ?_⟩)) ⟨by omega, by omega, X, by rw [h0]; exact hX, hH⟩ ?_
  clear hH hX h0 X
  rintro s w1 ⟨hs1, hs, X, hX, hH⟩ again
  refine WT_seq ?_
  refine WT_seq ?_
  refine WT_region ?_
  refine WL_v rfl (ov_move rfl) ?_
  refine WL_v rfl (ov_move rfl) ?_
  refine WL_v rfl (ov_lss rfl rfl) ?_
  refine WL_nil ?_
  refine WT_cond rfl (fun hc => ?_) (fun hc => ?_)
  · skip
    first | with_reducible replace hc := of_decide_eq_true hc | with_reducible replace hc := bn_T hc | with_reducible replace hc := bb_T hc | skip
    have hsx : s < xs.length := by omega
    have hPl : (isortL (xs.take s)).length = s := by rw [isort_len, List.length_take]; omega
    have hsort := isort_sorted (xs.take s)
    have htk : isortL (xs.take (s + 1)) = putL xs[s] (isortL (xs.take s)) := by rw [List.take_succ_eq_append_getElem hsx, isort_snoc]
    have hdr : xs.drop s = xs[s] :: xs.drop (s + 1) := List.drop_eq_getElem_cons hsx
    rw [hdr] at hX
    clear hdr
    generalize isortL (xs.take s) = P at hPl hsort htk hX
    generalize xs[s] = x at htk hX
    generalize hD : xs.drop (s + 1) = D at hX
    refine WT_skip ?_
    refine WT_seq ?_
    refine WT_block ?_
    refine WT_seq ?_
    refine WT_region ?_
    refine WL_v rfl (ov_move rfl) ?_
    refine WL_v rfl (ov_assign rfl) ?_
    refine WL_nil ?_
    refine WT_block ?_
    refine WT_while (fun j : Nat => [(0, v), (1, .int .i64 0), (2, .int .i64 (xs.length : Int)), (6, .int .i64 (s : Int)), (7, .int .i64 (j : Int))]) (fun j w => j ≤ s ∧ (∀ y ∈ P.drop j, x < y) ∧ ∃ X, IRow X 3 v (P.take j ++ x :: (P.drop j ++ D)) ∧ H w h (X :: Ls)) (fun j => j) s (by repeat (first | exact trivial | refine ⟨rfl, ?_⟩)) ⟨Nat.le_refl _, by rw [← hPl, List.drop_length]; simp, X, by rw [← hPl, List.drop_length, List.take_length]; simpa using hX, hH⟩ ?_
    clear hH hX X
    rintro j w2 ⟨hj, hgt, X, hX, hH⟩ again2
    have stop : (∀ y ∈ P.take j, y ≤ x) → P.take j ++ x :: (P.drop j ++ D) = isortL (xs.take (s + 1)) ++ D := fun hle => by
      rw [htk]
      have := putL_mid x (P.take j) (P.drop j) hle (fun y hy => hgt y (List.mem_of_head? hy))
      rw [List.take_append_drop] at this
      rw [this, List.append_assoc]; rfl
    cases j with
    | zero =>
      refine WT_seq ?_
      refine WT_seq ?_
      refine WT_quiet mixed (by kernel_rfl) hH ?_
      clear hH
      refine WQ_v rfl (fun _ _ => ov_move rfl) ?_
      refine WQ_v rfl (fun _ _ => ov_move rfl) ?_
      refine WQ_v rfl (fun _ _ => ov_F (ov_gtr rfl rfl) (by first | exact decide_eq_false (by omega) | exact nb_F (by omega) | exact mb_F (by omega) | exact (by omega) | (simp only [decide_eq_false_iff_not]; omega) | simpa using (by omega))) ?_
      refine WQ_v rfl (fun _ _ => ov_move rfl) ?_
      refine WQ_guardOff rfl rfl rfl rfl ?_
      refine WQ_guardOff rfl rfl rfl rfl ?_
      refine WQ_guardOff rfl rfl rfl rfl ?_
      refine WQ_guardOff rfl rfl rfl rfl ?_
      refine WQ_guardOff rfl rfl rfl rfl ?_
      refine WQ_guardOff rfl rfl rfl rfl ?_
      refine WQ_guardOff rfl rfl rfl rfl ?_
      refine WQ_guardOff rfl rfl rfl rfl ?_
      refine WQ_guardOff rfl rfl rfl rfl ?_
      refine WQ_guardOff rfl rfl rfl rfl ?_
      refine WQ_v rfl (fun _ _ => ov_pickF rfl rfl) ?_
      refine WQ_nil ?_
      intro w3 hH
      refine WT_condF rfl ?_
      refine WT_exit rfl ?_
      refine WT_inBlock ?_
      refine WT_region ?_
      refine WL_v rfl (ov_move rfl) ?_
      refine WL_v rfl (ov_add rfl rfl (by omega)) ?_
      refine WL_v rfl (ov_assign rfl) ?_
      refine WL_nil ?_
      rw [stop (by simp)] at hX
      refine again (s + 1) _ _ (by omega) (by repeat (first | exact trivial | refine ⟨rfl, ?_⟩)) ⟨by omega, by omega, X, ?_, hH⟩
      rw [hD]
      exact hX
    | succ m =>
      have hmP : m < P.length := by omega
      have hAl : (P.take m).length = m := by rw [List.length_take]; omega
      have ht1 : P.take (m + 1) = P.take m ++ [P[m]] := List.take_succ_eq_append_getElem hmP
      have hfm : P.take (m + 1) ++ x :: (P.drop (m + 1) ++ D) = P.take m ++ P[m] :: x :: (P.drop (m + 1) ++ D) := by rw [ht1, List.append_assoc]; rfl
      rw [hfm] at hX
      have hml : m < (P.take m ++ P[m] :: x :: (P.drop (m + 1) ++ D)).length := by rw [List.length_append, hAl]; simp
      have hjl : m + 1 < (P.take m ++ P[m] :: x :: (P.drop (m + 1) ++ D)).length := by rw [List.length_append, hAl]; simp
      have hgm : (P.take m ++ P[m] :: x :: (P.drop (m + 1) ++ D))[m] = P[m] := getElem_mid _ _ _ _ hAl hml
      have hgj : (P.take m ++ P[m] :: x :: (P.drop (m + 1) ++ D))[m + 1] = x := get_mid2 _ _ _ _ _ hAl hjl
      refine WT_seq ?_
      refine WT_seq ?_
      refine WT_quiet mixed (by kernel_rfl) hH ?_
      clear hH
      refine WQ_v rfl (fun _ _ => ov_move rfl) ?_
      refine WQ_v rfl (fun _ _ => ov_move rfl) ?_
      refine WQ_v rfl (fun _ _ => ov_T (ov_gtr rfl rfl) (by first | exact decide_eq_true (by omega) | exact nb_T (by omega) | exact mb_T (by omega) | exact (by omega) | (simp only [decide_eq_true_eq]; omega) | simpa using (by omega))) ?_
      refine WQ_v rfl (fun _ _ => ov_move rfl) ?_
      refine WQ_guardOn rfl rfl ?_
      refine WQ_v rfl (fun _ _ => ov_move rfl) ?_
      refine WQ_guardOn rfl rfl ?_
      refine WQ_v rfl (fun _ _ => ov_move rfl) ?_
      refine WQ_guardOn rfl rfl ?_
      refine WQ_v rfl (fun _ _ => ov_index rfl rfl st_sl_int hX.sl hjl) ?_
      refine WQ_guardOn rfl rfl ?_
      refine WQ_v rfl (fun _ hH => ov_load rfl one_int (hX.cell hH (i := 0) rfl hjl)) ?_; rw [hgj]
      refine WQ_guardOn rfl rfl ?_
      refine WQ_v rfl (fun _ _ => ov_move rfl) ?_
      refine WQ_guardOn rfl rfl ?_
      refine WQ_v rfl (fun _ _ => ov_move rfl) ?_
      refine WQ_guardOn rfl rfl ?_
      refine WQ_v rfl (fun _ _ => ov_as (ov_sub rfl rfl (by omega)) (congrArg (Value.int .i64) ((show ((m + 1 : Nat) : Int) - 1 = (m : Int) by omega)))) ?_
      refine WQ_guardOn rfl rfl ?_
      refine WQ_v rfl (fun _ _ => ov_index rfl rfl st_sl_int hX.sl hml) ?_
      refine WQ_guardOn rfl rfl ?_
      refine WQ_v rfl (fun _ hH => ov_load rfl one_int (hX.cell hH (i := 0) rfl hml)) ?_; rw [hgm]
      refine WQ_guardOn rfl rfl ?_
      refine WQ_call rfl rfl cf_cmp_Less_int (fun _ hH => less_ok hH _ _) ?_
      refine WQ_v rfl (fun _ _ => ov_pickT rfl rfl) ?_
      refine WQ_nil ?_
      intro w3 hH
      refine WT_cond rfl (fun hlt => ?_) (fun hlt => ?_)
      · skip
        first | with_reducible replace hlt := of_decide_eq_true hlt | with_reducible replace hlt := bn_T hlt | with_reducible replace hlt := bb_T hlt | skip
        refine WT_skip ?_
        refine WT_seq ?_
        refine WT_block ?_
        refine WT_mixO (i := 0) [(0, 1), (1, 1), (2, 1), (3, 1), (4, 1), (5, 1), (6, 1), (7, 1), (8, 1), (9, 0), (10, 1), (11, 1), (12, 1), (13, 0), (14, 1), (15, 3), (16, 1), (17, 3)] mixed (by kernel_rfl) hH rfl ?_
        clear hH
        intro w4 hH hC
        refine WM_p rfl rfl (fun _ => ov_move rfl) ?_
        refine WM_p rfl rfl (fun _ => ov_move rfl) ?_
        refine WM_p rfl rfl (fun _ => ov_move rfl) ?_
        refine WM_p rfl rfl (fun _ => ov_move rfl) ?_
        refine WM_p rfl rfl (fun _ => ov_as (ov_sub rfl rfl (by omega)) (congrArg (Value.int .i64) ((show ((m + 1 : Nat) : Int) - 1 = (m : Int) by omega)))) ?_
        refine WM_p rfl rfl (fun _ => ov_move rfl) ?_
        refine WM_p rfl rfl (fun _ => ov_move rfl) ?_
        refine WM_p rfl rfl (fun _ => ov_as (ov_sub rfl rfl (by omega)) (congrArg (Value.int .i64) ((show ((m + 1 : Nat) : Int) - 1 = (m : Int) by omega)))) ?_
        refine WM_p rfl rfl (fun _ => ov_index rfl rfl st_sl_int hX.sl hml) ?_
        refine WM_v rfl rfl hC (fun _ ⟨_, hH⟩ => ov_load rfl one_int (hX.cell hH (i := 1) rfl hml)) ?_; rw [hgm]
        refine WM_p rfl rfl (fun _ => ov_move rfl) ?_
        refine WM_p rfl rfl (fun _ => ov_move rfl) ?_
        refine WM_p rfl rfl (fun _ => ov_index rfl rfl st_sl_int hX.sl hjl) ?_
        refine WM_v rfl rfl hC (fun _ ⟨_, hH⟩ => ov_load rfl one_int (hX.cell hH (i := 1) rfl hjl)) ?_; rw [hgj]
        refine WM_p rfl rfl (fun _ => ov_index rfl rfl st_sl_int hX.sl hjl) ?_
        refine WM_e rfl ?_
        refine WL_storeI hH rfl rfl (i := 0) rfl hX hjl sz_int ?_; rintro X2 w5 hX2 hH5
        refine WL_mix (fun h => absurd rfl h) ?_
        refine WM_p rfl rfl (fun _ => ov_index rfl rfl st_sl_int hX.sl hml) ?_
        refine WM_e rfl ?_
        rw [set_mid2 _ _ _ _ _ _ hAl] at hX2; have hml2 : m < (P.take m ++ P[m] :: P[m] :: (P.drop (m + 1) ++ D)).length := by {rw [List.length_append, hAl]; simp}; refine WL_storeI hH5 rfl rfl (i := 0) rfl hX2 hml2 sz_int ?_; rintro X3 w6 hX3 hH6
        refine WL_mix (fun h => absurd rfl h) ?_
        refine WM_nil ?_
        refine WT_inBlock ?_
        refine WT_region ?_
        refine WL_v rfl (ov_move rfl) ?_
        refine WL_v rfl (ov_as (ov_sub rfl rfl (by omega)) (congrArg (Value.int .i64) ((show ((m + 1 : Nat) : Int) - 1 = (m : Int) by omega)))) ?_
        refine WL_v rfl (ov_assign rfl) ?_
        refine WL_nil ?_
        rw [set_mid _ _ _ _ _ hAl] at hX3
        refine again2 m _ _ (by omega) (by repeat (first | exact trivial | refine ⟨rfl, ?_⟩)) ⟨by omega, fun y hy => ?_, X3, ?_, hH6⟩
        · rw [List.drop_eq_getElem_cons hmP] at hy
          rcases List.mem_cons.1 hy with rfl | hy
          · exact hlt
          · exact hgt y hy
        · rw [List.drop_eq_getElem_cons hmP]
          exact hX3
      first | with_reducible replace hlt := of_decide_eq_false hlt | with_reducible replace hlt := bn_F hlt | with_reducible replace hlt := bb_F hlt | skip
      refine WT_exit rfl ?_
      refine WT_inBlock ?_
      refine WT_region ?_
      refine WL_v rfl (ov_move rfl) ?_
      refine WL_v rfl (ov_add rfl rfl (by omega)) ?_
      refine WL_v rfl (ov_assign rfl) ?_
      refine WL_nil ?_
      rw [← hfm, stop (fun y hy => ?_)] at hX
      · refine again (s + 1) _ _ (by omega) (by repeat (first | exact trivial | refine ⟨rfl, ?_⟩)) ⟨by omega, by omega, X, ?_, hH⟩
        rw [hD]
        exact hX
      · obtain ⟨i, hi, rfl⟩ := List.getElem_of_mem hy
        rw [List.length_take] at hi
        rw [List.getElem_take]
        rcases Nat.lt_or_ge i m with h1 | h1
        · have := List.pairwise_iff_getElem.1 hsort i m (by omega) hmP h1
          omega
        · obtain rfl : i = m := by omega
          omega
  first | with_reducible replace hc := of_decide_eq_false hc | with_reducible replace hc := bn_F hc | with_reducible replace hc := bb_F hc | skip
  refine WT_exit rfl ?_
  exact WT_end0 Try.func137 Try.results137 ⟨X, by
    rw [List.take_of_length_le (by omega), List.drop_of_length_le (by omega), List.append_nil] at hX
    exact hX, hH⟩
end
end Go.Proofs.Ytafljegjdanldaa

/- Walks: rows are sorted and turned; what a kind does with rows. -/
namespace Go.Proofs.Ytafljegjdanldaa
open Go.RowKit

theorem ov_index0 {P : Program} {env : Env} {w : World} {ty t : TypeId} {x y : Operand} {v u r : Value} (hx : ev env x = some v) (hy : ev env y = some u) (hr : ∀ W, (Instr.index t v u).run P W = .ok r W) : OpV P env w (.index t x y) ty r :=
  fun _ _ _ ρ hρ => by simp [execOp, hρ.1 x _ hx, hρ.1 y _ hy, hr]
theorem ov_taK {P : Program} {env : Env} {w : World} {ty : TypeId} {x : Operand} {v r : Value} {t at' : TypeId} {b : Bool} (hx : ev env x = some v) (hr : ∀ W, (Instr.typeAssert v t at' b).run P W = .ok r W) : OpV P env w (.typeAssert x t at' b) ty r :=
  fun _ _ _ ρ hρ => by simp [execOp, hρ.1 x _ hx, hr]
/-- A function as a value. -/
abbrev fnV (f : Nat) : Value := .func (.func f) #[] #[]
theorem taP_nil (W : World) : (Instr.typeAssert .nilIface 99 103 true).run Try.prog W = .ok (.tuple #[.agg #[.nilFunc], .bool false]) W := by kernel_rfl
theorem taP_given (W : World) : (Instr.typeAssert (.iface 128 (.agg #[])) 99 103 true).run Try.prog W = .ok (.tuple #[.agg #[.nilFunc], .bool false]) W := by kernel_rfl
theorem taP_lone (f : Nat) (W : World) : (Instr.typeAssert (.iface 107 (.agg #[.func (.func f) #[] #[]])) 99 103 true).run Try.prog W = .ok (.tuple #[.agg #[.nilFunc], .bool false]) W := by kernel_rfl
theorem taP_pair (f : Nat) (W : World) : (Instr.typeAssert (.iface 103 (.agg #[.func (.func f) #[] #[]])) 99 103 true).run Try.prog W = .ok (.tuple #[.agg #[.func (.func f) #[] #[]], .bool true]) W := by kernel_rfl
theorem taL_nil (W : World) : (Instr.typeAssert .nilIface 99 107 true).run Try.prog W = .ok (.tuple #[.agg #[.nilFunc], .bool false]) W := by kernel_rfl
theorem taL_given (W : World) : (Instr.typeAssert (.iface 128 (.agg #[])) 99 107 true).run Try.prog W = .ok (.tuple #[.agg #[.nilFunc], .bool false]) W := by kernel_rfl
theorem taL_lone (f : Nat) (W : World) : (Instr.typeAssert (.iface 107 (.agg #[.func (.func f) #[] #[]])) 99 107 true).run Try.prog W = .ok (.tuple #[.agg #[.func (.func f) #[] #[]], .bool true]) W := by kernel_rfl
theorem zero_pairK (W : World) : (zeroValue 103).run Try.prog W = .ok (.agg #[.nilFunc]) W := by kernel_rfl
theorem zero_loneK (W : World) : (zeroValue 107).run Try.prog W = .ok (.agg #[.nilFunc]) W := by kernel_rfl

theorem cf_impl_RowAdd (vs : Array Value) (W : World) : (callFunc 103 vs).run Try.prog W = .ok (.enter 103 vs) W := by kernel_rfl
theorem cf_impl_RowTimes (vs : Array Value) (W : World) : (callFunc 104 vs).run Try.prog W = .ok (.enter 104 vs) W := by kernel_rfl
theorem cf_impl_RowSums (vs : Array Value) (W : World) : (callFunc 105 vs).run Try.prog W = .ok (.enter 105 vs) W := by kernel_rfl
theorem cf_impl_RowSort (vs : Array Value) (W : World) : (callFunc 106 vs).run Try.prog W = .ok (.enter 106 vs) W := by kernel_rfl
theorem cf_impl_RowTurn (vs : Array Value) (W : World) : (callFunc 107 vs).run Try.prog W = .ok (.enter 107 vs) W := by kernel_rfl

/-- How many bits a small number has. -/
def bits6 : Nat → Nat
  | 0 => 0
  | 1 => 1
  | 2 => 2
  | 3 => 2
  | _ => 3
theorem bits6_le (n : Nat) : bits6 n ≤ 3 := by unfold bits6; split <;> omega
theorem wrapN {n : Nat} (h : n ≤ 6) : IntKind.u64.wrap (n : Int) = (n : Int) ∧ IntKind.u8.wrap (n : Int) = (n : Int) ∧ IntKind.i64.wrap (n : Int) = (n : Int) := by
  have : ∀ k : Fin 7, IntKind.u64.wrap ((k.val : Nat) : Int) = (k.val : Int) ∧ IntKind.u8.wrap ((k.val : Nat) : Int) = (k.val : Int) ∧ IntKind.i64.wrap ((k.val : Nat) : Int) = (k.val : Int) := by decide
  exact this ⟨n, by omega⟩

section
variable {h : GH} {Ls : List Heaplet} {w : World}
theorem len64_ok (hH : H w h Ls) {n : Nat} (hn : n ≤ 6) : Rets Try.prog 147 #[.int .u64 (n : Int)] w fun v w' => v = .int .i64 (bits6 n : Int) ∧ H w' h Ls := by
  have hb := bits6_le n
  refine rets_enter Try.func147 rfl Try.ntmps147 (by simp) ?_
  refine WT_seq ?_
  refine WT_region ?_
  refine WL_v rfl (ov_assign rfl) ?_
  refine WL_nil ?_
  refine WT_seq ?_
  refine WT_seq ?_
  refine WT_region ?_
  refine WL_v rfl (ov_move rfl) ?_
  refine WL_v rfl (ov_F (ov_geq rfl rfl) (by first | exact decide_eq_false (by omega) | exact nb_F (by omega) | exact mb_F (by omega) | exact (by omega) | (simp only [decide_eq_false_iff_not]; omega) | simpa using (by omega))) ?_
  refine WL_nil ?_
  refine WT_condF rfl ?_
  refine WT_skip ?_
  refine WT_seq ?_
  refine WT_seq ?_
  refine WT_region ?_
  refine WL_v rfl (ov_move rfl) ?_
  refine WL_v rfl (ov_F (ov_geq rfl rfl) (by first | exact decide_eq_false (by omega) | exact nb_F (by omega) | exact mb_F (by omega) | exact (by omega) | (simp only [decide_eq_false_iff_not]; omega) | simpa using (by omega))) ?_
  refine WL_nil ?_
  refine WT_condF rfl ?_
  refine WT_skip ?_
  refine WT_seq ?_
  refine WT_seq ?_
  refine WT_region ?_
  refine WL_v rfl (ov_move rfl) ?_
  refine WL_v rfl (ov_F (ov_geq rfl rfl) (by first | exact decide_eq_false (by omega) | exact nb_F (by omega) | exact mb_F (by omega) | exact (by omega) | (simp only [decide_eq_false_iff_not]; omega) | simpa using (by omega))) ?_
  refine WL_nil ?_
  refine WT_condF rfl ?_
  refine WT_skip ?_
  refine WT_seq ?_
  refine WT_region ?_
  refine WL_v rfl (ov_move rfl) ?_
  refine WL_v rfl (ov_move rfl) ?_
  refine WL_v rfl (ov_as (ov_convert rfl (by kernel_rfl) Try.underlying5) (congrArg (Value.int .u8) (wrapN hn).2.1)) ?_
  refine WL_v rfl (ov_index0 (r := .int .u8 (bits6 n : Int)) rfl rfl (match n, hn with | 0, _ => fun W => by kernel_rfl | 1, _ => fun W => by kernel_rfl | 2, _ => fun W => by kernel_rfl | 3, _ => fun W => by kernel_rfl | 4, _ => fun W => by kernel_rfl | 5, _ => fun W => by kernel_rfl | 6, _ => fun W => by kernel_rfl)) ?_
  refine WL_v rfl (ov_as (ov_convert rfl (by kernel_rfl) Try.underlying3) (congrArg (Value.int .i64) (wrapN (n := bits6 n) (by omega)).2.2)) ?_
  refine WL_v rfl (ov_add rfl rfl (by omega)) ?_
  refine WL_v rfl (ov_assign rfl) ?_
  refine WL_nil ?_
  exact WT_ret1 Try.func147 Try.results147 rfl ⟨congrArg (Value.int .i64) (by omega), hH⟩
theorem bitsLen_ok (hH : H w h Ls) {n : Nat} (hn : n ≤ 6) : Rets Try.prog 136 #[.int .u64 (n : Int)] w fun v w' => v = .int .i64 (bits6 n : Int) ∧ H w' h Ls := by
  refine rets_enter Try.func136 rfl Try.ntmps136 (by simp) ?_
  refine WT_seq ?_
  refine WT_region ?_
  refine WL_v rfl (ov_assign rfl) ?_
  refine WL_nil ?_
  refine WT_seq ?_
  refine WT_condF rfl ?_
  refine WT_skip ?_
  refine WT_seq ?_
  refine WT_region ?_
  refine WL_v rfl (ov_move rfl) ?_
  refine WL_call rfl rfl cf_math_bits_Len64 (len64_ok hH hn) ?_; rintro _ w1 ⟨rfl, hH1⟩
  refine WL_v rfl (ov_assign rfl) ?_
  refine WL_nil ?_
  exact WT_ret1 Try.func136 Try.results136 rfl ⟨rfl, hH1⟩
theorem pdq_ok {X : Heaplet} (hH : H w h (X :: Ls)) {v lv : Value} {xs : List Int} (hX : IRow X 3 v xs) (hl : xs.length ≤ 12) : Rets Try.prog 135 #[v, .int .i64 0, .int .i64 (xs.length : Int), lv] w fun _ w' => ∃ X', IRow X' 3 v (isortL xs) ∧ H w' h (X' :: Ls) := by
  refine rets_enter Try.func135 rfl Try.ntmps135 (by simp) ?_
  refine WT_seq ?_
  refine WT_region ?_
  refine WL_v rfl (ov_assign rfl) ?_
  refine WL_nil ?_
  refine WT_seq ?_
  refine WT_region ?_
  refine WL_v rfl (ov_assign rfl) ?_
  refine WL_nil ?_
  refine WT_block ?_
  refine WT_while (fun _ : Nat => [(0, v), (1, .int .i64 0), (2, .int .i64 (xs.length : Int))]) (fun k w => k = 0 ∧ H w h (X :: Ls)) (fun _ => 0) 0 (by repeat (first | exact trivial | refine ⟨rfl, ?_⟩)) ⟨rfl, hH⟩ ?_
  clear hH
  rintro k w1 ⟨_, hH⟩ again
  refine WT_block ?_
  refine WT_seq ?_
  refine WT_region ?_
  refine WL_v rfl (ov_move rfl) ?_
  refine WL_v rfl (ov_move rfl) ?_
  refine WL_v rfl (ov_as (ov_sub rfl rfl (by omega)) (congrArg (Value.int .i64) ((show (xs.length : Int) - 0 = (xs.length : Int) by omega)))) ?_
  refine WL_v rfl (ov_assign rfl) ?_
  refine WL_nil ?_
  refine WT_seq ?_
  refine WT_seq ?_
  refine WT_region ?_
  refine WL_v rfl (ov_move rfl) ?_
  refine WL_v rfl (ov_T (ov_leq rfl rfl) (by first | exact decide_eq_true (by omega) | exact nb_T (by omega) | exact mb_T (by omega) | exact (by omega) | (simp only [decide_eq_true_eq]; omega) | simpa using (by omega))) ?_
  refine WL_nil ?_
  refine WT_condT rfl ?_
  refine WT_seq ?_
  refine WT_region ?_
  refine WL_v rfl (ov_move rfl) ?_
  refine WL_v rfl (ov_move rfl) ?_
  refine WL_v rfl (ov_move rfl) ?_
  refine WL_call rfl rfl cf_slices_insertionSortOrdered_int (insSort_ok hH hX hl) ?_; rintro _ w2 ⟨X', hX', hH2⟩
  refine WL_nil ?_
  exact WT_ret0 Try.func135 Try.results135 ⟨X', hX', hH2⟩
theorem sort_ok {X : Heaplet} (hH : H w h (X :: Ls)) {v : Value} {xs : List Int} (hX : IRow X 3 v xs) (hl : xs.length ≤ 6) : Rets Try.prog 131 #[v] w fun _ w' => ∃ X', IRow X' 3 v (isortL xs) ∧ H w' h (X' :: Ls) := by
  refine rets_enter Try.func131 rfl Try.ntmps131 (by simp) ?_
  refine WT_seq ?_
  refine WT_region ?_
  refine WL_v rfl (ov_move rfl) ?_
  refine WL_v rfl (ov_len rfl hX.sl st_impl_rowValues) ?_
  refine WL_v rfl (ov_assign rfl) ?_
  refine WL_nil ?_
  refine WT_region ?_
  refine WL_v rfl (ov_move rfl) ?_
  refine WL_v rfl (ov_move rfl) ?_
  refine WL_v rfl (ov_move rfl) ?_
  refine WL_v rfl (ov_as (ov_convert rfl (by kernel_rfl) Try.underlying158) (congrArg (Value.int .u64) (wrapN hl).1)) ?_
  refine WL_call rfl rfl cf_math_bits_Len (bitsLen_ok hH hl) ?_; rintro _ w1 ⟨rfl, hH1⟩
  refine WL_call rfl rfl cf_slices_pdqsortOrdered_int (pdq_ok hH1 hX (by omega)) ?_; rintro _ w2 ⟨X', hX', hH2⟩
  refine WL_nil ?_
  exact WT_end0 Try.func131 Try.results131 ⟨X', hX', hH2⟩
theorem sorted_ok (hH : H w h Ls) {av : Value} {r : List Int} (hA : RdL h Ls av r) (hr : rowOk r = true) : Rets Try.prog 123 #[av] w fun v w' => ∃ X, IRow X 3 v (isortL r) ∧ H w' h (X :: Ls) := by
  have h6 := rowOk_len6 hr
  refine rets_enter Try.func123 rfl Try.ntmps123 (by simp) ?_
  refine WT_seq ?_
  refine WT_region ?_
  refine WL_v rfl (ov_assign rfl) ?_
  refine WL_nil ?_
  refine WT_seq ?_
  refine WT_region ?_
  refine WL_v rfl (ov_move rfl) ?_
  refine WL_appR (i := 0) (xs := []) rfl hH.nilIn rfl rfl st_impl_rowValues rfl (IRow.nil _) hA.sl (hA.cell hH) (by simp only [List.length_nil]; omega) (by simp only [List.length_nil]; omega) ?_; rintro X v w2 hX hH2; rw [List.nil_append] at hX
  refine WL_v rfl (ov_assign rfl) ?_
  refine WL_nil ?_
  refine WT_seq ?_
  refine WT_region ?_
  refine WL_v rfl (ov_move rfl) ?_
  refine WL_call rfl rfl cf_slices_Sort_impl_rowValues_int (sort_ok hH2 hX h6) ?_; rintro _ w3 ⟨X', hX', hH3⟩
  refine WL_nil ?_
  refine WT_seq ?_
  refine WT_region ?_
  refine WL_v rfl (ov_move rfl) ?_
  refine WL_v rfl (ov_assign rfl) ?_
  refine WL_nil ?_
  exact WT_ret1 Try.func123 Try.results123 rfl ⟨X', hX', hH3⟩
theorem rowSort_ok (hH : H w h Ls) {av : Value} {r : List Int} (hA : RdL h Ls av r) : Rets Try.prog 106 #[av] w fun v w' => RowT h Ls v w' (sortL r) := by
  have hva := fun {w : World} (hH : H w h Ls) => rvValidR_ok hH hA
  refine rets_enter Try.func106 rfl Try.ntmps106 (by simp) ?_
  by_cases hr : rowOk r = true
  · skip
    rw [hr] at hva
    rw [sortL, if_pos hr]
    refine WT_seq ?_
    refine WT_region ?_
    refine WL_v rfl (ov_assign rfl) ?_
    refine WL_v rfl (ov_assign rfl) ?_
    refine WL_nil ?_
    refine WT_seq ?_
    refine WT_region ?_
    refine WL_v rfl (ov_move rfl) ?_
    refine WL_v rfl (ov_assign rfl) ?_
    refine WL_nil ?_
    refine WT_seq ?_
    refine WT_seq ?_
    refine WT_region ?_
    refine WL_v rfl (ov_move rfl) ?_
    refine WL_call rfl rfl cf_impl_rowValues_valid (hva hH) ?_; rintro _ w1 ⟨rfl, hH1⟩
    refine WL_v rfl (ov_not rfl) ?_
    refine WL_nil ?_
    refine WT_condF rfl ?_
    refine WT_skip ?_
    refine WT_seq ?_
    refine WT_region ?_
    refine WL_v rfl (ov_move rfl) ?_
    refine WL_call rfl rfl cf_impl_rowValues_sorted (sorted_ok hH1 hA hr) ?_; rintro v w2 ⟨X, hX, hH2⟩
    refine WL_v rfl (ov_assign rfl) ?_
    refine WL_v rfl (ov_assign rfl) ?_
    refine WL_nil ?_
    exact WT_ret2 Try.func106 Try.results106 rfl rfl ⟨_, _, X, rfl, hX, hH2⟩
  · skip
    rw [rowOk_F hr] at hva
    rw [sortL, if_neg hr]
    refine WT_seq ?_
    refine WT_region ?_
    refine WL_v rfl (ov_assign rfl) ?_
    refine WL_v rfl (ov_assign rfl) ?_
    refine WL_nil ?_
    refine WT_seq ?_
    refine WT_region ?_
    refine WL_v rfl (ov_move rfl) ?_
    refine WL_v rfl (ov_assign rfl) ?_
    refine WL_nil ?_
    refine WT_seq ?_
    refine WT_seq ?_
    refine WT_region ?_
    refine WL_v rfl (ov_move rfl) ?_
    refine WL_call rfl rfl cf_impl_rowValues_valid (hva hH) ?_; rintro _ w1 ⟨rfl, hH1⟩
    refine WL_v rfl (ov_not rfl) ?_
    refine WL_nil ?_
    refine WT_condT rfl ?_
    refine WT_seq ?_
    refine WT_region ?_
    refine WL_v rfl (ov_assign rfl) ?_
    refine WL_v rfl (ov_assign rfl) ?_
    refine WL_nil ?_
    exact WT_ret2 Try.func106 Try.results106 rfl rfl (RowT.none hH1)

/-- A row that is turned from both ends up to a place. -/
def revTo (xs : List Int) (i : Nat) : List Int := (List.range xs.length).map fun t => if t < i ∨ xs.length ≤ t + i then xs.getD (xs.length - 1 - t) 0 else xs.getD t 0
theorem revTo_len (xs : List Int) (i : Nat) : (revTo xs i).length = xs.length := by simp [revTo]
theorem revTo_get {xs : List Int} {i t : Nat} (h : t < (revTo xs i).length) : (revTo xs i)[t] = if t < i ∨ xs.length ≤ t + i then xs.getD (xs.length - 1 - t) 0 else xs.getD t 0 := by simp [revTo]
theorem getDI {xs : List Int} {t : Nat} (h : t < xs.length) : xs.getD t 0 = xs[t] := by simp [List.getD_eq_getElem?_getD, List.getElem?_eq_getElem h]
theorem revTo_zero (xs : List Int) : revTo xs 0 = xs := by
  refine List.ext_getElem (revTo_len xs 0) fun t h1 h2 => ?_
  rw [revTo_get, if_neg (by omega), getDI h2]
theorem revTo_end {xs : List Int} {i : Nat} (h : xs.length ≤ 2 * i + 1) (hi : 2 * i ≤ xs.length) : revTo xs i = xs.reverse := by
  refine List.ext_getElem (by rw [revTo_len, List.length_reverse]) fun t h1 h2 => ?_
  have h3 : t < xs.length := by rw [revTo_len] at h1; exact h1
  rw [revTo_get, List.getElem_reverse]
  split
  · rw [getDI (by omega)]
  · rw [getDI h3]
    congr 1
    omega
theorem revTo_step {xs : List Int} {i m : Nat} (hm : m = xs.length - 1 - i) (h : i < m) (h1 : i < (revTo xs i).length) (h2 : m < (revTo xs i).length) : ((revTo xs i).set i (revTo xs i)[m]).set m (revTo xs i)[i] = revTo xs (i + 1) := by
  have hl := revTo_len xs i
  refine List.ext_getElem (by simp [revTo_len]) fun t g1 g2 => ?_
  have g3 : t < xs.length := by simpa [revTo_len] using g1
  simp only [List.getElem_set, revTo_get]
  by_cases ht : m = t
  · subst ht
    rw [if_pos rfl, if_neg (by omega), if_pos (by omega)]
    congr 1
    omega
  · rw [if_neg ht]
    by_cases ht2 : i = t
    · subst ht2
      rw [if_pos rfl, if_neg (by omega), if_pos (by omega)]
      congr 1
    · rw [if_neg ht2]
      by_cases hc : t < i ∨ xs.length ≤ t + i
      · rw [if_pos hc, if_pos (by omega)]
      · rw [if_neg hc, if_neg (by omega)]

theorem reverse_ok {X : Heaplet} (hH : H w h (X :: Ls)) {v : Value} {xs : List Int} (hX : IRow X 3 v xs) (hl : xs.length ≤ 100) : Rets Try.prog 132 #[v] w fun _ w' => ∃ X', IRow X' 3 v xs.reverse ∧ H w' h (X' :: Ls) := by
  refine rets_enter Try.func132 rfl Try.ntmps132 (by simp) ?_
  refine WT_seq ?_
  refine WT_region ?_
  refine WL_v rfl (ov_move rfl) ?_
  refine WL_v rfl (ov_len rfl hX.sl st_impl_rowValues) ?_
  refine WL_v rfl (ov_as (ov_sub rfl rfl (by omega)) (congrArg (Value.int .i64) ((show (xs.length : Int) - 1 = (xs.length : Int) - 1 - ((0 : Nat) : Int) by omega)))) ?_
  refine WL_v rfl (ov_assign rfl) ?_
  refine WL_v rfl (ov_assign rfl) ?_
  refine WL_nil ?_
  refine WT_block ?_
  refine WT_while (fun i : Nat => [(0, v), (2, .int .i64 (i : Int)), (3, .int .i64 ((xs.length : Int) - 1 - (i : Int)))]) (fun i w => 2 * i ≤ xs.length ∧ ∃ X, IRow X 3 v (revTo xs i) ∧ H w h (X :: Ls)) (fun i => xs.length - i) 0 (by repeat (first | exact trivial | refine ⟨rfl, ?_⟩)) ⟨by omega, X, by rw [revTo_zero]; exact hX, hH⟩ ?_
  clear hH hX X
  rintro i w1 ⟨hi, X, hX, hH⟩ again
  have hrl := revTo_len xs i
  refine WT_seq ?_
  refine WT_seq ?_
  refine WT_region ?_
  refine WL_v rfl (ov_move rfl) ?_
  refine WL_v rfl (ov_move rfl) ?_
  refine WL_v rfl (ov_lss rfl rfl) ?_
  refine WL_nil ?_
  refine WT_cond rfl (fun hc => ?_) (fun hc => ?_)
  · skip
    first | with_reducible replace hc := of_decide_eq_true hc | with_reducible replace hc := bn_T hc | with_reducible replace hc := bb_T hc | skip
    obtain ⟨m, hm⟩ : ∃ m, m = xs.length - 1 - i := ⟨_, rfl⟩
    have hmi : ((xs.length : Int) - 1 - (i : Int)) = (m : Int) := by omega
    have him : i < m := by omega
    have hix : i < (revTo xs i).length := by omega
    have hmx : m < (revTo xs i).length := by omega
    rw [hmi]
    refine WT_skip ?_
    refine WT_seq ?_
    refine WT_block ?_
    refine WT_mixO (i := 0) [(0, 1), (1, 1), (2, 1), (3, 1), (4, 1), (5, 1), (6, 1), (7, 0), (8, 1), (9, 1), (10, 1), (11, 0), (12, 1), (13, 3), (14, 1), (15, 3)] mixed (by kernel_rfl) hH rfl ?_
    clear hH
    intro w4 hH hC
    refine WM_p rfl rfl (fun _ => ov_move rfl) ?_
    refine WM_p rfl rfl (fun _ => ov_move rfl) ?_
    refine WM_p rfl rfl (fun _ => ov_move rfl) ?_
    refine WM_p rfl rfl (fun _ => ov_move rfl) ?_
    refine WM_p rfl rfl (fun _ => ov_move rfl) ?_
    refine WM_p rfl rfl (fun _ => ov_move rfl) ?_
    refine WM_p rfl rfl (fun _ => ov_index rfl rfl st_impl_rowValues hX.sl hmx) ?_
    refine WM_v rfl rfl hC (fun _ ⟨_, hH⟩ => ov_load rfl one_int (hX.cell hH (i := 1) rfl hmx)) ?_
    refine WM_p rfl rfl (fun _ => ov_move rfl) ?_
    refine WM_p rfl rfl (fun _ => ov_move rfl) ?_
    refine WM_p rfl rfl (fun _ => ov_index rfl rfl st_impl_rowValues hX.sl hix) ?_
    refine WM_v rfl rfl hC (fun _ ⟨_, hH⟩ => ov_load rfl one_int (hX.cell hH (i := 1) rfl hix)) ?_
    refine WM_p rfl rfl (fun _ => ov_index rfl rfl st_impl_rowValues hX.sl hix) ?_
    refine WM_e rfl ?_
    refine WL_storeI hH rfl rfl (i := 0) rfl hX hix sz_int ?_; rintro X2 w5 hX2 hH5
    refine WL_mix (fun h => absurd rfl h) ?_
    refine WM_p rfl rfl (fun _ => ov_index rfl rfl st_impl_rowValues hX.sl hmx) ?_
    refine WM_e rfl ?_
    refine WL_storeI hH5 rfl rfl (i := 0) rfl hX2 (by rw [List.length_set]; exact hmx) sz_int ?_; rintro X3 w6 hX3 hH6
    refine WL_mix (fun h => absurd rfl h) ?_
    refine WM_nil ?_
    refine WT_inBlock ?_
    refine WT_region ?_
    refine WL_v rfl (ov_move rfl) ?_
    refine WL_v rfl (ov_add rfl rfl (by omega)) ?_
    refine WL_v rfl (ov_move rfl) ?_
    refine WL_v rfl (ov_sub rfl rfl (by omega)) ?_
    refine WL_v rfl (ov_assign rfl) ?_
    refine WL_v rfl (ov_assign rfl) ?_
    refine WL_nil ?_
    rw [revTo_step hm him] at hX3
    refine again (i + 1) _ _ (by omega) ?_ ⟨by omega, X3, hX3, hH6⟩
    rw [show ((xs.length : Int) - 1 - ((i + 1 : Nat) : Int)) = (m : Int) - 1 by omega]
    exact (by repeat (first | exact trivial | refine ⟨rfl, ?_⟩))
  first | with_reducible replace hc := of_decide_eq_false hc | with_reducible replace hc := bn_F hc | with_reducible replace hc := bb_F hc | skip
  refine WT_exit rfl ?_
  exact WT_end0 Try.func132 Try.results132 ⟨X, by rw [revTo_end (by omega) hi] at hX; exact hX, hH⟩

theorem turned_ok (hH : H w h Ls) {av : Value} {r : List Int} (hA : RdL h Ls av r) (hr : rowOk r = true) : Rets Try.prog 124 #[av] w fun v w' => ∃ X, IRow X 3 v r.reverse ∧ H w' h (X :: Ls) := by
  have h6 := rowOk_len6 hr
  refine rets_enter Try.func124 rfl Try.ntmps124 (by simp) ?_
  refine WT_seq ?_
  refine WT_region ?_
  refine WL_v rfl (ov_assign rfl) ?_
  refine WL_nil ?_
  refine WT_seq ?_
  refine WT_region ?_
  refine WL_v rfl (ov_move rfl) ?_
  refine WL_appR (i := 0) (xs := []) rfl hH.nilIn rfl rfl st_impl_rowValues rfl (IRow.nil _) hA.sl (hA.cell hH) (by simp only [List.length_nil]; omega) (by simp only [List.length_nil]; omega) ?_; rintro X v w2 hX hH2; rw [List.nil_append] at hX
  refine WL_v rfl (ov_assign rfl) ?_
  refine WL_nil ?_
  refine WT_seq ?_
  refine WT_region ?_
  refine WL_v rfl (ov_move rfl) ?_
  refine WL_call rfl rfl cf_slices_Reverse_impl_rowValues_int (reverse_ok hH2 hX (by omega)) ?_; rintro _ w3 ⟨X', hX', hH3⟩
  refine WL_nil ?_
  refine WT_seq ?_
  refine WT_region ?_
  refine WL_v rfl (ov_move rfl) ?_
  refine WL_v rfl (ov_assign rfl) ?_
  refine WL_nil ?_
  exact WT_ret1 Try.func124 Try.results124 rfl ⟨X', hX', hH3⟩
theorem rowTurn_ok (hH : H w h Ls) {av : Value} {r : List Int} (hA : RdL h Ls av r) : Rets Try.prog 107 #[av] w fun v w' => RowT h Ls v w' (turnL r) := by
  have hva := fun {w : World} (hH : H w h Ls) => rvValidR_ok hH hA
  refine rets_enter Try.func107 rfl Try.ntmps107 (by simp) ?_
  by_cases hr : rowOk r = true
  · skip
    rw [hr] at hva
    rw [turnL, if_pos hr]
    refine WT_seq ?_
    refine WT_region ?_
    refine WL_v rfl (ov_assign rfl) ?_
    refine WL_v rfl (ov_assign rfl) ?_
    refine WL_nil ?_
    refine WT_seq ?_
    refine WT_region ?_
    refine WL_v rfl (ov_move rfl) ?_
    refine WL_v rfl (ov_assign rfl) ?_
    refine WL_nil ?_
    refine WT_seq ?_
    refine WT_seq ?_
    refine WT_region ?_
    refine WL_v rfl (ov_move rfl) ?_
    refine WL_call rfl rfl cf_impl_rowValues_valid (hva hH) ?_; rintro _ w1 ⟨rfl, hH1⟩
    refine WL_v rfl (ov_not rfl) ?_
    refine WL_nil ?_
    refine WT_condF rfl ?_
    refine WT_skip ?_
    refine WT_seq ?_
    refine WT_region ?_
    refine WL_v rfl (ov_move rfl) ?_
    refine WL_call rfl rfl cf_impl_rowValues_turned (turned_ok hH1 hA hr) ?_; rintro v w2 ⟨X, hX, hH2⟩
    refine WL_v rfl (ov_assign rfl) ?_
    refine WL_v rfl (ov_assign rfl) ?_
    refine WL_nil ?_
    exact WT_ret2 Try.func107 Try.results107 rfl rfl ⟨_, _, X, rfl, hX, hH2⟩
  · skip
    rw [rowOk_F hr] at hva
    rw [turnL, if_neg hr]
    refine WT_seq ?_
    refine WT_region ?_
    refine WL_v rfl (ov_assign rfl) ?_
    refine WL_v rfl (ov_assign rfl) ?_
    refine WL_nil ?_
    refine WT_seq ?_
    refine WT_region ?_
    refine WL_v rfl (ov_move rfl) ?_
    refine WL_v rfl (ov_assign rfl) ?_
    refine WL_nil ?_
    refine WT_seq ?_
    refine WT_seq ?_
    refine WT_region ?_
    refine WL_v rfl (ov_move rfl) ?_
    refine WL_call rfl rfl cf_impl_rowValues_valid (hva hH) ?_; rintro _ w1 ⟨rfl, hH1⟩
    refine WL_v rfl (ov_not rfl) ?_
    refine WL_nil ?_
    refine WT_condT rfl ?_
    refine WT_seq ?_
    refine WT_region ?_
    refine WL_v rfl (ov_assign rfl) ?_
    refine WL_v rfl (ov_assign rfl) ?_
    refine WL_nil ?_
    exact WT_ret2 Try.func107 Try.results107 rfl rfl (RowT.none hH1)

theorem kindRun_1 (hH : H w h Ls) {rv : Value} {rows : List (List Int)} (hR : RdLL h Ls rv rows) : Rets Try.prog 45 #[.int .i64 1, rv] w fun v w' => RowT h Ls v w' (kindRow 1 rows) := by
  have hwk := fun {w : World} (hH : H w h Ls) => workOf_ok hH 1
  refine rets_enter Try.func45 rfl Try.ntmps45 (by simp) ?_
  refine WT_seq ?_
  refine WT_region ?_
  refine WL_v rfl (ov_assign rfl) ?_
  refine WL_v rfl (ov_assign rfl) ?_
  refine WL_nil ?_
  refine WT_seq ?_
  refine WT_seq ?_
  refine WT_region ?_
  refine WL_v rfl (ov_move rfl) ?_
  refine WL_call rfl rfl cf_impl_workOf (hwk hH) ?_; rintro _ w1 ⟨rfl, hH1⟩
  refine WL_nil ?_
  refine WT_block ?_
  refine WT_seq ?_
  refine WT_region ?_
  refine WL_v rfl (ov_taK rfl (taP_pair _)) ?_
  refine WL_v rfl (ov_extract rfl rfl) ?_
  refine WL_v rfl (ov_extract rfl rfl) ?_
  refine WL_nil ?_
  refine WT_condT rfl ?_
  refine WT_seq ?_
  refine WT_region ?_
  refine WL_alloc #[.nilFunc] rfl hH1 zero_pairK rfl ?_; rintro g w2 hH2
  refine WL_storeN hH2 rfl rfl (i := 0) rfl rfl rfl (ones_cons rfl ones_nil) sz_impl_pairWork ?_; rintro w3 hH3
  refine WL_nil ?_
  refine WT_seq ?_
  refine WT_region ?_
  refine WL_v rfl (ov_move rfl) ?_
  refine WL_v rfl (ov_len rfl hR.sl st_sl_sl_int) ?_
  refine WL_v rfl (ov_loadN [fnV 103] rfl agg_impl_pairWork rfl ((fun j v hj => by rw [show Addr.add ⟨g, 0, none⟩ j = ⟨g, j, none⟩ by simp [add_of]]; exact (hH3.cb 0 rfl j).trans (by simpa using hj)))) ?_
  refine WL_call rfl rfl cf_impl_pairWork_needs (needs_pair hH3 _) ?_; rintro _ w4 ⟨rfl, hH4⟩
  refine WL_v rfl (ov_eql rfl rfl) ?_
  refine WL_nil ?_
  refine WT_cond rfl (fun hl => ?_) (fun hl => ?_)
  · skip
    first | with_reducible replace hl := of_decide_eq_true hl | with_reducible replace hl := bn_T hl | with_reducible replace hl := bb_T hl | skip
    obtain ⟨x, y, rfl⟩ : ∃ x y, rows = [x, y] := by
      match rows, hl with
      | [x, y], _ => exact ⟨x, y, rfl⟩
      | [], hl => simp at hl
      | [_], hl => simp at hl
      | _ :: _ :: _ :: _, hl => simp at hl; omega
    obtain ⟨u1, g1, c1⟩ := hR.at_ (i := 0) (by simp)
    obtain ⟨u2, g2, c2⟩ := hR.at_ (i := 1) (by simp)
    refine WT_seq ?_
    refine WT_mixL [(0, 1), (1, 0), (2, 1), (3, 1), (4, 0), (5, 1), (6, 1), (7, 0), (8, 3), (9, 1), (10, 1), (11, 1), (12, 1)] mixed (by kernel_rfl) hH4 ?_
    clear hH4
    intro w5 hH4 hC
    refine WM_p rfl rfl (fun _ => ov_field rfl fo_impl_pairWork_0) ?_
    refine WM_v rfl rfl hC (fun _ ⟨_, hH⟩ => ov_load rfl one_func_sl_int_sl_int_sl_int_bool (hH.cb 1 rfl 0)) ?_
    refine WM_p rfl rfl (fun _ => ov_move rfl) ?_
    refine WM_p rfl rfl (fun _ => ov_index (i := 0) rfl rfl st_sl_sl_int hR.sl (by omega)) ?_
    refine WM_v rfl rfl hC (fun _ ⟨_, hH⟩ => ov_load rfl one_sl_int (c1 hH.drop.drop)) ?_
    refine WM_p rfl rfl (fun _ => ov_move rfl) ?_
    refine WM_p rfl rfl (fun _ => ov_index (i := 1) rfl rfl st_sl_sl_int hR.sl (by omega)) ?_
    refine WM_v rfl rfl hC (fun _ ⟨_, hH⟩ => ov_load rfl one_sl_int (c2 hH.drop.drop)) ?_
    refine WM_e rfl ?_
    refine WL_callV (ws := [u1, u2]) rfl rfl rfl rfl cf_impl_RowAdd (rowAdd_ok hH4 g1.up g2.up) ?_; rintro _ w6 ⟨ru, ok, X, rfl, hX, hH6⟩
    refine WL_mix (fun h => absurd rfl h) ?_
    refine WM_p rfl rfl (fun _ => ov_extract rfl rfl) ?_
    refine WM_p rfl rfl (fun _ => ov_extract rfl rfl) ?_
    refine WM_p rfl rfl (fun _ => ov_assign rfl) ?_
    refine WM_p rfl rfl (fun _ => ov_assign rfl) ?_
    refine WM_nil ?_
    exact WT_ret2 Try.func45 Try.results45 rfl rfl ⟨ru, ok, X, rfl, hX, hH6.del 1 rfl⟩
  first | with_reducible replace hl := of_decide_eq_false hl | with_reducible replace hl := bn_F hl | with_reducible replace hl := bb_F hl | skip
  refine WT_skip ?_
  refine WT_inBlock ?_
  refine WT_seq ?_
  refine WT_region ?_
  refine WL_v rfl (ov_assign rfl) ?_
  refine WL_v rfl (ov_assign rfl) ?_
  refine WL_nil ?_
  exact WT_ret2 Try.func45 Try.results45 rfl rfl (by
    have : kindRow 1 rows = [] := by
      match rows, hl with
      | [], _ => rfl
      | [_], _ => rfl
      | [_, _], hl => simp at hl
      | _ :: _ :: _ :: _, _ => rfl
    rw [this]
    exact RowT.none hH4.drop)

theorem kindRun_2 (hH : H w h Ls) {rv : Value} {rows : List (List Int)} (hR : RdLL h Ls rv rows) : Rets Try.prog 45 #[.int .i64 2, rv] w fun v w' => RowT h Ls v w' (kindRow 2 rows) := by
  have hwk := fun {w : World} (hH : H w h Ls) => workOf_ok hH 2
  refine rets_enter Try.func45 rfl Try.ntmps45 (by simp) ?_
  refine WT_seq ?_
  refine WT_region ?_
  refine WL_v rfl (ov_assign rfl) ?_
  refine WL_v rfl (ov_assign rfl) ?_
  refine WL_nil ?_
  refine WT_seq ?_
  refine WT_seq ?_
  refine WT_region ?_
  refine WL_v rfl (ov_move rfl) ?_
  refine WL_call rfl rfl cf_impl_workOf (hwk hH) ?_; rintro _ w1 ⟨rfl, hH1⟩
  refine WL_nil ?_
  refine WT_block ?_
  refine WT_seq ?_
  refine WT_region ?_
  refine WL_v rfl (ov_taK rfl (taP_pair _)) ?_
  refine WL_v rfl (ov_extract rfl rfl) ?_
  refine WL_v rfl (ov_extract rfl rfl) ?_
  refine WL_nil ?_
  refine WT_condT rfl ?_
  refine WT_seq ?_
  refine WT_region ?_
  refine WL_alloc #[.nilFunc] rfl hH1 zero_pairK rfl ?_; rintro g w2 hH2
  refine WL_storeN hH2 rfl rfl (i := 0) rfl rfl rfl (ones_cons rfl ones_nil) sz_impl_pairWork ?_; rintro w3 hH3
  refine WL_nil ?_
  refine WT_seq ?_
  refine WT_region ?_
  refine WL_v rfl (ov_move rfl) ?_
  refine WL_v rfl (ov_len rfl hR.sl st_sl_sl_int) ?_
  refine WL_v rfl (ov_loadN [fnV 104] rfl agg_impl_pairWork rfl ((fun j v hj => by rw [show Addr.add ⟨g, 0, none⟩ j = ⟨g, j, none⟩ by simp [add_of]]; exact (hH3.cb 0 rfl j).trans (by simpa using hj)))) ?_
  refine WL_call rfl rfl cf_impl_pairWork_needs (needs_pair hH3 _) ?_; rintro _ w4 ⟨rfl, hH4⟩
  refine WL_v rfl (ov_eql rfl rfl) ?_
  refine WL_nil ?_
  refine WT_cond rfl (fun hl => ?_) (fun hl => ?_)
  · skip
    first | with_reducible replace hl := of_decide_eq_true hl | with_reducible replace hl := bn_T hl | with_reducible replace hl := bb_T hl | skip
    obtain ⟨x, y, rfl⟩ : ∃ x y, rows = [x, y] := by
      match rows, hl with
      | [x, y], _ => exact ⟨x, y, rfl⟩
      | [], hl => simp at hl
      | [_], hl => simp at hl
      | _ :: _ :: _ :: _, hl => simp at hl; omega
    obtain ⟨u1, g1, c1⟩ := hR.at_ (i := 0) (by simp)
    obtain ⟨u2, g2, c2⟩ := hR.at_ (i := 1) (by simp)
    refine WT_seq ?_
    refine WT_mixL [(0, 1), (1, 0), (2, 1), (3, 1), (4, 0), (5, 1), (6, 1), (7, 0), (8, 3), (9, 1), (10, 1), (11, 1), (12, 1)] mixed (by kernel_rfl) hH4 ?_
    clear hH4
    intro w5 hH4 hC
    refine WM_p rfl rfl (fun _ => ov_field rfl fo_impl_pairWork_0) ?_
    refine WM_v rfl rfl hC (fun _ ⟨_, hH⟩ => ov_load rfl one_func_sl_int_sl_int_sl_int_bool (hH.cb 1 rfl 0)) ?_
    refine WM_p rfl rfl (fun _ => ov_move rfl) ?_
    refine WM_p rfl rfl (fun _ => ov_index (i := 0) rfl rfl st_sl_sl_int hR.sl (by omega)) ?_
    refine WM_v rfl rfl hC (fun _ ⟨_, hH⟩ => ov_load rfl one_sl_int (c1 hH.drop.drop)) ?_
    refine WM_p rfl rfl (fun _ => ov_move rfl) ?_
    refine WM_p rfl rfl (fun _ => ov_index (i := 1) rfl rfl st_sl_sl_int hR.sl (by omega)) ?_
    refine WM_v rfl rfl hC (fun _ ⟨_, hH⟩ => ov_load rfl one_sl_int (c2 hH.drop.drop)) ?_
    refine WM_e rfl ?_
    refine WL_callV (ws := [u1, u2]) rfl rfl rfl rfl cf_impl_RowTimes (rowTimes_ok hH4 g1.up g2.up) ?_; rintro _ w6 ⟨ru, ok, X, rfl, hX, hH6⟩
    refine WL_mix (fun h => absurd rfl h) ?_
    refine WM_p rfl rfl (fun _ => ov_extract rfl rfl) ?_
    refine WM_p rfl rfl (fun _ => ov_extract rfl rfl) ?_
    refine WM_p rfl rfl (fun _ => ov_assign rfl) ?_
    refine WM_p rfl rfl (fun _ => ov_assign rfl) ?_
    refine WM_nil ?_
    exact WT_ret2 Try.func45 Try.results45 rfl rfl ⟨ru, ok, X, rfl, hX, hH6.del 1 rfl⟩
  first | with_reducible replace hl := of_decide_eq_false hl | with_reducible replace hl := bn_F hl | with_reducible replace hl := bb_F hl | skip
  refine WT_skip ?_
  refine WT_inBlock ?_
  refine WT_seq ?_
  refine WT_region ?_
  refine WL_v rfl (ov_assign rfl) ?_
  refine WL_v rfl (ov_assign rfl) ?_
  refine WL_nil ?_
  exact WT_ret2 Try.func45 Try.results45 rfl rfl (by
    have : kindRow 2 rows = [] := by
      match rows, hl with
      | [], _ => rfl
      | [_], _ => rfl
      | [_, _], hl => simp at hl
      | _ :: _ :: _ :: _, _ => rfl
    rw [this]
    exact RowT.none hH4.drop)

theorem kindRun_3 (hH : H w h Ls) {rv : Value} {rows : List (List Int)} (hR : RdLL h Ls rv rows) : Rets Try.prog 45 #[.int .i64 3, rv] w fun v w' => RowT h Ls v w' (kindRow 3 rows) := by
  have hwk := fun {w : World} (hH : H w h Ls) => workOf_ok hH 3
  refine rets_enter Try.func45 rfl Try.ntmps45 (by simp) ?_
  refine WT_seq ?_
  refine WT_region ?_
  refine WL_v rfl (ov_assign rfl) ?_
  refine WL_v rfl (ov_assign rfl) ?_
  refine WL_nil ?_
  refine WT_seq ?_
  refine WT_seq ?_
  refine WT_region ?_
  refine WL_v rfl (ov_move rfl) ?_
  refine WL_call rfl rfl cf_impl_workOf (hwk hH) ?_; rintro _ w1 ⟨rfl, hH1⟩
  refine WL_nil ?_
  refine WT_block ?_
  refine WT_seq ?_
  refine WT_region ?_
  refine WL_v rfl (ov_taK rfl (taP_lone _)) ?_
  refine WL_v rfl (ov_extract rfl rfl) ?_
  refine WL_v rfl (ov_extract rfl rfl) ?_
  refine WL_nil ?_
  refine WT_condF rfl ?_
  refine WT_seq ?_
  refine WT_region ?_
  refine WL_v rfl (ov_taK rfl (taL_lone _)) ?_
  refine WL_v rfl (ov_extract rfl rfl) ?_
  refine WL_v rfl (ov_extract rfl rfl) ?_
  refine WL_nil ?_
  refine WT_condT rfl ?_
  refine WT_seq ?_
  refine WT_region ?_
  refine WL_alloc #[.nilFunc] rfl hH1 zero_loneK rfl ?_; rintro g w2 hH2
  refine WL_storeN hH2 rfl rfl (i := 0) rfl rfl rfl (ones_cons rfl ones_nil) sz_impl_loneWork ?_; rintro w3 hH3
  refine WL_nil ?_
  refine WT_seq ?_
  refine WT_region ?_
  refine WL_v rfl (ov_move rfl) ?_
  refine WL_v rfl (ov_len rfl hR.sl st_sl_sl_int) ?_
  refine WL_v rfl (ov_loadN [fnV 105] rfl agg_impl_loneWork rfl ((fun j v hj => by rw [show Addr.add ⟨g, 0, none⟩ j = ⟨g, j, none⟩ by simp [add_of]]; exact (hH3.cb 0 rfl j).trans (by simpa using hj)))) ?_
  refine WL_call rfl rfl cf_impl_loneWork_needs (needs_lone hH3 _) ?_; rintro _ w4 ⟨rfl, hH4⟩
  refine WL_v rfl (ov_eql rfl rfl) ?_
  refine WL_nil ?_
  refine WT_cond rfl (fun hl => ?_) (fun hl => ?_)
  · skip
    first | with_reducible replace hl := of_decide_eq_true hl | with_reducible replace hl := bn_T hl | with_reducible replace hl := bb_T hl | skip
    obtain ⟨x, rfl⟩ : ∃ x, rows = [x] := by
      match rows, hl with
      | [x], _ => exact ⟨x, rfl⟩
      | [], hl => simp at hl
      | _ :: _ :: _, hl => simp at hl; omega
    obtain ⟨u1, g1, c1⟩ := hR.at_ (i := 0) (by simp)
    refine WT_seq ?_
    refine WT_mixL [(0, 1), (1, 0), (2, 1), (3, 1), (4, 0), (5, 3), (6, 1), (7, 1), (8, 1), (9, 1)] mixed (by kernel_rfl) hH4 ?_
    clear hH4
    intro w5 hH4 hC
    refine WM_p rfl rfl (fun _ => ov_field rfl fo_impl_loneWork_0) ?_
    refine WM_v rfl rfl hC (fun _ ⟨_, hH⟩ => ov_load rfl one_func_sl_int_sl_int_bool (hH.cb 1 rfl 0)) ?_
    refine WM_p rfl rfl (fun _ => ov_move rfl) ?_
    refine WM_p rfl rfl (fun _ => ov_index (i := 0) rfl rfl st_sl_sl_int hR.sl (by omega)) ?_
    refine WM_v rfl rfl hC (fun _ ⟨_, hH⟩ => ov_load rfl one_sl_int (c1 hH.drop.drop)) ?_
    refine WM_e rfl ?_
    refine WL_callV (ws := [u1]) rfl rfl rfl rfl cf_impl_RowSums (rowSums_ok hH4 g1.up) ?_; rintro _ w6 ⟨ru, ok, X, rfl, hX, hH6⟩
    refine WL_mix (fun h => absurd rfl h) ?_
    refine WM_p rfl rfl (fun _ => ov_extract rfl rfl) ?_
    refine WM_p rfl rfl (fun _ => ov_extract rfl rfl) ?_
    refine WM_p rfl rfl (fun _ => ov_assign rfl) ?_
    refine WM_p rfl rfl (fun _ => ov_assign rfl) ?_
    refine WM_nil ?_
    exact WT_ret2 Try.func45 Try.results45 rfl rfl ⟨ru, ok, X, rfl, hX, hH6.del 1 rfl⟩
  first | with_reducible replace hl := of_decide_eq_false hl | with_reducible replace hl := bn_F hl | with_reducible replace hl := bb_F hl | skip
  refine WT_skip ?_
  refine WT_inBlock ?_
  refine WT_seq ?_
  refine WT_region ?_
  refine WL_v rfl (ov_assign rfl) ?_
  refine WL_v rfl (ov_assign rfl) ?_
  refine WL_nil ?_
  exact WT_ret2 Try.func45 Try.results45 rfl rfl (by
    have : kindRow 3 rows = [] := by
      match rows, hl with
      | [], _ => rfl
      | [_], hl => simp at hl
      | _ :: _ :: _, _ => rfl
    rw [this]
    exact RowT.none hH4.drop)

theorem kindRun_4 (hH : H w h Ls) {rv : Value} {rows : List (List Int)} (hR : RdLL h Ls rv rows) : Rets Try.prog 45 #[.int .i64 4, rv] w fun v w' => RowT h Ls v w' (kindRow 4 rows) := by
  have hwk := fun {w : World} (hH : H w h Ls) => workOf_ok hH 4
  refine rets_enter Try.func45 rfl Try.ntmps45 (by simp) ?_
  refine WT_seq ?_
  refine WT_region ?_
  refine WL_v rfl (ov_assign rfl) ?_
  refine WL_v rfl (ov_assign rfl) ?_
  refine WL_nil ?_
  refine WT_seq ?_
  refine WT_seq ?_
  refine WT_region ?_
  refine WL_v rfl (ov_move rfl) ?_
  refine WL_call rfl rfl cf_impl_workOf (hwk hH) ?_; rintro _ w1 ⟨rfl, hH1⟩
  refine WL_nil ?_
  refine WT_block ?_
  refine WT_seq ?_
  refine WT_region ?_
  refine WL_v rfl (ov_taK rfl (taP_lone _)) ?_
  refine WL_v rfl (ov_extract rfl rfl) ?_
  refine WL_v rfl (ov_extract rfl rfl) ?_
  refine WL_nil ?_
  refine WT_condF rfl ?_
  refine WT_seq ?_
  refine WT_region ?_
  refine WL_v rfl (ov_taK rfl (taL_lone _)) ?_
  refine WL_v rfl (ov_extract rfl rfl) ?_
  refine WL_v rfl (ov_extract rfl rfl) ?_
  refine WL_nil ?_
  refine WT_condT rfl ?_
  refine WT_seq ?_
  refine WT_region ?_
  refine WL_alloc #[.nilFunc] rfl hH1 zero_loneK rfl ?_; rintro g w2 hH2
  refine WL_storeN hH2 rfl rfl (i := 0) rfl rfl rfl (ones_cons rfl ones_nil) sz_impl_loneWork ?_; rintro w3 hH3
  refine WL_nil ?_
  refine WT_seq ?_
  refine WT_region ?_
  refine WL_v rfl (ov_move rfl) ?_
  refine WL_v rfl (ov_len rfl hR.sl st_sl_sl_int) ?_
  refine WL_v rfl (ov_loadN [fnV 106] rfl agg_impl_loneWork rfl ((fun j v hj => by rw [show Addr.add ⟨g, 0, none⟩ j = ⟨g, j, none⟩ by simp [add_of]]; exact (hH3.cb 0 rfl j).trans (by simpa using hj)))) ?_
  refine WL_call rfl rfl cf_impl_loneWork_needs (needs_lone hH3 _) ?_; rintro _ w4 ⟨rfl, hH4⟩
  refine WL_v rfl (ov_eql rfl rfl) ?_
  refine WL_nil ?_
  refine WT_cond rfl (fun hl => ?_) (fun hl => ?_)
  · skip
    first | with_reducible replace hl := of_decide_eq_true hl | with_reducible replace hl := bn_T hl | with_reducible replace hl := bb_T hl | skip
    obtain ⟨x, rfl⟩ : ∃ x, rows = [x] := by
      match rows, hl with
      | [x], _ => exact ⟨x, rfl⟩
      | [], hl => simp at hl
      | _ :: _ :: _, hl => simp at hl; omega
    obtain ⟨u1, g1, c1⟩ := hR.at_ (i := 0) (by simp)
    refine WT_seq ?_
    refine WT_mixL [(0, 1), (1, 0), (2, 1), (3, 1), (4, 0), (5, 3), (6, 1), (7, 1), (8, 1), (9, 1)] mixed (by kernel_rfl) hH4 ?_
    clear hH4
    intro w5 hH4 hC
    refine WM_p rfl rfl (fun _ => ov_field rfl fo_impl_loneWork_0) ?_
    refine WM_v rfl rfl hC (fun _ ⟨_, hH⟩ => ov_load rfl one_func_sl_int_sl_int_bool (hH.cb 1 rfl 0)) ?_
    refine WM_p rfl rfl (fun _ => ov_move rfl) ?_
    refine WM_p rfl rfl (fun _ => ov_index (i := 0) rfl rfl st_sl_sl_int hR.sl (by omega)) ?_
    refine WM_v rfl rfl hC (fun _ ⟨_, hH⟩ => ov_load rfl one_sl_int (c1 hH.drop.drop)) ?_
    refine WM_e rfl ?_
    refine WL_callV (ws := [u1]) rfl rfl rfl rfl cf_impl_RowSort (rowSort_ok hH4 g1.up) ?_; rintro _ w6 ⟨ru, ok, X, rfl, hX, hH6⟩
    refine WL_mix (fun h => absurd rfl h) ?_
    refine WM_p rfl rfl (fun _ => ov_extract rfl rfl) ?_
    refine WM_p rfl rfl (fun _ => ov_extract rfl rfl) ?_
    refine WM_p rfl rfl (fun _ => ov_assign rfl) ?_
    refine WM_p rfl rfl (fun _ => ov_assign rfl) ?_
    refine WM_nil ?_
    exact WT_ret2 Try.func45 Try.results45 rfl rfl ⟨ru, ok, X, rfl, hX, hH6.del 1 rfl⟩
  first | with_reducible replace hl := of_decide_eq_false hl | with_reducible replace hl := bn_F hl | with_reducible replace hl := bb_F hl | skip
  refine WT_skip ?_
  refine WT_inBlock ?_
  refine WT_seq ?_
  refine WT_region ?_
  refine WL_v rfl (ov_assign rfl) ?_
  refine WL_v rfl (ov_assign rfl) ?_
  refine WL_nil ?_
  exact WT_ret2 Try.func45 Try.results45 rfl rfl (by
    have : kindRow 4 rows = [] := by
      match rows, hl with
      | [], _ => rfl
      | [_], hl => simp at hl
      | _ :: _ :: _, _ => rfl
    rw [this]
    exact RowT.none hH4.drop)

theorem kindRun_5 (hH : H w h Ls) {rv : Value} {rows : List (List Int)} (hR : RdLL h Ls rv rows) : Rets Try.prog 45 #[.int .i64 5, rv] w fun v w' => RowT h Ls v w' (kindRow 5 rows) := by
  have hwk := fun {w : World} (hH : H w h Ls) => workOf_ok hH 5
  refine rets_enter Try.func45 rfl Try.ntmps45 (by simp) ?_
  refine WT_seq ?_
  refine WT_region ?_
  refine WL_v rfl (ov_assign rfl) ?_
  refine WL_v rfl (ov_assign rfl) ?_
  refine WL_nil ?_
  refine WT_seq ?_
  refine WT_seq ?_
  refine WT_region ?_
  refine WL_v rfl (ov_move rfl) ?_
  refine WL_call rfl rfl cf_impl_workOf (hwk hH) ?_; rintro _ w1 ⟨rfl, hH1⟩
  refine WL_nil ?_
  refine WT_block ?_
  refine WT_seq ?_
  refine WT_region ?_
  refine WL_v rfl (ov_taK rfl (taP_lone _)) ?_
  refine WL_v rfl (ov_extract rfl rfl) ?_
  refine WL_v rfl (ov_extract rfl rfl) ?_
  refine WL_nil ?_
  refine WT_condF rfl ?_
  refine WT_seq ?_
  refine WT_region ?_
  refine WL_v rfl (ov_taK rfl (taL_lone _)) ?_
  refine WL_v rfl (ov_extract rfl rfl) ?_
  refine WL_v rfl (ov_extract rfl rfl) ?_
  refine WL_nil ?_
  refine WT_condT rfl ?_
  refine WT_seq ?_
  refine WT_region ?_
  refine WL_alloc #[.nilFunc] rfl hH1 zero_loneK rfl ?_; rintro g w2 hH2
  refine WL_storeN hH2 rfl rfl (i := 0) rfl rfl rfl (ones_cons rfl ones_nil) sz_impl_loneWork ?_; rintro w3 hH3
  refine WL_nil ?_
  refine WT_seq ?_
  refine WT_region ?_
  refine WL_v rfl (ov_move rfl) ?_
  refine WL_v rfl (ov_len rfl hR.sl st_sl_sl_int) ?_
  refine WL_v rfl (ov_loadN [fnV 107] rfl agg_impl_loneWork rfl ((fun j v hj => by rw [show Addr.add ⟨g, 0, none⟩ j = ⟨g, j, none⟩ by simp [add_of]]; exact (hH3.cb 0 rfl j).trans (by simpa using hj)))) ?_
  refine WL_call rfl rfl cf_impl_loneWork_needs (needs_lone hH3 _) ?_; rintro _ w4 ⟨rfl, hH4⟩
  refine WL_v rfl (ov_eql rfl rfl) ?_
  refine WL_nil ?_
  refine WT_cond rfl (fun hl => ?_) (fun hl => ?_)
  · skip
    first | with_reducible replace hl := of_decide_eq_true hl | with_reducible replace hl := bn_T hl | with_reducible replace hl := bb_T hl | skip
    obtain ⟨x, rfl⟩ : ∃ x, rows = [x] := by
      match rows, hl with
      | [x], _ => exact ⟨x, rfl⟩
      | [], hl => simp at hl
      | _ :: _ :: _, hl => simp at hl; omega
    obtain ⟨u1, g1, c1⟩ := hR.at_ (i := 0) (by simp)
    refine WT_seq ?_
    refine WT_mixL [(0, 1), (1, 0), (2, 1), (3, 1), (4, 0), (5, 3), (6, 1), (7, 1), (8, 1), (9, 1)] mixed (by kernel_rfl) hH4 ?_
    clear hH4
    intro w5 hH4 hC
    refine WM_p rfl rfl (fun _ => ov_field rfl fo_impl_loneWork_0) ?_
    refine WM_v rfl rfl hC (fun _ ⟨_, hH⟩ => ov_load rfl one_func_sl_int_sl_int_bool (hH.cb 1 rfl 0)) ?_
    refine WM_p rfl rfl (fun _ => ov_move rfl) ?_
    refine WM_p rfl rfl (fun _ => ov_index (i := 0) rfl rfl st_sl_sl_int hR.sl (by omega)) ?_
    refine WM_v rfl rfl hC (fun _ ⟨_, hH⟩ => ov_load rfl one_sl_int (c1 hH.drop.drop)) ?_
    refine WM_e rfl ?_
    refine WL_callV (ws := [u1]) rfl rfl rfl rfl cf_impl_RowTurn (rowTurn_ok hH4 g1.up) ?_; rintro _ w6 ⟨ru, ok, X, rfl, hX, hH6⟩
    refine WL_mix (fun h => absurd rfl h) ?_
    refine WM_p rfl rfl (fun _ => ov_extract rfl rfl) ?_
    refine WM_p rfl rfl (fun _ => ov_extract rfl rfl) ?_
    refine WM_p rfl rfl (fun _ => ov_assign rfl) ?_
    refine WM_p rfl rfl (fun _ => ov_assign rfl) ?_
    refine WM_nil ?_
    exact WT_ret2 Try.func45 Try.results45 rfl rfl ⟨ru, ok, X, rfl, hX, hH6.del 1 rfl⟩
  first | with_reducible replace hl := of_decide_eq_false hl | with_reducible replace hl := bn_F hl | with_reducible replace hl := bb_F hl | skip
  refine WT_skip ?_
  refine WT_inBlock ?_
  refine WT_seq ?_
  refine WT_region ?_
  refine WL_v rfl (ov_assign rfl) ?_
  refine WL_v rfl (ov_assign rfl) ?_
  refine WL_nil ?_
  exact WT_ret2 Try.func45 Try.results45 rfl rfl (by
    have : kindRow 5 rows = [] := by
      match rows, hl with
      | [], _ => rfl
      | [_], hl => simp at hl
      | _ :: _ :: _, _ => rfl
    rw [this]
    exact RowT.none hH4.drop)

theorem kindRun_given (hH : H w h Ls) {rv : Value} : Rets Try.prog 45 #[.int .i64 0, rv] w fun v w' => RowT h Ls v w' [] := by
  have hwk := fun {w : World} (hH : H w h Ls) => workOf_ok hH 0
  refine rets_enter Try.func45 rfl Try.ntmps45 (by simp) ?_
  refine WT_seq ?_
  refine WT_region ?_
  refine WL_v rfl (ov_assign rfl) ?_
  refine WL_v rfl (ov_assign rfl) ?_
  refine WL_nil ?_
  refine WT_seq ?_
  refine WT_seq ?_
  refine WT_region ?_
  refine WL_v rfl (ov_move rfl) ?_
  refine WL_call rfl rfl cf_impl_workOf (hwk hH) ?_; rintro _ w1 ⟨rfl, hH1⟩
  refine WL_nil ?_
  refine WT_block ?_
  refine WT_seq ?_
  refine WT_region ?_
  refine WL_v rfl (ov_taK rfl taP_given) ?_
  refine WL_v rfl (ov_extract rfl rfl) ?_
  refine WL_v rfl (ov_extract rfl rfl) ?_
  refine WL_nil ?_
  refine WT_condF rfl ?_
  refine WT_seq ?_
  refine WT_region ?_
  refine WL_v rfl (ov_taK rfl taL_given) ?_
  refine WL_v rfl (ov_extract rfl rfl) ?_
  refine WL_v rfl (ov_extract rfl rfl) ?_
  refine WL_nil ?_
  refine WT_condF rfl ?_
  refine WT_skip ?_
  refine WT_inBlock ?_
  refine WT_seq ?_
  refine WT_region ?_
  refine WL_v rfl (ov_assign rfl) ?_
  refine WL_v rfl (ov_assign rfl) ?_
  refine WL_nil ?_
  exact WT_ret2 Try.func45 Try.results45 rfl rfl (RowT.none hH1)
theorem kindRun_ok (hH : H w h Ls) {k : Int} (hk : kindOk k = true) {rv : Value} {rows : List (List Int)} (hR : RdLL h Ls rv rows) : Rets Try.prog 45 #[.int .i64 k, rv] w fun v w' => RowT h Ls v w' (kindRow k rows) := by
  rcases (kindOk_iff k).1 hk with rfl | rfl | rfl | rfl | rfl | rfl
  · exact kindRun_given hH
  · exact kindRun_1 hH hR
  · exact kindRun_2 hH hR
  · exact kindRun_3 hH hR
  · exact kindRun_4 hH hR
  · exact kindRun_5 hH hR
end
end Go.Proofs.Ytafljegjdanldaa

/- Walks: what kinds do with rows: the reference. -/
namespace Go.Proofs.Ytafljegjdanldaa
open Go.RowKit

section
variable {h : GH} {Ls : List Heaplet} {w : World}

theorem bothOk_eq (a b : List Int) : bothOk a b = (rowOk a && rowOk b && decide (a.length = b.length)) := rfl
theorem l1Both_ok (hH : H w h Ls) {av bv : Value} {a b : List Int} (hA : RdL h Ls av a) (hB : RdL h Ls bv b) : Rets Try.prog 133 #[av, bv] w fun v w' => v = .bool (bothOk a b) ∧ H w' h Ls := by
  have hva := fun {w : World} (hH : H w h Ls) => sRowValidR_ok hH hA
  have hvb := fun {w : World} (hH : H w h Ls) => sRowValidR_ok hH hB
  rw [bothOk_eq]
  refine rets_enter Try.func133 rfl Try.ntmps133 (by simp) ?_
  by_cases ha : rowOk a = true
  · skip
    rw [ha] at hva ⊢
    by_cases hb : rowOk b = true
    · skip
      rw [hb] at hvb ⊢
      refine WT_seq ?_
      refine WT_region ?_
      refine WL_v rfl (ov_assign rfl) ?_
      refine WL_nil ?_
      refine WT_seq ?_
      refine WT_region ?_
      refine WL_v rfl (ov_move rfl) ?_
      refine WL_call rfl rfl cf_spec_RowValid (hva hH) ?_; rintro _ w1 ⟨rfl, hH1⟩
      refine WL_v rfl (ov_move rfl) ?_
      refine WL_guardOn rfl rfl ?_
      refine WL_v rfl (ov_move rfl) ?_
      refine WL_guardOn rfl rfl ?_
      refine WL_call rfl rfl cf_spec_RowValid (hvb hH1) ?_; rintro _ w2 ⟨rfl, hH2⟩
      refine WL_v rfl (ov_pickT rfl rfl) ?_
      refine WL_v rfl (ov_move rfl) ?_
      refine WL_guardOn rfl rfl ?_
      refine WL_v rfl (ov_move rfl) ?_
      refine WL_guardOn rfl rfl ?_
      refine WL_v rfl (ov_len rfl hA.sl st_sl_int) ?_
      refine WL_guardOn rfl rfl ?_
      refine WL_v rfl (ov_move rfl) ?_
      refine WL_guardOn rfl rfl ?_
      refine WL_v rfl (ov_len rfl hB.sl st_sl_int) ?_
      refine WL_guardOn rfl rfl ?_
      refine WL_v rfl (ov_eql rfl rfl) ?_
      refine WL_v rfl (ov_pickT rfl rfl) ?_
      refine WL_v rfl (ov_assign rfl) ?_
      refine WL_nil ?_
      exact WT_ret1 Try.func133 Try.results133 rfl ⟨congrArg Value.bool (by rw [Bool.true_and, Bool.true_and]; exact decide_eq_decide.2 (by omega)), hH2⟩
    · skip
      rw [rowOk_F hb] at hvb ⊢
      refine WT_seq ?_
      refine WT_region ?_
      refine WL_v rfl (ov_assign rfl) ?_
      refine WL_nil ?_
      refine WT_seq ?_
      refine WT_region ?_
      refine WL_v rfl (ov_move rfl) ?_
      refine WL_call rfl rfl cf_spec_RowValid (hva hH) ?_; rintro _ w1 ⟨rfl, hH1⟩
      refine WL_v rfl (ov_move rfl) ?_
      refine WL_guardOn rfl rfl ?_
      refine WL_v rfl (ov_move rfl) ?_
      refine WL_guardOn rfl rfl ?_
      refine WL_call rfl rfl cf_spec_RowValid (hvb hH1) ?_; rintro _ w2 ⟨rfl, hH2⟩
      refine WL_v rfl (ov_pickT rfl rfl) ?_
      refine WL_v rfl (ov_move rfl) ?_
      refine WL_guardOff rfl rfl rfl rfl ?_
      refine WL_guardOff rfl rfl rfl rfl ?_
      refine WL_guardOff rfl rfl rfl rfl ?_
      refine WL_guardOff rfl rfl rfl rfl ?_
      refine WL_guardOff rfl rfl rfl rfl ?_
      refine WL_v rfl (ov_pickF rfl rfl) ?_
      refine WL_v rfl (ov_assign rfl) ?_
      refine WL_nil ?_
      exact WT_ret1 Try.func133 Try.results133 rfl ⟨rfl, hH2⟩
  · skip
    rw [rowOk_F ha] at hva ⊢
    refine WT_seq ?_
    refine WT_region ?_
    refine WL_v rfl (ov_assign rfl) ?_
    refine WL_nil ?_
    refine WT_seq ?_
    refine WT_region ?_
    refine WL_v rfl (ov_move rfl) ?_
    refine WL_call rfl rfl cf_spec_RowValid (hva hH) ?_; rintro _ w1 ⟨rfl, hH1⟩
    refine WL_v rfl (ov_move rfl) ?_
    refine WL_guardOff rfl rfl rfl rfl ?_
    refine WL_guardOff rfl rfl rfl rfl ?_
    refine WL_v rfl (ov_pickF rfl rfl) ?_
    refine WL_v rfl (ov_move rfl) ?_
    refine WL_guardOff rfl rfl rfl rfl ?_
    refine WL_guardOff rfl rfl rfl rfl ?_
    refine WL_guardOff rfl rfl rfl rfl ?_
    refine WL_guardOff rfl rfl rfl rfl ?_
    refine WL_guardOff rfl rfl rfl rfl ?_
    refine WL_v rfl (ov_pickF rfl rfl) ?_
    refine WL_v rfl (ov_assign rfl) ?_
    refine WL_nil ?_
    exact WT_ret1 Try.func133 Try.results133 rfl ⟨rfl, hH1⟩

theorem sRowAdd_ok (hH : H w h Ls) {av bv : Value} {a b : List Int} (hA : RdL h Ls av a) (hB : RdL h Ls bv b) : Rets Try.prog 126 #[av, bv] w fun v w' => RowT h Ls v w' (pairL (· + ·) a b) := by
  refine rets_enter Try.func126 rfl Try.ntmps126 (by simp) ?_
  refine WT_seq ?_
  refine WT_region ?_
  refine WL_v rfl (ov_assign rfl) ?_
  refine WL_v rfl (ov_assign rfl) ?_
  refine WL_nil ?_
  refine WT_seq ?_
  refine WT_region ?_
  refine WL_bsI0 rfl hH run_bs_int0 ?_; rintro X xv w1 hX hH1
  refine WL_v rfl (ov_assign rfl) ?_
  refine WL_nil ?_
  refine WT_seq ?_
  refine WT_seq ?_
  refine WT_region ?_
  refine WL_v rfl (ov_move rfl) ?_
  refine WL_v rfl (ov_move rfl) ?_
  refine WL_call rfl rfl cf_spec_l1Both (l1Both_ok hH1 hA.up hB.up) ?_; rintro _ w2 ⟨rfl, hH2⟩
  refine WL_v rfl (ov_not rfl) ?_
  refine WL_nil ?_
  refine WT_cond rfl (fun hbo => ?_) (fun hbo => ?_)
  · skip
    first | with_reducible replace hbo := of_decide_eq_true hbo | with_reducible replace hbo := bn_T hbo | with_reducible replace hbo := bb_T hbo | skip
    refine WT_seq ?_
    refine WT_region ?_
    refine WL_v rfl (ov_move rfl) ?_
    refine WL_v rfl (ov_assign rfl) ?_
    refine WL_v rfl (ov_assign rfl) ?_
    refine WL_nil ?_
    exact WT_ret2 Try.func126 Try.results126 rfl rfl ⟨xv, false, X, rfl, by rw [pairL, if_neg (by simpa using hbo)]; exact hX, hH2⟩
  first | with_reducible replace hbo := of_decide_eq_false hbo | with_reducible replace hbo := bn_F hbo | with_reducible replace hbo := bb_F hbo | skip
  have hboth : bothOk a b = true := by simpa using hbo
  obtain ⟨ha, hb, hl⟩ := (bothOk_iff a b).1 hboth
  have h6 := rowOk_len6 ha
  rw [pairL, if_pos hboth]
  refine WT_skip ?_
  refine WT_seq ?_
  refine WT_seq ?_
  refine WT_region ?_
  refine WL_v rfl (ov_assign rfl) ?_
  refine WL_nil ?_
  refine WT_block ?_
  refine WT_while (fun s : Nat × Value => [(0, av), (1, bv), (6, s.2), (7, .int .i64 (s.1 : Int))]) (fun s w => s.1 ≤ a.length ∧ ∃ X, IRow X 3 s.2 ((List.zipWith (fun x y => (x + y) % 1009) a b).take s.1) ∧ H w h (X :: Ls)) (fun s => a.length - s.1) (0, xv) (by repeat (first | exact trivial | refine ⟨rfl, ?_⟩)) ⟨by simp, X, by simpa using hX, hH2⟩ ?_
  clear hH hH1 hH2 hX X xv
  rintro ⟨k, xv⟩ w3 ⟨hk, X, hX, hH⟩ again
  simp only at hk hX
  refine WT_seq ?_
  refine WT_seq ?_
  refine WT_region ?_
  refine WL_v rfl (ov_move rfl) ?_
  refine WL_v rfl (ov_move rfl) ?_
  refine WL_v rfl (ov_len rfl hA.sl st_sl_int) ?_
  refine WL_v rfl (ov_lss rfl rfl) ?_
  refine WL_nil ?_
  refine WT_cond rfl (fun hc => ?_) (fun hc => ?_)
  · skip
    first | with_reducible replace hc := of_decide_eq_true hc | with_reducible replace hc := bn_T hc | with_reducible replace hc := bb_T hc | skip
    have hka : k < a.length := by simp only at hc; omega
    have hkb : k < b.length := by omega
    have htl : ((List.zipWith (fun x y => (x + y) % 1009) a b).take k).length = k := by simp; omega
    have hax := rowOk_at ha hka
    have hbx := rowOk_at hb hkb
    have hm := mul_small hax.1 hax.2 hbx.1 hbx.2
    refine WT_skip ?_
    refine WT_seq ?_
    refine WT_block ?_
    refine WT_mixL [(0, 1), (1, 1), (2, 1), (3, 1), (4, 0), (5, 1), (6, 1), (7, 1), (8, 0), (9, 1), (10, 1), (11, 3), (12, 3), (13, 1)] mixed (by kernel_rfl) hH ?_
    clear hH
    intro w4 hH hC
    refine WM_p rfl rfl (fun _ => ov_move rfl) ?_
    refine WM_p rfl rfl (fun _ => ov_move rfl) ?_
    refine WM_p rfl rfl (fun _ => ov_move rfl) ?_
    refine WM_p rfl rfl (fun _ => ov_index rfl rfl st_sl_int hA.sl hka) ?_
    refine WM_v rfl rfl hC (fun _ ⟨_, hH⟩ => ov_load rfl one_int (hA.cell hH.drop.drop hka)) ?_
    refine WM_p rfl rfl (fun _ => ov_move rfl) ?_
    refine WM_p rfl rfl (fun _ => ov_move rfl) ?_
    refine WM_p rfl rfl (fun _ => ov_index rfl rfl st_sl_int hB.sl hkb) ?_
    refine WM_v rfl rfl hC (fun _ ⟨_, hH⟩ => ov_load rfl one_int (hB.cell hH.drop.drop hkb)) ?_
    refine WM_p rfl rfl (fun _ => ov_add rfl rfl (by omega)) ?_
    refine WM_p rfl rfl (fun _ => ov_rem rfl rfl (by omega) (by decide)) ?_
    refine WM_e rfl ?_
    refine WL_bsI rfl hH rfl (run_bs_int _) ?_; rintro Y yv w5 hY hH5
    refine WL_mix (fun h => absurd rfl h) ?_
    refine WM_e rfl ?_
    refine WL_appI (i := 1) (j := 0) rfl hH5 rfl rfl st_sl_int rfl hX rfl hY (by rw [htl]; simp; omega) (by rw [htl]; simp; omega) ?_; rintro X2 xv2 w6 hX2 hH6
    refine WL_mix (fun h => absurd rfl h) ?_
    refine WM_p rfl rfl (fun _ => ov_assign rfl) ?_
    refine WM_nil ?_
    refine WT_inBlock ?_
    refine WT_region ?_
    refine WL_v rfl (ov_move rfl) ?_
    refine WL_v rfl (ov_add rfl rfl (by omega)) ?_
    refine WL_v rfl (ov_assign rfl) ?_
    refine WL_nil ?_
    refine again (k + 1, xv2) _ _ (by simp only; omega) (by repeat (first | exact trivial | refine ⟨rfl, ?_⟩)) ⟨by simp only; omega, X2, by simp only; rw [pairL_snoc (f := (· + ·)) hka hkb]; exact hX2, hH6.drop⟩
  first | with_reducible replace hc := of_decide_eq_false hc | with_reducible replace hc := bn_F hc | with_reducible replace hc := bb_F hc | skip
  obtain rfl : k = a.length := by simp only at hc; omega
  refine WT_exit rfl ?_
  refine WT_seq ?_
  refine WT_region ?_
  refine WL_v rfl (ov_move rfl) ?_
  refine WL_v rfl (ov_assign rfl) ?_
  refine WL_v rfl (ov_assign rfl) ?_
  refine WL_nil ?_
  exact WT_ret2 Try.func126 Try.results126 rfl rfl ⟨_, _, X, rfl, by rw [List.take_of_length_le (by simp; omega)] at hX; exact hX, hH⟩

theorem sRowTimes_ok (hH : H w h Ls) {av bv : Value} {a b : List Int} (hA : RdL h Ls av a) (hB : RdL h Ls bv b) : Rets Try.prog 127 #[av, bv] w fun v w' => RowT h Ls v w' (pairL (· * ·) a b) := by
  refine rets_enter Try.func127 rfl Try.ntmps127 (by simp) ?_
  refine WT_seq ?_
  refine WT_region ?_
  refine WL_v rfl (ov_assign rfl) ?_
  refine WL_v rfl (ov_assign rfl) ?_
  refine WL_nil ?_
  refine WT_seq ?_
  refine WT_region ?_
  refine WL_bsI0 rfl hH run_bs_int0 ?_; rintro X xv w1 hX hH1
  refine WL_v rfl (ov_assign rfl) ?_
  refine WL_nil ?_
  refine WT_seq ?_
  refine WT_seq ?_
  refine WT_region ?_
  refine WL_v rfl (ov_move rfl) ?_
  refine WL_v rfl (ov_move rfl) ?_
  refine WL_call rfl rfl cf_spec_l1Both (l1Both_ok hH1 hA.up hB.up) ?_; rintro _ w2 ⟨rfl, hH2⟩
  refine WL_v rfl (ov_not rfl) ?_
  refine WL_nil ?_
  refine WT_cond rfl (fun hbo => ?_) (fun hbo => ?_)
  · skip
    first | with_reducible replace hbo := of_decide_eq_true hbo | with_reducible replace hbo := bn_T hbo | with_reducible replace hbo := bb_T hbo | skip
    refine WT_seq ?_
    refine WT_region ?_
    refine WL_v rfl (ov_move rfl) ?_
    refine WL_v rfl (ov_assign rfl) ?_
    refine WL_v rfl (ov_assign rfl) ?_
    refine WL_nil ?_
    exact WT_ret2 Try.func127 Try.results127 rfl rfl ⟨xv, false, X, rfl, by rw [pairL, if_neg (by simpa using hbo)]; exact hX, hH2⟩
  first | with_reducible replace hbo := of_decide_eq_false hbo | with_reducible replace hbo := bn_F hbo | with_reducible replace hbo := bb_F hbo | skip
  have hboth : bothOk a b = true := by simpa using hbo
  obtain ⟨ha, hb, hl⟩ := (bothOk_iff a b).1 hboth
  have h6 := rowOk_len6 ha
  rw [pairL, if_pos hboth]
  refine WT_skip ?_
  refine WT_seq ?_
  refine WT_seq ?_
  refine WT_region ?_
  refine WL_v rfl (ov_assign rfl) ?_
  refine WL_nil ?_
  refine WT_block ?_
  refine WT_while (fun s : Nat × Value => [(0, av), (1, bv), (6, s.2), (7, .int .i64 (s.1 : Int))]) (fun s w => s.1 ≤ a.length ∧ ∃ X, IRow X 3 s.2 ((List.zipWith (fun x y => (x * y) % 1009) a b).take s.1) ∧ H w h (X :: Ls)) (fun s => a.length - s.1) (0, xv) (by repeat (first | exact trivial | refine ⟨rfl, ?_⟩)) ⟨by simp, X, by simpa using hX, hH2⟩ ?_
  clear hH hH1 hH2 hX X xv
  rintro ⟨k, xv⟩ w3 ⟨hk, X, hX, hH⟩ again
  simp only at hk hX
  refine WT_seq ?_
  refine WT_seq ?_
  refine WT_region ?_
  refine WL_v rfl (ov_move rfl) ?_
  refine WL_v rfl (ov_move rfl) ?_
  refine WL_v rfl (ov_len rfl hA.sl st_sl_int) ?_
  refine WL_v rfl (ov_lss rfl rfl) ?_
  refine WL_nil ?_
  refine WT_cond rfl (fun hc => ?_) (fun hc => ?_)
  · skip
    first | with_reducible replace hc := of_decide_eq_true hc | with_reducible replace hc := bn_T hc | with_reducible replace hc := bb_T hc | skip
    have hka : k < a.length := by simp only at hc; omega
    have hkb : k < b.length := by omega
    have htl : ((List.zipWith (fun x y => (x * y) % 1009) a b).take k).length = k := by simp; omega
    have hax := rowOk_at ha hka
    have hbx := rowOk_at hb hkb
    have hm := mul_small hax.1 hax.2 hbx.1 hbx.2
    refine WT_skip ?_
    refine WT_seq ?_
    refine WT_block ?_
    refine WT_mixL [(0, 1), (1, 1), (2, 1), (3, 1), (4, 0), (5, 1), (6, 1), (7, 1), (8, 0), (9, 1), (10, 1), (11, 3), (12, 3), (13, 1)] mixed (by kernel_rfl) hH ?_
    clear hH
    intro w4 hH hC
    refine WM_p rfl rfl (fun _ => ov_move rfl) ?_
    refine WM_p rfl rfl (fun _ => ov_move rfl) ?_
    refine WM_p rfl rfl (fun _ => ov_move rfl) ?_
    refine WM_p rfl rfl (fun _ => ov_index rfl rfl st_sl_int hA.sl hka) ?_
    refine WM_v rfl rfl hC (fun _ ⟨_, hH⟩ => ov_load rfl one_int (hA.cell hH.drop.drop hka)) ?_
    refine WM_p rfl rfl (fun _ => ov_move rfl) ?_
    refine WM_p rfl rfl (fun _ => ov_move rfl) ?_
    refine WM_p rfl rfl (fun _ => ov_index rfl rfl st_sl_int hB.sl hkb) ?_
    refine WM_v rfl rfl hC (fun _ ⟨_, hH⟩ => ov_load rfl one_int (hB.cell hH.drop.drop hkb)) ?_
    refine WM_p rfl rfl (fun _ => ov_mul rfl rfl (by omega)) ?_
    refine WM_p rfl rfl (fun _ => ov_rem rfl rfl (by omega) (by decide)) ?_
    refine WM_e rfl ?_
    refine WL_bsI rfl hH rfl (run_bs_int _) ?_; rintro Y yv w5 hY hH5
    refine WL_mix (fun h => absurd rfl h) ?_
    refine WM_e rfl ?_
    refine WL_appI (i := 1) (j := 0) rfl hH5 rfl rfl st_sl_int rfl hX rfl hY (by rw [htl]; simp; omega) (by rw [htl]; simp; omega) ?_; rintro X2 xv2 w6 hX2 hH6
    refine WL_mix (fun h => absurd rfl h) ?_
    refine WM_p rfl rfl (fun _ => ov_assign rfl) ?_
    refine WM_nil ?_
    refine WT_inBlock ?_
    refine WT_region ?_
    refine WL_v rfl (ov_move rfl) ?_
    refine WL_v rfl (ov_add rfl rfl (by omega)) ?_
    refine WL_v rfl (ov_assign rfl) ?_
    refine WL_nil ?_
    refine again (k + 1, xv2) _ _ (by simp only; omega) (by repeat (first | exact trivial | refine ⟨rfl, ?_⟩)) ⟨by simp only; omega, X2, by simp only; rw [pairL_snoc (f := (· * ·)) hka hkb]; exact hX2, hH6.drop⟩
  first | with_reducible replace hc := of_decide_eq_false hc | with_reducible replace hc := bn_F hc | with_reducible replace hc := bb_F hc | skip
  obtain rfl : k = a.length := by simp only at hc; omega
  refine WT_exit rfl ?_
  refine WT_seq ?_
  refine WT_region ?_
  refine WL_v rfl (ov_move rfl) ?_
  refine WL_v rfl (ov_assign rfl) ?_
  refine WL_v rfl (ov_assign rfl) ?_
  refine WL_nil ?_
  exact WT_ret2 Try.func127 Try.results127 rfl rfl ⟨_, _, X, rfl, by rw [List.take_of_length_le (by simp; omega)] at hX; exact hX, hH⟩

theorem sRowSums_ok (hH : H w h Ls) {av : Value} {r : List Int} (hA : RdL h Ls av r) : Rets Try.prog 128 #[av] w fun v w' => RowT h Ls v w' (sumsL r) := by
  refine rets_enter Try.func128 rfl Try.ntmps128 (by simp) ?_
  refine WT_seq ?_
  refine WT_region ?_
  refine WL_v rfl (ov_assign rfl) ?_
  refine WL_v rfl (ov_assign rfl) ?_
  refine WL_nil ?_
  refine WT_seq ?_
  refine WT_region ?_
  refine WL_bsI0 rfl hH run_bs_int0 ?_; rintro X xv w1 hX hH1
  refine WL_v rfl (ov_assign rfl) ?_
  refine WL_nil ?_
  refine WT_seq ?_
  refine WT_seq ?_
  refine WT_region ?_
  refine WL_v rfl (ov_move rfl) ?_
  refine WL_call rfl rfl cf_spec_RowValid (sRowValidR_ok hH1 hA.up) ?_; rintro _ w2 ⟨rfl, hH2⟩
  refine WL_v rfl (ov_not rfl) ?_
  refine WL_nil ?_
  refine WT_cond rfl (fun hbo => ?_) (fun hbo => ?_)
  · skip
    first | with_reducible replace hbo := of_decide_eq_true hbo | with_reducible replace hbo := bn_T hbo | with_reducible replace hbo := bb_T hbo | skip
    refine WT_seq ?_
    refine WT_region ?_
    refine WL_v rfl (ov_move rfl) ?_
    refine WL_v rfl (ov_assign rfl) ?_
    refine WL_v rfl (ov_assign rfl) ?_
    refine WL_nil ?_
    exact WT_ret2 Try.func128 Try.results128 rfl rfl ⟨xv, false, X, rfl, by rw [sumsL, if_neg (by simpa using hbo)]; exact hX, hH2⟩
  first | with_reducible replace hbo := of_decide_eq_false hbo | with_reducible replace hbo := bn_F hbo | with_reducible replace hbo := bb_F hbo | skip
  have hr : rowOk r = true := by simpa using hbo
  have h6 := rowOk_len6 hr
  rw [sumsL, if_pos hr]
  refine WT_skip ?_
  refine WT_seq ?_
  refine WT_region ?_
  refine WL_v rfl (ov_assign rfl) ?_
  refine WL_nil ?_
  refine WT_seq ?_
  refine WT_seq ?_
  refine WT_region ?_
  refine WL_v rfl (ov_assign rfl) ?_
  refine WL_nil ?_
  refine WT_block ?_
  refine WT_while (fun s : Nat × Value => [(0, av), (4, s.2), (5, .int .i64 (sumAt r s.1)), (6, .int .i64 (s.1 : Int))]) (fun s w => s.1 ≤ r.length ∧ ∃ X, IRow X 3 s.2 (sumsFrom 0 (r.take s.1)) ∧ H w h (X :: Ls)) (fun s => r.length - s.1) (0, xv) (by repeat (first | exact trivial | refine ⟨rfl, ?_⟩)) ⟨by simp, X, by simpa [sumsFrom] using hX, hH2⟩ ?_
  clear hH hH1 hH2 hX X xv
  rintro ⟨k, xv⟩ w3 ⟨hk, X, hX, hH⟩ again
  simp only at hk hX
  refine WT_seq ?_
  refine WT_seq ?_
  refine WT_region ?_
  refine WL_v rfl (ov_move rfl) ?_
  refine WL_v rfl (ov_move rfl) ?_
  refine WL_v rfl (ov_len rfl hA.sl st_sl_int) ?_
  refine WL_v rfl (ov_lss rfl rfl) ?_
  refine WL_nil ?_
  refine WT_cond rfl (fun hc => ?_) (fun hc => ?_)
  · skip
    first | with_reducible replace hc := of_decide_eq_true hc | with_reducible replace hc := bn_T hc | with_reducible replace hc := bb_T hc | skip
    have hkr : k < r.length := by simp only at hc; omega
    have htl : (sumsFrom 0 (r.take k)).length = k := by rw [sumsFrom_len, List.length_take]; omega
    have hx := rowOk_at hr hkr
    have hs := sumAt_range r k hk
    have hss := sumAt_succ hkr
    refine WT_skip ?_
    refine WT_seq ?_
    refine WT_block ?_
    refine WT_seq ?_
    refine WT_region ?_
    refine WL_v rfl (ov_move rfl) ?_
    refine WL_v rfl (ov_move rfl) ?_
    refine WL_v rfl (ov_move rfl) ?_
    refine WL_v rfl (ov_index rfl rfl st_sl_int hA.sl hkr) ?_
    refine WL_v rfl (ov_load rfl one_int (hA.cell hH.drop hkr)) ?_
    refine WL_v rfl (ov_add rfl rfl (by simp only; omega)) ?_
    refine WL_v rfl (ov_as (ov_rem rfl rfl (by simp only; omega) (by decide)) (congrArg (Value.int .i64) hss.symm)) ?_
    refine WL_v rfl (ov_assign rfl) ?_
    refine WL_nil ?_
    refine WT_region ?_
    refine WL_v rfl (ov_move rfl) ?_
    refine WL_v rfl (ov_move rfl) ?_
    refine WL_bsI rfl hH rfl (run_bs_int _) ?_; rintro Y yv w5 hY hH5
    refine WL_appI (i := 1) (j := 0) rfl hH5 rfl rfl st_sl_int rfl hX rfl hY (by rw [htl]; simp; omega) (by rw [htl]; simp; omega) ?_; rintro X2 xv2 w6 hX2 hH6
    refine WL_v rfl (ov_assign rfl) ?_
    refine WL_nil ?_
    refine WT_inBlock ?_
    refine WT_region ?_
    refine WL_v rfl (ov_move rfl) ?_
    refine WL_v rfl (ov_add rfl rfl (by omega)) ?_
    refine WL_v rfl (ov_assign rfl) ?_
    refine WL_nil ?_
    refine again (k + 1, xv2) _ _ (by simp only; omega) (by repeat (first | exact trivial | refine ⟨rfl, ?_⟩)) ⟨by simp only; omega, X2, by simp only; rw [sums_take hkr]; exact hX2, hH6.drop⟩
  first | with_reducible replace hc := of_decide_eq_false hc | with_reducible replace hc := bn_F hc | with_reducible replace hc := bb_F hc | skip
  obtain rfl : k = r.length := by simp only at hc; omega
  refine WT_exit rfl ?_
  refine WT_seq ?_
  refine WT_region ?_
  refine WL_v rfl (ov_move rfl) ?_
  refine WL_v rfl (ov_assign rfl) ?_
  refine WL_v rfl (ov_assign rfl) ?_
  refine WL_nil ?_
  exact WT_ret2 Try.func128 Try.results128 rfl rfl ⟨_, _, X, rfl, by rw [List.take_length] at hX; exact hX, hH⟩

theorem l1Put_ok (hH : H w h Ls) {av : Value} {r : List Int} (n : Int) (hA : RdL h Ls av r) (hr : r.length ≤ 6) : Rets Try.prog 134 #[av, .int .i64 n] w fun v w' => ∃ X, IRow X 3 v (putL n r) ∧ H w' h (X :: Ls) := by
  refine rets_enter Try.func134 rfl Try.ntmps134 (by simp) ?_
  refine WT_seq ?_
  refine WT_region ?_
  refine WL_v rfl (ov_assign rfl) ?_
  refine WL_nil ?_
  refine WT_seq ?_
  refine WT_region ?_
  refine WL_bsI0 rfl hH run_bs_int0 ?_; rintro X xv w1 hX hH1
  refine WL_v rfl (ov_assign rfl) ?_
  refine WL_nil ?_
  refine WT_seq ?_
  refine WT_region ?_
  refine WL_v rfl (ov_assign rfl) ?_
  refine WL_nil ?_
  refine WT_seq ?_
  refine WT_seq ?_
  refine WT_region ?_
  refine WL_v rfl (ov_assign rfl) ?_
  refine WL_nil ?_
  refine WT_block ?_
  refine WT_while (fun s : Nat × Value × Bool => [(0, av), (1, .int .i64 n), (5, s.2.1), (6, .bool s.2.2), (7, .int .i64 (s.1 : Int))]) (fun s w => s.1 ≤ r.length ∧ ∃ X o, IRow X 3 s.2.1 o ∧ o.length ≤ s.1 + 1 ∧ (s.2.2 = false → o = r.take s.1 ∧ ∀ y ∈ o, y ≤ n) ∧ (s.2.2 = true → o ++ r.drop s.1 = putL n r) ∧ H w h (X :: Ls)) (fun s => r.length - s.1) (0, xv, false) (by repeat (first | exact trivial | refine ⟨rfl, ?_⟩)) ⟨by simp, X, [], hX, by simp, by simp, by simp, hH1⟩ ?_
  clear hH hH1 hX X xv
  rintro ⟨k, xv, dn⟩ w3 ⟨hk, X, o, hX, hol, hF, hT, hH⟩ again
  simp only at hk hX hol hF hT
  refine WT_seq ?_
  refine WT_seq ?_
  refine WT_region ?_
  refine WL_v rfl (ov_move rfl) ?_
  refine WL_v rfl (ov_move rfl) ?_
  refine WL_v rfl (ov_len rfl hA.sl st_sl_int) ?_
  refine WL_v rfl (ov_lss rfl rfl) ?_
  refine WL_nil ?_
  refine WT_cond rfl (fun hc => ?_) (fun hc => ?_)
  · skip
    first | with_reducible replace hc := of_decide_eq_true hc | with_reducible replace hc := bn_T hc | with_reducible replace hc := bb_T hc | skip
    have hkr : k < r.length := by simp only at hc; omega
    have hdr : r.drop k = r[k] :: r.drop (k + 1) := List.drop_eq_getElem_cons hkr
    have htk : r.take (k + 1) = r.take k ++ [r[k]] := List.take_succ_eq_append_getElem hkr
    cases dn with
    | true =>
      have hT1 := hT rfl
      refine WT_skip ?_
      refine WT_seq ?_
      refine WT_block ?_
      refine WT_seq ?_
      refine WT_seq ?_
      refine WT_region ?_
      refine WL_v rfl (ov_move rfl) ?_
      refine WL_v rfl (ov_not rfl) ?_
      refine WL_v rfl (ov_move rfl) ?_
      refine WL_guardOff rfl rfl rfl rfl ?_
      refine WL_guardOff rfl rfl rfl rfl ?_
      refine WL_guardOff rfl rfl rfl rfl ?_
      refine WL_guardOff rfl rfl rfl rfl ?_
      refine WL_guardOff rfl rfl rfl rfl ?_
      refine WL_guardOff rfl rfl rfl rfl ?_
      refine WL_v rfl (ov_pickF rfl rfl) ?_
      refine WL_nil ?_
      refine WT_condF rfl ?_
      refine WT_skip ?_
      refine WT_region ?_
      refine WL_v rfl (ov_move rfl) ?_
      refine WL_v rfl (ov_move rfl) ?_
      refine WL_v rfl (ov_move rfl) ?_
      refine WL_v rfl (ov_index rfl rfl st_sl_int hA.sl hkr) ?_
      refine WL_v rfl (ov_load rfl one_int (hA.cell hH.drop hkr)) ?_
      refine WL_bsI rfl hH rfl (run_bs_int _) ?_; rintro Y yv w5 hY hH5
      refine WL_appI (i := 1) (j := 0) rfl hH5 rfl rfl st_sl_int rfl hX rfl hY (by simp; omega) (by simp; omega) ?_; rintro X2 xv2 w6 hX2 hH6
      refine WL_v rfl (ov_assign rfl) ?_
      refine WL_nil ?_
      refine WT_inBlock ?_
      refine WT_region ?_
      refine WL_v rfl (ov_move rfl) ?_
      refine WL_v rfl (ov_add rfl rfl (by omega)) ?_
      refine WL_v rfl (ov_assign rfl) ?_
      refine WL_nil ?_
      refine again (k + 1, xv2, true) _ _ (by simp only; omega) (by repeat (first | exact trivial | refine ⟨rfl, ?_⟩)) ⟨by simp only; omega, X2, o ++ [r[k]], hX2, by simp; omega, by simp, fun _ => ?_, hH6.drop⟩
      rw [← hT1, hdr, List.append_assoc]
      rfl
    | false =>
      obtain ⟨ho, hle⟩ := hF rfl
      refine WT_skip ?_
      refine WT_seq ?_
      refine WT_block ?_
      refine WT_seq ?_
      refine WT_seq ?_
      refine WT_region ?_
      refine WL_v rfl (ov_move rfl) ?_
      refine WL_v rfl (ov_not rfl) ?_
      refine WL_v rfl (ov_move rfl) ?_
      refine WL_guardOn rfl rfl ?_
      refine WL_v rfl (ov_move rfl) ?_
      refine WL_guardOn rfl rfl ?_
      refine WL_v rfl (ov_move rfl) ?_
      refine WL_guardOn rfl rfl ?_
      refine WL_v rfl (ov_index rfl rfl st_sl_int hA.sl hkr) ?_
      refine WL_guardOn rfl rfl ?_
      refine WL_v rfl (ov_load rfl one_int (hA.cell hH.drop hkr)) ?_
      refine WL_guardOn rfl rfl ?_
      refine WL_v rfl (ov_move rfl) ?_
      refine WL_guardOn rfl rfl ?_
      refine WL_v rfl (ov_gtr rfl rfl) ?_
      refine WL_v rfl (ov_pickT rfl rfl) ?_
      refine WL_nil ?_
      refine WT_cond rfl (fun hgt => ?_) (fun hgt => ?_)
      · skip
        first | with_reducible replace hgt := of_decide_eq_true hgt | with_reducible replace hgt := bn_T hgt | with_reducible replace hgt := bb_T hgt | skip
        refine WT_seq ?_
        refine WT_region ?_
        refine WL_v rfl (ov_move rfl) ?_
        refine WL_v rfl (ov_move rfl) ?_
        refine WL_bsI rfl hH rfl (run_bs_int _) ?_; rintro Y yv w5 hY hH5
        refine WL_appI (i := 1) (j := 0) rfl hH5 rfl rfl st_sl_int rfl hX rfl hY (by simp; omega) (by simp; omega) ?_; rintro X2 xv2 w6 hX2 hH6
        refine WL_v rfl (ov_assign rfl) ?_
        refine WL_nil ?_
        refine WT_region ?_
        refine WL_v rfl (ov_assign rfl) ?_
        refine WL_nil ?_
        refine WT_region ?_
        refine WL_v rfl (ov_move rfl) ?_
        refine WL_v rfl (ov_move rfl) ?_
        refine WL_v rfl (ov_move rfl) ?_
        refine WL_v rfl (ov_index rfl rfl st_sl_int hA.sl hkr) ?_
        refine WL_v rfl (ov_load rfl one_int (hA.cell hH6.drop.drop hkr)) ?_
        refine WL_bsI rfl hH6 rfl (run_bs_int _) ?_; rintro Z zv w7 hZ hH7
        refine WL_appI (i := 2) (j := 0) rfl hH7 rfl rfl st_sl_int rfl hX2 rfl hZ (by simp; omega) (by simp; omega) ?_; rintro X3 xv3 w8 hX3 hH8
        refine WL_v rfl (ov_assign rfl) ?_
        refine WL_nil ?_
        refine WT_inBlock ?_
        refine WT_region ?_
        refine WL_v rfl (ov_move rfl) ?_
        refine WL_v rfl (ov_add rfl rfl (by omega)) ?_
        refine WL_v rfl (ov_assign rfl) ?_
        refine WL_nil ?_
        refine again (k + 1, xv3, true) _ _ (by simp only; omega) (by repeat (first | exact trivial | refine ⟨rfl, ?_⟩)) ⟨by simp only; omega, X3, o ++ [n] ++ [r[k]], hX3, ?_, by simp, fun _ => ?_, hH8.drop.drop⟩
        · simp
          have : o.length ≤ k := by rw [ho, List.length_take]; omega
          omega
        · have := putL_mid n (r.take k) (r.drop k) (fun y hy => hle y (by rw [ho]; exact hy)) (fun y hy => by rw [hdr] at hy; have := Option.some.inj hy; omega)
          rw [List.take_append_drop] at this
          rw [this, ho, hdr]
          simp
      first | with_reducible replace hgt := of_decide_eq_false hgt | with_reducible replace hgt := bn_F hgt | with_reducible replace hgt := bb_F hgt | skip
      refine WT_skip ?_
      refine WT_region ?_
      refine WL_v rfl (ov_move rfl) ?_
      refine WL_v rfl (ov_move rfl) ?_
      refine WL_v rfl (ov_move rfl) ?_
      refine WL_v rfl (ov_index rfl rfl st_sl_int hA.sl hkr) ?_
      refine WL_v rfl (ov_load rfl one_int (hA.cell hH.drop hkr)) ?_
      refine WL_bsI rfl hH rfl (run_bs_int _) ?_; rintro Y yv w5 hY hH5
      refine WL_appI (i := 1) (j := 0) rfl hH5 rfl rfl st_sl_int rfl hX rfl hY (by simp; omega) (by simp; omega) ?_; rintro X2 xv2 w6 hX2 hH6
      refine WL_v rfl (ov_assign rfl) ?_
      refine WL_nil ?_
      refine WT_inBlock ?_
      refine WT_region ?_
      refine WL_v rfl (ov_move rfl) ?_
      refine WL_v rfl (ov_add rfl rfl (by omega)) ?_
      refine WL_v rfl (ov_assign rfl) ?_
      refine WL_nil ?_
      refine again (k + 1, xv2, false) _ _ (by simp only; omega) (by repeat (first | exact trivial | refine ⟨rfl, ?_⟩)) ⟨by simp only; omega, X2, o ++ [r[k]], hX2, by simp; omega, fun _ => ⟨by rw [htk, ho], fun y hy => ?_⟩, by simp, hH6.drop⟩
      rcases List.mem_append.1 hy with hy | hy
      · exact hle y hy
      · simp at hy; omega
  first | with_reducible replace hc := of_decide_eq_false hc | with_reducible replace hc := bn_F hc | with_reducible replace hc := bb_F hc | skip
  obtain rfl : k = r.length := by simp only at hc; omega
  cases dn with
  | true =>
    have hT1 := hT rfl
    rw [List.drop_length, List.append_nil] at hT1
    subst hT1
    refine WT_exit rfl ?_
    refine WT_seq ?_
    refine WT_seq ?_
    refine WT_region ?_
    refine WL_v rfl (ov_move rfl) ?_
    refine WL_v rfl (ov_not rfl) ?_
    refine WL_nil ?_
    refine WT_condF rfl ?_
    refine WT_skip ?_
    refine WT_seq ?_
    refine WT_region ?_
    refine WL_v rfl (ov_move rfl) ?_
    refine WL_v rfl (ov_assign rfl) ?_
    refine WL_nil ?_
    exact WT_ret1 Try.func134 Try.results134 rfl ⟨X, hX, hH⟩
  | false =>
    obtain ⟨ho, hle⟩ := hF rfl
    rw [List.take_length] at ho
    subst ho
    refine WT_exit rfl ?_
    refine WT_seq ?_
    refine WT_seq ?_
    refine WT_region ?_
    refine WL_v rfl (ov_move rfl) ?_
    refine WL_v rfl (ov_not rfl) ?_
    refine WL_nil ?_
    refine WT_condT rfl ?_
    refine WT_region ?_
    refine WL_v rfl (ov_move rfl) ?_
    refine WL_v rfl (ov_move rfl) ?_
    refine WL_bsI rfl hH rfl (run_bs_int _) ?_; rintro Y yv w5 hY hH5
    refine WL_appI (i := 1) (j := 0) rfl hH5 rfl rfl st_sl_int rfl hX rfl hY (by simp; omega) (by simp; omega) ?_; rintro X2 xv2 w6 hX2 hH6
    refine WL_v rfl (ov_assign rfl) ?_
    refine WL_nil ?_
    refine WT_seq ?_
    refine WT_region ?_
    refine WL_v rfl (ov_move rfl) ?_
    refine WL_v rfl (ov_assign rfl) ?_
    refine WL_nil ?_
    exact WT_ret1 Try.func134 Try.results134 rfl ⟨X2, by have := putL_mid n o [] hle (by simp); rw [List.append_nil] at this; rw [this]; exact hX2, hH6.drop⟩

theorem sRowSort_ok (hH : H w h Ls) {av : Value} {r : List Int} (hA : RdL h Ls av r) : Rets Try.prog 129 #[av] w fun v w' => RowT h Ls v w' (sortL r) := by
  refine rets_enter Try.func129 rfl Try.ntmps129 (by simp) ?_
  refine WT_seq ?_
  refine WT_region ?_
  refine WL_v rfl (ov_assign rfl) ?_
  refine WL_v rfl (ov_assign rfl) ?_
  refine WL_nil ?_
  refine WT_seq ?_
  refine WT_region ?_
  refine WL_bsI0 rfl hH run_bs_int0 ?_; rintro X xv w1 hX hH1
  refine WL_v rfl (ov_assign rfl) ?_
  refine WL_nil ?_
  refine WT_seq ?_
  refine WT_seq ?_
  refine WT_region ?_
  refine WL_v rfl (ov_move rfl) ?_
  refine WL_call rfl rfl cf_spec_RowValid (sRowValidR_ok hH1 hA.up) ?_; rintro _ w2 ⟨rfl, hH2⟩
  refine WL_v rfl (ov_not rfl) ?_
  refine WL_nil ?_
  refine WT_cond rfl (fun hbo => ?_) (fun hbo => ?_)
  · skip
    first | with_reducible replace hbo := of_decide_eq_true hbo | with_reducible replace hbo := bn_T hbo | with_reducible replace hbo := bb_T hbo | skip
    refine WT_seq ?_
    refine WT_region ?_
    refine WL_v rfl (ov_move rfl) ?_
    refine WL_v rfl (ov_assign rfl) ?_
    refine WL_v rfl (ov_assign rfl) ?_
    refine WL_nil ?_
    exact WT_ret2 Try.func129 Try.results129 rfl rfl ⟨xv, false, X, rfl, by rw [sortL, if_neg (by simpa using hbo)]; exact hX, hH2⟩
  first | with_reducible replace hbo := of_decide_eq_false hbo | with_reducible replace hbo := bn_F hbo | with_reducible replace hbo := bb_F hbo | skip
  have hr : rowOk r = true := by simpa using hbo
  have h6 := rowOk_len6 hr
  rw [sortL, if_pos hr]
  refine WT_skip ?_
  refine WT_seq ?_
  refine WT_seq ?_
  refine WT_region ?_
  refine WL_v rfl (ov_assign rfl) ?_
  refine WL_nil ?_
  refine WT_block ?_
  refine WT_while (fun s : Nat × Value => [(0, av), (4, s.2), (5, .int .i64 (s.1 : Int))]) (fun s w => s.1 ≤ r.length ∧ ∃ X, IRow X 3 s.2 (isortL (r.take s.1)) ∧ H w h (X :: Ls)) (fun s => r.length - s.1) (0, xv) (by repeat (first | exact trivial | refine ⟨rfl, ?_⟩)) ⟨by simp, X, by simpa [isortL] using hX, hH2⟩ ?_
  clear hH hH1 hH2 hX X xv
  rintro ⟨k, xv⟩ w3 ⟨hk, X, hX, hH⟩ again
  simp only at hk hX
  refine WT_seq ?_
  refine WT_seq ?_
  refine WT_region ?_
  refine WL_v rfl (ov_move rfl) ?_
  refine WL_v rfl (ov_move rfl) ?_
  refine WL_v rfl (ov_len rfl hA.sl st_sl_int) ?_
  refine WL_v rfl (ov_lss rfl rfl) ?_
  refine WL_nil ?_
  refine WT_cond rfl (fun hc => ?_) (fun hc => ?_)
  · skip
    first | with_reducible replace hc := of_decide_eq_true hc | with_reducible replace hc := bn_T hc | with_reducible replace hc := bb_T hc | skip
    have hkr : k < r.length := by simp only at hc; omega
    refine WT_skip ?_
    refine WT_seq ?_
    refine WT_block ?_
    refine WT_region ?_
    refine WL_v rfl (ov_move rfl) ?_
    refine WL_v rfl (ov_move rfl) ?_
    refine WL_v rfl (ov_move rfl) ?_
    refine WL_v rfl (ov_index rfl rfl st_sl_int hA.sl hkr) ?_
    refine WL_v rfl (ov_load rfl one_int (hA.cell hH.drop hkr)) ?_
    refine WL_call rfl rfl cf_spec_l1Put (l1Put_ok hH r[k] (hX.rdl (i := 0) rfl) (by rw [isort_len, List.length_take]; omega)) ?_; rintro xv2 w5 ⟨X2, hX2, hH5⟩
    refine WL_v rfl (ov_assign rfl) ?_
    refine WL_nil ?_
    refine WT_inBlock ?_
    refine WT_region ?_
    refine WL_v rfl (ov_move rfl) ?_
    refine WL_v rfl (ov_add rfl rfl (by omega)) ?_
    refine WL_v rfl (ov_assign rfl) ?_
    refine WL_nil ?_
    refine again (k + 1, xv2) _ _ (by simp only; omega) (by repeat (first | exact trivial | refine ⟨rfl, ?_⟩)) ⟨by simp only; omega, X2, by simp only; rw [List.take_succ_eq_append_getElem hkr, isort_snoc]; exact hX2, hH5.del 1 rfl⟩
  first | with_reducible replace hc := of_decide_eq_false hc | with_reducible replace hc := bn_F hc | with_reducible replace hc := bb_F hc | skip
  obtain rfl : k = r.length := by simp only at hc; omega
  refine WT_exit rfl ?_
  refine WT_seq ?_
  refine WT_region ?_
  refine WL_v rfl (ov_move rfl) ?_
  refine WL_v rfl (ov_assign rfl) ?_
  refine WL_v rfl (ov_assign rfl) ?_
  refine WL_nil ?_
  exact WT_ret2 Try.func129 Try.results129 rfl rfl ⟨_, _, X, rfl, by rw [List.take_length] at hX; exact hX, hH⟩

theorem sRowTurn_ok (hH : H w h Ls) {av : Value} {r : List Int} (hA : RdL h Ls av r) : Rets Try.prog 130 #[av] w fun v w' => RowT h Ls v w' (turnL r) := by
  refine rets_enter Try.func130 rfl Try.ntmps130 (by simp) ?_
  refine WT_seq ?_
  refine WT_region ?_
  refine WL_v rfl (ov_assign rfl) ?_
  refine WL_v rfl (ov_assign rfl) ?_
  refine WL_nil ?_
  refine WT_seq ?_
  refine WT_region ?_
  refine WL_bsI0 rfl hH run_bs_int0 ?_; rintro X xv w1 hX hH1
  refine WL_v rfl (ov_assign rfl) ?_
  refine WL_nil ?_
  refine WT_seq ?_
  refine WT_seq ?_
  refine WT_region ?_
  refine WL_v rfl (ov_move rfl) ?_
  refine WL_call rfl rfl cf_spec_RowValid (sRowValidR_ok hH1 hA.up) ?_; rintro _ w2 ⟨rfl, hH2⟩
  refine WL_v rfl (ov_not rfl) ?_
  refine WL_nil ?_
  refine WT_cond rfl (fun hbo => ?_) (fun hbo => ?_)
  · skip
    first | with_reducible replace hbo := of_decide_eq_true hbo | with_reducible replace hbo := bn_T hbo | with_reducible replace hbo := bb_T hbo | skip
    refine WT_seq ?_
    refine WT_region ?_
    refine WL_v rfl (ov_move rfl) ?_
    refine WL_v rfl (ov_assign rfl) ?_
    refine WL_v rfl (ov_assign rfl) ?_
    refine WL_nil ?_
    exact WT_ret2 Try.func130 Try.results130 rfl rfl ⟨xv, false, X, rfl, by rw [turnL, if_neg (by simpa using hbo)]; exact hX, hH2⟩
  first | with_reducible replace hbo := of_decide_eq_false hbo | with_reducible replace hbo := bn_F hbo | with_reducible replace hbo := bb_F hbo | skip
  have hr : rowOk r = true := by simpa using hbo
  have h6 := rowOk_len6 hr
  rw [turnL, if_pos hr]
  refine WT_skip ?_
  refine WT_seq ?_
  refine WT_seq ?_
  refine WT_region ?_
  refine WL_v rfl (ov_move rfl) ?_
  refine WL_v rfl (ov_len rfl hA.sl st_sl_int) ?_
  refine WL_v rfl (ov_as (ov_sub rfl rfl (by omega)) (congrArg (Value.int .i64) ((show (r.length : Int) - 1 = (r.length : Int) - 1 - ((0 : Nat) : Int) by omega)))) ?_
  refine WL_v rfl (ov_assign rfl) ?_
  refine WL_nil ?_
  refine WT_block ?_
  refine WT_while (fun s : Nat × Value => [(0, av), (4, s.2), (5, .int .i64 ((r.length : Int) - 1 - (s.1 : Int)))]) (fun s w => s.1 ≤ r.length ∧ ∃ X, IRow X 3 s.2 (r.reverse.take s.1) ∧ H w h (X :: Ls)) (fun s => r.length - s.1) (0, xv) (by repeat (first | exact trivial | refine ⟨rfl, ?_⟩)) ⟨by simp, X, by simpa using hX, hH2⟩ ?_
  clear hH hH1 hH2 hX X xv
  rintro ⟨k, xv⟩ w3 ⟨hk, X, hX, hH⟩ again
  simp only at hk hX
  refine WT_seq ?_
  refine WT_seq ?_
  refine WT_region ?_
  refine WL_v rfl (ov_move rfl) ?_
  refine WL_v rfl (ov_geq rfl rfl) ?_
  refine WL_nil ?_
  refine WT_cond rfl (fun hc => ?_) (fun hc => ?_)
  · skip
    first | with_reducible replace hc := of_decide_eq_true hc | with_reducible replace hc := bn_T hc | with_reducible replace hc := bb_T hc | skip
    have hkr : k < r.length := by simp only at hc; omega
    obtain ⟨m, hm⟩ : ∃ m, m = r.length - 1 - k := ⟨_, rfl⟩
    have hmi : ((r.length : Int) - 1 - (k : Int)) = (m : Int) := by omega
    have hmr : m < r.length := by omega
    have htl : (r.reverse.take k).length = k := by rw [List.length_take, List.length_reverse]; omega
    simp only [hmi]
    refine WT_skip ?_
    refine WT_seq ?_
    refine WT_block ?_
    refine WT_region ?_
    refine WL_v rfl (ov_move rfl) ?_
    refine WL_v rfl (ov_move rfl) ?_
    refine WL_v rfl (ov_move rfl) ?_
    refine WL_v rfl (ov_index rfl rfl st_sl_int hA.sl hmr) ?_
    refine WL_v rfl (ov_load rfl one_int (hA.cell hH.drop hmr)) ?_
    refine WL_bsI rfl hH rfl (run_bs_int _) ?_; rintro Y yv w5 hY hH5
    refine WL_appI (i := 1) (j := 0) rfl hH5 rfl rfl st_sl_int rfl hX rfl hY (by rw [htl]; simp; omega) (by rw [htl]; simp; omega) ?_; rintro X2 xv2 w6 hX2 hH6
    refine WL_v rfl (ov_assign rfl) ?_
    refine WL_nil ?_
    refine WT_inBlock ?_
    refine WT_region ?_
    refine WL_v rfl (ov_move rfl) ?_
    refine WL_v rfl (ov_as (ov_sub rfl rfl (by omega)) (congrArg (Value.int .i64) ((show (m : Int) - 1 = (r.length : Int) - 1 - ((k + 1 : Nat) : Int) by omega)))) ?_
    refine WL_v rfl (ov_assign rfl) ?_
    refine WL_nil ?_
    refine again (k + 1, xv2) _ _ (by simp only; omega) (by repeat (first | exact trivial | refine ⟨rfl, ?_⟩)) ⟨by simp only; omega, X2, ?_, hH6.drop⟩
    simp only
    rw [List.take_succ_eq_append_getElem (by rw [List.length_reverse]; exact hkr), List.getElem_reverse]
    have : r[r.length - 1 - k] = r[m] := by congr 1; omega
    rw [this]
    exact hX2
  first | with_reducible replace hc := of_decide_eq_false hc | with_reducible replace hc := bn_F hc | with_reducible replace hc := bb_F hc | skip
  obtain rfl : k = r.length := by simp only at hc; omega
  refine WT_exit rfl ?_
  refine WT_seq ?_
  refine WT_region ?_
  refine WL_v rfl (ov_move rfl) ?_
  refine WL_v rfl (ov_assign rfl) ?_
  refine WL_v rfl (ov_assign rfl) ?_
  refine WL_nil ?_
  exact WT_ret2 Try.func130 Try.results130 rfl rfl ⟨_, _, X, rfl, by rw [List.take_of_length_le (by rw [List.length_reverse]; exact Nat.le_refl _)] at hX; exact hX, hH⟩
end
end Go.Proofs.Ytafljegjdanldaa
