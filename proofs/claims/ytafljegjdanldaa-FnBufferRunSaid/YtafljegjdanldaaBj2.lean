/- Walks: who needs a node, and whom nobody needs; the laws' helpers on rows. -/
import Derived.Test.YtafljegjdanldaaBj1
namespace Go.Proofs.Ytafljegjdanldaa
open Go.RowKit

/-- Numbers of nodes as numbers of the program. -/
def toI (l : List Nat) : List Int := l.map fun (j : Nat) => (j : Int)
theorem toI_len (l : List Nat) : (toI l).length = l.length := by simp [toI]
theorem toI_snoc (l : List Nat) (a : Nat) : toI (l ++ [a]) = toI l ++ [(a : Int)] := by simp [toI]
theorem mem_toI {l : List Nat} {a : Int} : a ∈ toI l ↔ 0 ≤ a ∧ a.toNat ∈ l := by
  simp only [toI, List.mem_map]
  constructor
  · rintro ⟨j, hj, rfl⟩; exact ⟨by omega, by simpa using hj⟩
  · rintro ⟨h1, h2⟩; exact ⟨_, h2, by omega⟩
theorem mem_toI_nat {l : List Nat} {a : Nat} : (a : Int) ∈ toI l ↔ a ∈ l := by rw [mem_toI]; simp
/-- The users of a node. -/
def usesOf (p : List Nd) (a : Int) : List Int := if planOk p = true ∧ 0 ≤ a ∧ a < (p.length : Int) then toI (usersTo p p.length a.toNat) else []
/-- The ends of a plan. -/
def endsL (p : List Nd) : List Nat := (List.range p.length).filter fun i => decide (usersTo p p.length i = [])
def endsOf (p : List Nd) : List Int := if planOk p = true then toI (endsL p) else []

theorem usersTo_lt {p : List Nd} {k i j : Nat} (h : j ∈ usersTo p k i) : j < k := (mem_usersTo.1 h).1

section
variable {h : GH} {Ls : List Heaplet} {w : World}

theorem Rd.ptrs {v : Value} {g : Nat → Nat} {l : List Nat} (hR : Rd h v (l.map fun j => ptr (g j))) (hH : H w h Ls) {k : Nat} (hk : k < l.length) : w.cell? ((slA v).add (k * 1)) = some (ptr (g l[k])) := by
  rw [Nat.mul_one]
  exact hR.cell hH (by simp [hk])
/-- A node of a shared graph. -/
theorem GraphRd.box {gv : Value} {g : Nat → Nat} {p : List Nd} (hG : GraphRd h gv g p) {i : Nat} (hi : i < p.length) : ∃ nv uv, (∀ {w Ls}, H w h Ls → ∀ (o : Nat) {u}, [Value.int .i64 (i : Int), nv, uv][o]? = some u → w.cell? ⟨g i, o, none⟩ = some u) ∧
    Sl nv (needTo (p.getD i default).frm).length ∧ Rd h nv ((needTo (p.getD i default).frm).map fun j => ptr (g j)) ∧
    Sl uv (usersTo p p.length i).length ∧ Rd h uv ((usersTo p p.length i).map fun j => ptr (g j)) := by
  obtain ⟨nv, uv, ⟨e, fz, hb⟩, h2, h3, h4, h5⟩ := hG.node i hi
  refine ⟨nv, uv, fun hH o u ho => ?_, h2, h3, h4, h5⟩
  rw [cell_of_heap (hH.rd _ _ hb)]
  simpa using ho
theorem GraphRd.num {gv : Value} {g : Nat → Nat} {p : List Nd} (hG : GraphRd h gv g p) (hH : H w h Ls) {i : Nat} (hi : i < p.length) : w.cell? ⟨g i, 0, none⟩ = some (.int .i64 (i : Int)) := by
  obtain ⟨_, _, h1, _⟩ := hG.box hi
  exact h1 hH 0 rfl
theorem GraphRd.elem {gv : Value} {g : Nat → Nat} {p : List Nd} (hG : GraphRd h gv g p) (hH : H w h Ls) {i : Nat} (hi : i < p.length) : w.cell? ((slA gv).add (i * 1)) = some (ptr (g i)) := by
  have := hG.rd.ptrs hH (k := i) (by simpa using hi)
  simpa using this

theorem isNode_ok (hH : H w h Ls) {pv : Value} {n : Nat} (hP : Sl pv n) (a : Int) : Rets Try.prog 69 #[pv, .int .i64 a] w fun v w' => v = .bool (decide (0 ≤ a ∧ a < (n : Int))) ∧ H w' h Ls := by
  refine rets_enter Try.func69 rfl Try.ntmps69 (by simp) ?_
  by_cases h0 : 0 ≤ a
  · skip
    refine WT_seq ?_
    refine WT_region ?_
    refine WL_v rfl (ov_assign rfl) ?_
    refine WL_nil ?_
    refine WT_seq ?_
    refine WT_region ?_
    refine WL_v rfl (ov_move rfl) ?_
    refine WL_v rfl (ov_T (ov_geq rfl rfl) (by first | exact decide_eq_true h0 | exact nb_T h0 | exact mb_T h0 | exact h0 | (simp only [decide_eq_true_eq]; omega) | simpa using h0)) ?_
    refine WL_v rfl (ov_move rfl) ?_
    refine WL_guardOn rfl rfl ?_
    refine WL_v rfl (ov_move rfl) ?_
    refine WL_guardOn rfl rfl ?_
    refine WL_v rfl (ov_move rfl) ?_
    refine WL_guardOn rfl rfl ?_
    refine WL_v rfl (ov_len rfl hP st_sl_impl_Node) ?_
    refine WL_guardOn rfl rfl ?_
    refine WL_v rfl (ov_lss rfl rfl) ?_
    refine WL_v rfl (ov_pickT rfl rfl) ?_
    refine WL_v rfl (ov_assign rfl) ?_
    refine WL_nil ?_
    exact WT_ret1 Try.func69 Try.results69 rfl ⟨by simp [h0], hH⟩
  refine WT_seq ?_
  refine WT_region ?_
  refine WL_v rfl (ov_assign rfl) ?_
  refine WL_nil ?_
  refine WT_seq ?_
  refine WT_region ?_
  refine WL_v rfl (ov_move rfl) ?_
  refine WL_v rfl (ov_F (ov_geq rfl rfl) (by first | exact decide_eq_false h0 | exact nb_F h0 | exact mb_F h0 | exact h0 | (simp only [decide_eq_false_iff_not]; omega) | simpa using h0)) ?_
  refine WL_v rfl (ov_move rfl) ?_
  refine WL_guardOff rfl rfl rfl rfl ?_
  refine WL_guardOff rfl rfl rfl rfl ?_
  refine WL_guardOff rfl rfl rfl rfl ?_
  refine WL_guardOff rfl rfl rfl rfl ?_
  refine WL_v rfl (ov_pickF rfl rfl) ?_
  refine WL_v rfl (ov_assign rfl) ?_
  refine WL_nil ?_
  exact WT_ret1 Try.func69 Try.results69 rfl ⟨by simp [h0], hH⟩

theorem graphOf_no (hH : H w h Ls) {pv : Value} {p : List Nd} (hP : Plan h pv p) (hv : planOk p = false) : Rets Try.prog 68 #[pv] w fun v w' => v = .tuple #[.slice none 0 0, .bool false] ∧ H w' h Ls :=
  (graphOf_ok hH hP).mono fun v w' hh => by
    rcases hh with ⟨_, h1, h2⟩ | ⟨h1, _⟩
    · exact ⟨h1, h2⟩
    · rw [hv] at h1; cases h1
theorem graphOf_yes (hH : H w h Ls) {pv : Value} {p : List Nd} (hP : Plan h pv p) (hv : planOk p = true) : Rets Try.prog 68 #[pv] w fun v w' => ∃ gv g h', v = .tuple #[gv, .bool true] ∧ h.Le h' ∧ H w' h' Ls ∧ GraphRd h' gv g p :=
  (graphOf_ok hH hP).mono fun v w' hh => by
    rcases hh with ⟨h1, _⟩ | ⟨_, h2⟩
    · rw [hv] at h1; cases h1
    · exact h2

theorem planUses_ok (hH : H w h Ls) {pv : Value} {p : List Nd} (hP : Plan h pv p) (a : Int) : Rets Try.prog 33 #[pv, .int .i64 a] w fun v w' => ∃ X, IRow X 3 v (usesOf p a) ∧ H w' h (X :: Ls) := by
  refine rets_enter Try.func33 rfl Try.ntmps33 (by simp) ?_
  by_cases hv : planOk p = true
  case neg =>
    rw [Bool.not_eq_true] at hv
    refine WT_seq ?_
    refine WT_region ?_
    refine WL_v rfl (ov_assign rfl) ?_
    refine WL_nil ?_
    refine WT_seq ?_
    refine WT_region ?_
    refine WL_v rfl (ov_move rfl) ?_
    refine WL_call rfl rfl cf_impl_graphOf (graphOf_no hH hP hv) ?_; rintro _ w1 ⟨rfl, hH1⟩
    refine WL_v rfl (ov_move rfl) ?_
    refine WL_v rfl (ov_extract rfl rfl) ?_
    refine WL_v rfl (ov_extract rfl rfl) ?_
    refine WL_v rfl (ov_assign rfl) ?_
    refine WL_v rfl (ov_assign rfl) ?_
    refine WL_nil ?_
    refine WT_seq ?_
    refine WT_seq ?_
    refine WT_region ?_
    refine WL_v rfl (ov_move rfl) ?_
    refine WL_v rfl (ov_T (ov_not rfl) (by first | exact decide_eq_true rfl | exact nb_T rfl | exact mb_T rfl | exact rfl | (simp only [decide_eq_true_eq]; omega) | simpa using rfl)) ?_
    refine WL_v rfl (ov_move rfl) ?_
    refine WL_guardOff rfl rfl rfl rfl ?_
    refine WL_guardOff rfl rfl rfl rfl ?_
    refine WL_guardOff rfl rfl rfl rfl ?_
    refine WL_guardOff rfl rfl rfl rfl ?_
    refine WL_v rfl (ov_pickT rfl rfl) ?_
    refine WL_nil ?_
    refine WT_condT rfl ?_
    refine WT_seq ?_
    refine WT_region ?_
    refine WL_v rfl (ov_assign rfl) ?_
    refine WL_nil ?_
    exact WT_ret1 Try.func33 Try.results33 rfl ⟨[], by unfold usesOf; rw [if_neg (by simp [hv])]; exact IRow.nil _, hH1.nilIn⟩
  have hlen := PlanOk.len hv
  refine WT_seq ?_
  refine WT_region ?_
  refine WL_v rfl (ov_assign rfl) ?_
  refine WL_nil ?_
  refine WT_seq ?_
  refine WT_region ?_
  refine WL_v rfl (ov_move rfl) ?_
  refine WL_call rfl rfl cf_impl_graphOf (graphOf_yes hH hP hv) ?_; rintro _ w1 ⟨gv, g, h', rfl, hle, hH1, hG⟩
  refine WL_v rfl (ov_move rfl) ?_
  refine WL_v rfl (ov_extract rfl rfl) ?_
  refine WL_v rfl (ov_extract rfl rfl) ?_
  refine WL_v rfl (ov_assign rfl) ?_
  refine WL_v rfl (ov_assign rfl) ?_
  refine WL_nil ?_
  refine WT_seq ?_
  refine WT_seq ?_
  refine WT_region ?_
  refine WL_v rfl (ov_move rfl) ?_
  refine WL_v rfl (ov_F (ov_not rfl) (by first | exact decide_eq_false rfl | exact nb_F rfl | exact mb_F rfl | exact rfl | (simp only [decide_eq_false_iff_not]; omega) | simpa using rfl)) ?_
  refine WL_v rfl (ov_move rfl) ?_
  refine WL_guardOn rfl rfl ?_
  refine WL_v rfl (ov_move rfl) ?_
  refine WL_guardOn rfl rfl ?_
  refine WL_v rfl (ov_move rfl) ?_
  refine WL_guardOn rfl rfl ?_
  refine WL_call rfl rfl cf_impl_isNode (isNode_ok hH1 hP.sl a) ?_; rintro _ w2 ⟨rfl, hH2⟩
  refine WL_guardOn rfl rfl ?_
  refine WL_v rfl (ov_not rfl) ?_
  refine WL_v rfl (ov_pickF rfl rfl) ?_
  refine WL_nil ?_
  refine WT_cond rfl (fun hn => ?_) (fun hn => ?_)
  · skip
    first | with_reducible replace hn := of_decide_eq_true hn | with_reducible replace hn := bn_T hn | with_reducible replace hn := bb_T hn | skip
    refine WT_seq ?_
    refine WT_region ?_
    refine WL_v rfl (ov_assign rfl) ?_
    refine WL_nil ?_
    exact WT_ret1 Try.func33 Try.results33 rfl ⟨[], by unfold usesOf; rw [if_neg (fun hh => hn hh.2)]; exact IRow.nil _, (hH2.weak hle).nilIn⟩
  first | with_reducible replace hn := of_decide_eq_false hn | with_reducible replace hn := bn_F hn | with_reducible replace hn := bb_F hn | skip
  obtain ⟨i, hi⟩ := Int.eq_ofNat_of_zero_le hn.1
  subst hi
  have hin : i < p.length := by omega
  obtain ⟨nv, uv, hbox, hns, hnr, hus, hur⟩ := hG.box hin
  have hul := usersTo_len p p.length i
  refine WT_skip ?_
  refine WT_seq ?_
  refine WT_region ?_
  refine WL_v rfl (ov_assign rfl) ?_
  refine WL_nil ?_
  refine WT_seq ?_
  refine WT_seq ?_
  refine WT_region ?_
  refine WL_v rfl (ov_move rfl) ?_
  refine WL_v rfl (ov_move rfl) ?_
  refine WL_v rfl (ov_index rfl rfl st_sl_p_impl_planNode hG.sl hin) ?_
  refine WL_v rfl (ov_load rfl one_p_impl_planNode (hG.elem hH2 hin)) ?_
  refine WL_v rfl (ov_nilCheck rfl) ?_
  refine WL_v rfl (ov_field rfl fo_impl_planNode_2) ?_
  refine WL_v rfl (ov_load rfl one_sl_p_impl_planNode (hbox hH2 2 rfl)) ?_
  refine WL_v rfl (ov_len rfl hus st_sl_p_impl_planNode) ?_
  refine WL_v rfl (ov_move rfl) ?_
  refine WL_nil ?_
  refine WT_block ?_
  refine WT_while (fun s : Nat × Value => [(7, s.2), (29, uv), (30, .int .i64 ((usersTo p p.length i).length : Int)), (31, .int .i64 (s.1 : Int))]) (fun s w => s.1 ≤ (usersTo p p.length i).length ∧ ∃ X, IRow X 3 s.2 (toI ((usersTo p p.length i).take s.1)) ∧ H w h' (X :: Ls)) (fun s => (usersTo p p.length i).length - s.1) (0, .slice none 0 0) (by repeat (first | exact trivial | refine ⟨rfl, ?_⟩)) ⟨by omega, [], IRow.nil _, hH2.nilIn⟩ ?_
  clear hH hH1 hH2
  rintro ⟨k, sv⟩ w3 ⟨hk, X, hX, hH⟩ again
  simp only at hk hX
  refine WT_seq ?_
  refine WT_region ?_
  refine WL_v rfl (ov_lss rfl rfl) ?_
  refine WL_nil ?_
  refine WT_seq ?_
  refine WT_cond rfl (fun hc => ?_) (fun hc => ?_)
  · skip
    first | with_reducible replace hc := of_decide_eq_true hc | with_reducible replace hc := bn_T hc | with_reducible replace hc := bb_T hc | skip
    simp only at hc
    have hku : k < (usersTo p p.length i).length := by omega
    have hul2 : (usersTo p p.length i)[k] < p.length := usersTo_lt (List.getElem_mem hku)
    refine WT_skip ?_
    refine WT_seq ?_
    refine WT_block ?_
    refine WT_seq ?_
    refine WT_region ?_
    refine WL_v rfl (ov_index rfl rfl st_sl_p_impl_planNode hus hku) ?_
    refine WL_v rfl (ov_load rfl one_p_impl_planNode (hur.ptrs hH hku)) ?_
    refine WL_v rfl (ov_assign rfl) ?_
    refine WL_nil ?_
    refine WT_region ?_
    refine WL_v rfl (ov_move rfl) ?_
    refine WL_v rfl (ov_move rfl) ?_
    refine WL_v rfl (ov_nilCheck rfl) ?_
    refine WL_v rfl (ov_field rfl fo_impl_planNode_0) ?_
    refine WL_v rfl (ov_load rfl one_int (hG.num hH hul2)) ?_
    refine WL_bsI rfl hH rfl (run_bs_int _) ?_; rintro Y yv w4 hY hH4
    refine WL_appI (i := 1) (j := 0) rfl hH4 rfl rfl st_sl_int rfl hX rfl hY (by simp [toI_len]; omega) (by simp [toI_len]; omega) ?_; rintro X2 sv2 w5 hX2 hH5
    refine WL_v rfl (ov_assign rfl) ?_
    refine WL_nil ?_
    refine WT_inBlock ?_
    refine WT_region ?_
    refine WL_v rfl (ov_add rfl rfl (by omega)) ?_
    refine WL_v rfl (ov_move rfl) ?_
    refine WL_nil ?_
    refine again (k + 1, sv2) _ _ (by simp only; omega) (by repeat (first | exact trivial | refine ⟨rfl, ?_⟩)) ⟨by simp only; omega, X2, by rw [List.take_succ_eq_append_getElem hku, toI_snoc]; exact hX2, hH5.drop⟩
  first | with_reducible replace hc := of_decide_eq_false hc | with_reducible replace hc := bn_F hc | with_reducible replace hc := bb_F hc | skip
  simp only at hc
  obtain rfl : k = (usersTo p p.length i).length := by omega
  rw [List.take_length] at hX
  refine WT_exit rfl ?_
  refine WT_seq ?_
  refine WT_region ?_
  refine WL_v rfl (ov_move rfl) ?_
  refine WL_v rfl (ov_assign rfl) ?_
  refine WL_nil ?_
  exact WT_ret1 Try.func33 Try.results33 rfl ⟨X, by unfold usesOf; rw [if_pos ⟨hv, hn.1, hn.2⟩]; simpa using hX, hH.weak hle⟩

theorem sameRow_ok (hH : H w h Ls) {av bv : Value} {xs ys : List Int} (hA : RdL h Ls av xs) (hB : RdL h Ls bv ys) : Rets Try.prog 15 #[av, bv] w fun v w' => v = .bool (decide (xs = ys)) ∧ H w' h Ls := by
  have hal := hA.sl.lim
  refine rets_enter Try.func15 rfl Try.ntmps15 (by simp) ?_
  refine WT_seq ?_
  refine WT_region ?_
  refine WL_v rfl (ov_assign rfl) ?_
  refine WL_nil ?_
  refine WT_seq ?_
  refine WT_seq ?_
  refine WT_region ?_
  refine WL_v rfl (ov_move rfl) ?_
  refine WL_v rfl (ov_len rfl hA.sl st_sl_int) ?_
  refine WL_v rfl (ov_move rfl) ?_
  refine WL_v rfl (ov_len rfl hB.sl st_sl_int) ?_
  refine WL_v rfl (ov_neq rfl rfl) ?_
  refine WL_nil ?_
  refine WT_cond rfl (fun hne => ?_) (fun hne => ?_)
  · skip
    first | with_reducible replace hne := of_decide_eq_true hne | with_reducible replace hne := bn_T hne | with_reducible replace hne := bb_T hne | skip
    refine WT_seq ?_
    refine WT_region ?_
    refine WL_v rfl (ov_assign rfl) ?_
    refine WL_nil ?_
    exact WT_ret1 Try.func15 Try.results15 rfl ⟨congrArg Value.bool (decide_eq_false fun h => by subst h; exact hne rfl).symm, hH⟩
  first | with_reducible replace hne := of_decide_eq_false hne | with_reducible replace hne := bn_F hne | with_reducible replace hne := bb_F hne | skip
  have hlen : xs.length = ys.length := by omega
  refine WT_skip ?_
  refine WT_seq ?_
  refine WT_seq ?_
  refine WT_region ?_
  refine WL_v rfl (ov_assign rfl) ?_
  refine WL_nil ?_
  refine WT_block ?_
  refine WT_while (fun s : Nat => [(0, av), (1, bv), (5, .int .i64 (s : Int))]) (fun k w => k ≤ xs.length ∧ (∀ j (_ : j < k) (h1 : j < xs.length) (h2 : j < ys.length), xs[j] = ys[j]) ∧ H w h Ls) (fun k => xs.length - k) 0 (by repeat (first | exact trivial | refine ⟨rfl, ?_⟩)) ⟨by omega, by omega, hH⟩ ?_
  clear hH
  rintro k w2 ⟨hk, hall, hH1⟩ again
  refine WT_seq ?_
  refine WT_seq ?_
  refine WT_region ?_
  refine WL_v rfl (ov_move rfl) ?_
  refine WL_v rfl (ov_move rfl) ?_
  refine WL_v rfl (ov_len rfl hA.sl st_sl_int) ?_
  refine WL_v rfl (ov_lss rfl rfl) ?_
  refine WL_nil ?_
  refine WT_cond rfl (fun hc => ?_) (fun hc => ?_)
  · skip
    first | with_reducible replace hc := of_decide_eq_true hc | with_reducible replace hc := bn_T hc | with_reducible replace hc := bb_T hc | skip
    have hkx : k < xs.length := by omega
    have hky : k < ys.length := by omega
    refine WT_skip ?_
    refine WT_seq ?_
    refine WT_block ?_
    refine WT_seq ?_
    refine WT_quiet mixed (by kernel_rfl) hH1 ?_
    clear hH1
    refine WQ_v rfl (fun _ _ => ov_move rfl) ?_
    refine WQ_v rfl (fun _ _ => ov_move rfl) ?_
    refine WQ_v rfl (fun _ _ => ov_index rfl rfl st_sl_int hA.sl hkx) ?_
    refine WQ_v rfl (fun _ hH => ov_load rfl one_int (hA.cell hH hkx)) ?_
    refine WQ_v rfl (fun _ _ => ov_move rfl) ?_
    refine WQ_v rfl (fun _ _ => ov_move rfl) ?_
    refine WQ_v rfl (fun _ _ => ov_index rfl rfl st_sl_int hB.sl hky) ?_
    refine WQ_v rfl (fun _ hH => ov_load rfl one_int (hB.cell hH hky)) ?_
    refine WQ_v rfl (fun _ _ => ov_neq rfl rfl) ?_
    refine WQ_nil ?_
    intro w3 hH1
    refine WT_cond rfl (fun hne => ?_) (fun hne => ?_)
    · skip
      first | with_reducible replace hne := of_decide_eq_true hne | with_reducible replace hne := bn_T hne | with_reducible replace hne := bb_T hne | skip
      refine WT_seq ?_
      refine WT_region ?_
      refine WL_v rfl (ov_assign rfl) ?_
      refine WL_nil ?_
      exact WT_ret1 Try.func15 Try.results15 rfl ⟨congrArg Value.bool (decide_eq_false fun h => by subst h; exact hne rfl).symm, hH1⟩
    first | with_reducible replace hne := of_decide_eq_false hne | with_reducible replace hne := bn_F hne | with_reducible replace hne := bb_F hne | skip
    refine WT_skip ?_
    refine WT_inBlock ?_
    refine WT_region ?_
    refine WL_v rfl (ov_move rfl) ?_
    refine WL_v rfl (ov_add rfl rfl (by omega)) ?_
    refine WL_v rfl (ov_assign rfl) ?_
    refine WL_nil ?_
    refine again (k + 1) _ _ (by omega) (by repeat (first | exact trivial | refine ⟨rfl, ?_⟩)) ⟨by omega, fun j hj h1 h2 => ?_, hH1⟩
    rcases Nat.lt_or_ge j k with h3 | h3
    · exact hall j h3 h1 h2
    · obtain rfl : j = k := by omega
      simpa using hne
  first | with_reducible replace hc := of_decide_eq_false hc | with_reducible replace hc := bn_F hc | with_reducible replace hc := bb_F hc | skip
  obtain rfl : k = xs.length := by omega
  refine WT_exit rfl ?_
  refine WT_seq ?_
  refine WT_region ?_
  refine WL_v rfl (ov_assign rfl) ?_
  refine WL_nil ?_
  exact WT_ret1 Try.func15 Try.results15 rfl ⟨congrArg Value.bool (decide_eq_true (List.ext_getElem hlen fun j h1 h2 => hall j h1 h1 h2)).symm, hH1⟩

end
end Go.Proofs.Ytafljegjdanldaa

/- Plain laws: until when rows are needed and who needs them; the first nodes alone. -/
namespace Go.Proofs.Ytafljegjdanldaa

theorem getD_default_of {p : List Nd} {i : Nat} (h : p.length ≤ i) : p.getD i default = default := by simp [List.getD_eq_getElem?_getD, List.getElem?_eq_none h]
theorem frm_pos {p : List Nd} (hv : planOk p = true) {k : Nat} (hk : k < p.length) : ∀ f ∈ (p.getD k default).frm, 0 ≤ f ∧ f < (k : Int) := by
  rw [getD_of hk]; exact (PlanOk.node hv hk).frm
theorem usersTo_gt {p : List Nd} (hv : planOk p = true) {k i j : Nat} (hk : k ≤ p.length) (h : j ∈ usersTo p k i) : i < j := by
  obtain ⟨h1, h2⟩ := mem_usersTo.1 h
  have := (frm_pos hv (show j < p.length by omega) _ h2).2
  omega
/-- The last one, or another one if there is none. -/
def lastOr (l : List Nat) (d : Nat) : Nat := l.getLast?.getD d
theorem lastOr_snoc (l : List Nat) (a d : Nat) : lastOr (l ++ [a]) d = a := by simp [lastOr]
theorem lastOr_nil (d : Nat) : lastOr [] d = d := rfl
theorem lastOr_mem {l : List Nat} (d : Nat) (h : l ≠ []) : lastOr l d ∈ l := by
  unfold lastOr
  rw [List.getLast?_eq_some_getLast h]
  exact List.getLast_mem h
theorem usersTo_succ' (p : List Nd) (k i : Nat) : usersTo p (k + 1) i = usersTo p k i ++ (if (i : Int) ∈ (p.getD k default).frm then [k] else []) := by
  simp only [usersTo, List.range_succ, List.filter_append, List.filter_cons, List.filter_nil]
  by_cases (i : Int) ∈ (p.getD k default).frm <;> simp

theorem endsTo_get {p : List Nd} (hv : planOk p = true) : ∀ {k : Nat}, k ≤ p.length → ∀ {i : Nat}, i < k → (endsTo p k)[i]? = some ((lastOr (usersTo p k i) i : Nat) : Int)
  | k + 1, hk, i, hi => by
    have hf : ∀ f ∈ (p.getD k default).frm, 0 ≤ f := fun f h => (frm_pos hv (by omega) f h).1
    have hel := endsTo_len p k
    rw [endsTo, setAll_get _ _ _ _ hf, usersTo_succ']
    by_cases hm : (i : Int) ∈ (p.getD k default).frm
    · rw [if_pos ⟨hm, by simp [hel]; omega⟩, if_pos hm, lastOr_snoc]
    · rw [if_neg (fun h => hm h.1), if_neg hm, List.append_nil]
      rcases Nat.lt_or_ge i k with h1 | h1
      · rw [List.getElem?_append_left (by omega)]
        exact endsTo_get hv (by omega) h1
      · obtain rfl : i = k := by omega
        rw [List.getElem?_append_right (by omega), hel]
        have : usersTo p i i = [] := by
          apply List.eq_nil_iff_forall_not_mem.2
          intro j hj
          have h2 := usersTo_gt hv (by omega) hj
          have h3 := (mem_usersTo.1 hj).1
          omega
        rw [this, lastOr_nil]
        simp
theorem endsTo_getD {p : List Nd} (hv : planOk p = true) {k i : Nat} (hk : k ≤ p.length) (hi : i < k) : (endsTo p k).getD i 0 = ((lastOr (usersTo p k i) i : Nat) : Int) := by
  rw [List.getD_eq_getElem?_getD, endsTo_get hv hk hi]; rfl
theorem lastOr_rg {p : List Nd} (hv : planOk p = true) {k i : Nat} (hk : k ≤ p.length) (hi : i < k) : i ≤ lastOr (usersTo p k i) i ∧ lastOr (usersTo p k i) i < k ∧ (lastOr (usersTo p k i) i = i ↔ usersTo p k i = []) := by
  by_cases h0 : usersTo p k i = []
  · rw [h0, lastOr_nil]; exact ⟨by omega, hi, by simp⟩
  · have h1 := lastOr_mem i h0
    have h2 := usersTo_gt hv hk h1
    have h3 := (mem_usersTo.1 h1).1
    exact ⟨by omega, h3, ⟨fun h => by omega, fun h => absurd h h0⟩⟩
theorem endsTo_mono {p : List Nd} (hv : planOk p = true) {k i : Nat} (hk : k + 1 ≤ p.length) (hi : i < k) : (endsTo p k).getD i 0 ≤ (endsTo p (k + 1)).getD i 0 := by
  rw [endsTo_getD hv (by omega) hi, endsTo_getD hv hk (by omega), usersTo_succ']
  have := lastOr_rg hv (show k ≤ p.length by omega) hi
  split
  · rw [lastOr_snoc]; omega
  · rw [List.append_nil]; omega
theorem endsTo_mono' {p : List Nd} (hv : planOk p = true) {k i : Nat} (hi : i < k) : ∀ m, k + m ≤ p.length → (endsTo p k).getD i 0 ≤ (endsTo p (k + m)).getD i 0
  | 0, _ => by simp
  | m + 1, h => by
    have h1 := endsTo_mono' hv hi m (by omega)
    have h2 := endsTo_mono hv (k := k + m) (i := i) (by omega) (by omega)
    rw [show k + (m + 1) = k + m + 1 by omega]
    omega

/-! the first nodes -/
theorem getD_takeN {p : List Nd} {k i : Nat} (h : i < k) : (p.take k).getD i default = p.getD i default := by
  simp [List.getD_eq_getElem?_getD, h]
theorem endsTo_take (p : List Nd) (k : Nat) : ∀ j, j ≤ k → endsTo (p.take k) j = endsTo p j
  | 0, _ => rfl
  | j + 1, h => by rw [endsTo, endsTo, endsTo_take p k j (by omega), getD_takeN (by omega)]
theorem wideOf_take : ∀ (p : List Nd) (k : Nat) (x : Nd), x ∈ p.take k → x.kind = 0 → wideOf (p.take k) = wideOf p
  | [], k, x, h, _ => by simp at h
  | y :: p, 0, x, h, _ => by simp at h
  | y :: p, k + 1, x, h, h0 => by
    simp only [List.take_succ_cons, wideOf]
    by_cases hy : y.kind = 0
    · rw [if_pos hy, if_pos hy]
    · rw [if_neg hy, if_neg hy]
      rw [List.take_succ_cons] at h
      rcases List.mem_cons.1 h with rfl | h
      · exact absurd h0 hy
      · exact wideOf_take p k x h h0
theorem nodeOk_congr {x : Nd} {i a b : Nat} (h : x.kind = 0 → a = b) : nodeOk x i a = nodeOk x i b := by
  unfold nodeOk
  by_cases h0 : x.kind = 0
  · rw [h h0]
  · simp only [if_neg h0]
theorem planOk_take {p : List Nd} (hv : planOk p = true) (k : Nat) : planOk (p.take k) = true := by
  refine (planOk_iff _).2 ⟨by have := PlanOk.len hv; rw [List.length_take]; omega, fun i h => ?_⟩
  have h1 : i < p.length := by rw [List.length_take] at h; omega
  have := ((planOk_iff p).1 hv).2 i h1
  rw [List.getElem_take]
  rw [nodeOk_congr (b := wideOf p) (fun h0 => wideOf_take p k p[i] (by rw [← List.getElem_take (h := h)]; exact List.getElem_mem h) h0)]
  exact this
theorem live_mono {E E' : List Int} {i : Nat} : ∀ j : Nat, (∀ a, a < j → (i : Int) ≤ E.getD a 0 → (i : Int) ≤ E'.getD a 0) → live E i j ≤ live E' i j
  | 0, _ => by simp [live]
  | j + 1, h => by
    have h1 := live_mono j fun a ha => h a (by omega)
    have h2 := h j (by omega)
    simp only [live]
    by_cases h3 : (i : Int) ≤ E.getD j 0
    · rw [if_pos h3, if_pos (h2 h3)]; omega
    · rw [if_neg h3]; split <;> omega
theorem rowsTo_mono {E E' : List Int} : ∀ i : Nat, (∀ b, b < i → ∀ a, a < b → (b : Int) ≤ E.getD a 0 → (b : Int) ≤ E'.getD a 0) → rowsTo E i ≤ rowsTo E' i
  | 0, _ => by simp [rowsTo]
  | i + 1, h => by
    have h1 := rowsTo_mono i fun b hb => h b (by omega)
    have h2 := live_mono (E := E) (E' := E') (i := i) i (h i (by omega))
    simp only [rowsTo]
    omega
theorem rowsTo_le (E : List Int) (i : Nat) : ∀ m, rowsTo E i ≤ rowsTo E (i + m)
  | 0 => by simp
  | m + 1 => by
    have := rowsTo_le E i m
    rw [show i + (m + 1) = i + m + 1 by omega, rowsTo]
    omega
/-- The first nodes need no more places. -/
theorem rowsTo_take {p : List Nd} (hv : planOk p = true) {k : Nat} (hk : k ≤ p.length) : rowsTo (endsTo (p.take k) k) k ≤ rowsTo (endsTo p p.length) p.length := by
  rw [endsTo_take p k k (by omega)]
  have h1 := rowsTo_mono (E := endsTo p k) (E' := endsTo p p.length) k fun b hb a ha h => by
    have := endsTo_mono' hv (k := k) (i := a) (by omega) (p.length - k) (by omega)
    rw [show k + (p.length - k) = p.length by omega] at this
    omega
  have h2 := rowsTo_le (endsTo p p.length) k (p.length - k)
  rw [show k + (p.length - k) = p.length by omega] at h2
  omega
end Go.Proofs.Ytafljegjdanldaa

/- Plain laws: places: each node gets the least one that is not held. -/
namespace Go.Proofs.Ytafljegjdanldaa

/-- The least number that is not in a list. -/
def IsLeast (l : List Int) (n : Nat) : Prop := (n : Int) ∉ l ∧ ∀ m, m < n → (m : Int) ∈ l
theorem IsLeast.uniq {l : List Int} {n m : Nat} (hn : IsLeast l n) (hm : IsLeast l m) : n = m := by
  rcases Nat.lt_trichotomy n m with h | h | h
  · exact absurd (hm.2 n h) hn.1
  · exact h
  · exact absurd (hn.2 m h) hm.1
theorem leFree_len {l : List Int} {n : Nat} (h : ∀ m, m < n → (m : Int) ∈ l) : n ≤ l.length := by
  have h1 : ((List.range n).map fun (m : Nat) => (m : Int)).Nodup := by
    rw [List.nodup_iff_pairwise_ne, List.pairwise_map]
    exact (List.nodup_iff_pairwise_ne.1 List.nodup_range).imp fun h he => h (by omega)
  have h2 := h1.length_le_of_subset (l₂ := l) fun a ha => by
    obtain ⟨m, hm, rfl⟩ := List.mem_map.1 ha
    exact h m (List.mem_range.1 hm)
  simpa using h2
/-- It is reckoned by going up. -/
def leastFree (l : List Int) : Nat := ((List.range (l.length + 1)).find? fun (n : Nat) => decide ((n : Int) ∉ l)).getD 0
theorem leastFree_spec (l : List Int) : IsLeast l (leastFree l) := by
  unfold leastFree
  cases h : (List.range (l.length + 1)).find? fun (n : Nat) => decide ((n : Int) ∉ l) with
  | none =>
    have := List.find?_eq_none.1 h
    have h2 := leFree_len (l := l) (n := l.length + 1) fun m hm => by simpa using this m (List.mem_range.2 hm)
    omega
  | some n =>
    rw [List.find?_range_eq_some] at h
    obtain ⟨h1, h2, h3⟩ := h
    refine ⟨by simpa using h1, fun m hm => by simpa using h3 m hm⟩
theorem leastFree_le (l : List Int) : leastFree l ≤ l.length := leFree_len (leastFree_spec l).2

/-- The places held at a node by the first nodes. -/
def takenTo (E out : List Int) (i : Nat) : Nat → List Int
  | 0 => []
  | j + 1 => takenTo E out i j ++ (if (i : Int) ≤ E.getD j 0 then [out.getD j 0] else [])
theorem mem_takenTo {E out : List Int} {i : Nat} {a : Int} : ∀ {j : Nat}, a ∈ takenTo E out i j ↔ ∃ k, k < j ∧ (i : Int) ≤ E.getD k 0 ∧ out.getD k 0 = a
  | 0 => by simp [takenTo]
  | j + 1 => by
    rw [takenTo, List.mem_append, mem_takenTo]
    constructor
    · rintro (⟨k, h1, h2, h3⟩ | h)
      · exact ⟨k, by omega, h2, h3⟩
      · split at h
        · rename_i h2
          exact ⟨j, by omega, h2, (List.mem_singleton.1 h).symm⟩
        · simp at h
    · rintro ⟨k, h1, h2, h3⟩
      rcases Nat.lt_or_ge k j with h4 | h4
      · exact .inl ⟨k, h4, h2, h3⟩
      · obtain rfl : k = j := by omega
        rw [if_pos h2, h3]
        exact .inr (List.mem_singleton.2 rfl)
theorem takenTo_len (E out : List Int) (i : Nat) : ∀ j, ((takenTo E out i j).length : Int) = live E i j
  | 0 => by simp [takenTo, live]
  | j + 1 => by
    rw [takenTo, List.length_append, live, ← takenTo_len E out i j]
    split <;> simp
/-- The places of the first nodes. -/
def giveTo (E : List Int) : Nat → List Int
  | 0 => []
  | k + 1 => giveTo E k ++ [((leastFree (takenTo E (giveTo E k) k k) : Nat) : Int)]
theorem giveTo_len (E : List Int) : ∀ k, (giveTo E k).length = k
  | 0 => rfl
  | k + 1 => by simp [giveTo, giveTo_len E k]
theorem giveTo_get {E : List Int} {i : Nat} : ∀ {k : Nat}, i < k → (giveTo E k).getD i 0 = ((leastFree (takenTo E (giveTo E i) i i) : Nat) : Int)
  | k + 1, h => by
    rw [giveTo, List.getD_eq_getElem?_getD]
    rcases Nat.lt_or_ge i k with h1 | h1
    · rw [List.getElem?_append_left (by rw [giveTo_len]; exact h1), ← List.getD_eq_getElem?_getD]
      exact giveTo_get h1
    · obtain rfl : i = k := by omega
      rw [List.getElem?_append_right (by rw [giveTo_len]; omega), giveTo_len]
      simp
theorem giveTo_same {E : List Int} {i k j : Nat} (h : i < k) (h2 : i < j) : (giveTo E k).getD i 0 = (giveTo E j).getD i 0 := by rw [giveTo_get h, giveTo_get h2]
/-- Whose row is still needed has another place. -/
theorem giveTo_apart {E : List Int} {j i k : Nat} (hji : j < i) (hik : i < k) (hE : (i : Int) ≤ E.getD j 0) : (giveTo E k).getD j 0 ≠ (giveTo E k).getD i 0 := by
  intro he
  have h1 := (leastFree_spec (takenTo E (giveTo E i) i i)).1
  rw [← giveTo_get hik] at h1
  exact h1 (mem_takenTo.2 ⟨j, hji, hE, by rw [giveTo_same hji (show j < k by omega)]; exact he⟩)
theorem giveTo_nonneg {E : List Int} {i k : Nat} (h : i < k) : 0 ≤ (giveTo E k).getD i 0 := by rw [giveTo_get h]; omega
theorem giveTo_le {E : List Int} {i k : Nat} (h : i < k) : (giveTo E k).getD i 0 ≤ live E i i := by
  rw [giveTo_get h, ← takenTo_len E (giveTo E i) i i]
  have := leastFree_le (takenTo E (giveTo E i) i i)
  omega
theorem takenTo_nodup {E : List Int} {i : Nat} : ∀ j, j ≤ i → (takenTo E (giveTo E i) i j).Nodup
  | 0, _ => by simp [takenTo]
  | j + 1, h => by
    rw [takenTo]
    split
    · rename_i hE
      rw [List.nodup_append]
      refine ⟨takenTo_nodup j (by omega), by simp, fun a ha b hb => ?_⟩
      rw [List.mem_singleton] at hb
      subst hb
      obtain ⟨k, h1, h2, rfl⟩ := mem_takenTo.1 ha
      exact giveTo_apart h1 (by omega) (by omega)
    · simpa using takenTo_nodup j (by omega)

theorem rowsTo_arg (E : List Int) : ∀ n : Nat, rowsTo E n = 0 ∨ ∃ i, i < n ∧ rowsTo E n = 1 + live E i i
  | 0 => .inl rfl
  | n + 1 => by
    rw [rowsTo]
    rcases Int.le_total (rowsTo E n) (1 + live E n n) with h | h
    · exact .inr ⟨n, by omega, by omega⟩
    · rcases rowsTo_arg E n with h1 | ⟨i, h1, h2⟩
      · have := live_rg E n n; omega
      · exact .inr ⟨i, by omega, by omega⟩
theorem le_rowsTo {E : List Int} {i : Nat} : ∀ {n : Nat}, i < n → 1 + live E i i ≤ rowsTo E n
  | n + 1, h => by
    rw [rowsTo]
    rcases Nat.lt_or_ge i n with h1 | h1
    · have := le_rowsTo (E := E) h1; omega
    · obtain rfl : i = n := by omega
      omega
/-- As many places are used as must be. -/
theorem give_most (E : List Int) {n : Nat} (hn : 0 < n) (m : Int) (hm : m = 0 ∨ m ∈ giveTo E n) (hle : ∀ a ∈ giveTo E n, a ≤ m) : m + 1 = rowsTo E n := by
  have hup : m + 1 ≤ rowsTo E n := by
    rcases hm with rfl | hm
    · have := le_rowsTo (E := E) hn; have := live_rg E 0 0; omega
    · obtain ⟨i, hi, rfl⟩ := List.mem_iff_getElem.1 hm
      rw [giveTo_len] at hi
      have h1 := giveTo_le (E := E) hi
      rw [List.getD_eq_getElem?_getD, List.getElem?_eq_getElem (by rw [giveTo_len]; exact hi)] at h1
      have h2 := le_rowsTo (E := E) hi
      simp only [Option.getD_some] at h1
      omega
  rcases rowsTo_arg E n with h0 | ⟨i, hi, hr⟩
  · have h1 := le_rowsTo (E := E) hn; have := live_rg E 0 0; omega
  · have hnd := takenTo_nodup (E := E) (i := i) i (Nat.le_refl _)
    have hl := takenTo_len E (giveTo E i) i i
    have h0 := (leastFree_spec (takenTo E (giveTo E i) i i)).1
    have hmem : ∀ k, k < n → (giveTo E n).getD k 0 ∈ giveTo E n := fun k hk => by
      rw [List.getD_eq_getElem?_getD, List.getElem?_eq_getElem (by rw [giveTo_len]; exact hk)]
      exact List.getElem_mem _
    have hall : ∀ a ∈ ((leastFree (takenTo E (giveTo E i) i i) : Nat) : Int) :: takenTo E (giveTo E i) i i, 0 ≤ a ∧ a ≤ m := by
      intro a ha
      rcases List.mem_cons.1 ha with rfl | ha
      · rw [← giveTo_get hi]
        exact ⟨giveTo_nonneg hi, hle _ (hmem i hi)⟩
      · obtain ⟨k, h1, h2, rfl⟩ := mem_takenTo.1 ha
        rw [giveTo_same h1 (show k < n by omega)]
        exact ⟨giveTo_nonneg (by omega), hle _ (hmem k (by omega))⟩
    have hnd2 : (((leastFree (takenTo E (giveTo E i) i i) : Nat) : Int) :: takenTo E (giveTo E i) i i).Nodup := List.nodup_cons.2 ⟨h0, hnd⟩
    have hm0 : 0 ≤ m := by have := hall _ (List.mem_cons_self ..); omega
    have := hnd2.length_le_of_subset (l₂ := (List.range (m.toNat + 1)).map fun (m : Nat) => (m : Int)) fun a ha => by
      have := hall a ha
      exact List.mem_map.2 ⟨a.toNat, List.mem_range.2 (by omega), by omega⟩
    simp at this
    omega

/-- Places of a plan. -/
def giveOf (p : List Nd) : List Int := if planOk p = true then giveTo (endsTo p p.length) p.length else []
theorem give_fits {p : List Nd} (hv : planOk p = true) : fitsPl p (giveOf p) = true := by
  unfold fitsPl giveOf
  rw [hv, if_pos rfl, Bool.true_and, decide_eq_true_eq]
  refine ⟨giveTo_len _ _, fun i hi => ⟨giveTo_nonneg hi, fun k hk hc => ?_⟩⟩
  exact giveTo_apart hk hi hc.1 hc.2
theorem all_fits {p : List Nd} (hv : planOk p = true) : fitsPl p ((List.range p.length).map fun (i : Nat) => (i : Int)) = true := by
  have hg : ∀ i, i < p.length → (((List.range p.length).map fun (i : Nat) => (i : Int))).getD i 0 = (i : Int) := fun i hi => by
    rw [List.getD_eq_getElem?_getD, List.getElem?_map, List.getElem?_range hi]; rfl
  unfold fitsPl
  rw [hv, Bool.true_and, decide_eq_true_eq]
  refine ⟨by simp, fun i hi => ⟨by rw [hg i hi]; omega, fun k hk hc => ?_⟩⟩
  have := hc.2
  rw [hg i hi, hg k (by omega)] at this
  omega

/-! a list of free places, and how many there are -/

/-- What is free: those made that are not held (at a later time than the bound says). -/
def Held (E out : List Int) (i : Nat) (b : Int) (j : Nat) (n : Nat) : Prop := ∃ k, k < i ∧ out.getD k 0 = (n : Int) ∧ (b + 1 ≤ E.getD k 0 ∨ (E.getD k 0 = b ∧ j ≤ k))
structure FreeAt (E out : List Int) (i : Nat) (b : Int) (j : Nat) (m : Nat) (ps : List Nat) : Prop where
  mem : ∀ n, n ∈ ps ↔ n < m ∧ ¬ Held E out i b j n
  asc : ps.Pairwise (· < ·)
  lt : ∀ k, k < i → out.getD k 0 < (m : Int)
theorem FreeAt.zero (E : List Int) : FreeAt E [] 0 (-1) 0 0 [] := ⟨fun n => by simp, by simp, by simp⟩
/-- A place that nobody holds any more is put in order. -/
def insAsc (a : Nat) (ps : List Nat) : List Nat := ps.takeWhile (fun x => decide (x < a)) ++ a :: ps.dropWhile (fun x => decide (x < a))
theorem mem_insAsc {a b : Nat} {ps : List Nat} : b ∈ insAsc a ps ↔ b = a ∨ b ∈ ps := by
  unfold insAsc
  have h : ps.takeWhile (fun x => decide (x < a)) ++ ps.dropWhile (fun x => decide (x < a)) = ps := List.takeWhile_append_dropWhile
  constructor
  · intro hb
    rcases List.mem_append.1 hb with hb | hb
    · exact .inr (by rw [← h]; exact List.mem_append_left _ hb)
    · rcases List.mem_cons.1 hb with rfl | hb
      · exact .inl rfl
      · exact .inr (by rw [← h]; exact List.mem_append_right _ hb)
  · rintro (rfl | hb)
    · simp
    · rw [← h] at hb
      rcases List.mem_append.1 hb with hb | hb
      · exact List.mem_append_left _ hb
      · exact List.mem_append_right _ (List.mem_cons_of_mem _ hb)
theorem insAsc_asc {a : Nat} : ∀ {ps : List Nat}, ps.Pairwise (· < ·) → a ∉ ps → (insAsc a ps).Pairwise (· < ·)
  | [], _, _ => by simp [insAsc]
  | x :: ps, h, ha => by
    simp only [List.mem_cons, not_or] at ha
    rw [List.pairwise_cons] at h
    by_cases hx : x < a
    · have : insAsc a (x :: ps) = x :: insAsc a ps := by simp [insAsc, hx]
      rw [this, List.pairwise_cons]
      refine ⟨fun b hb => ?_, insAsc_asc h.2 ha.2⟩
      rcases mem_insAsc.1 hb with rfl | hb
      · exact hx
      · exact h.1 b hb
    · have : insAsc a (x :: ps) = a :: x :: ps := by simp [insAsc, hx]
      rw [this, List.pairwise_cons]
      refine ⟨fun b hb => ?_, List.pairwise_cons.2 h⟩
      rcases List.mem_cons.1 hb with rfl | hb
      · omega
      · have := h.1 b hb; omega
theorem insAsc_len (a : Nat) (ps : List Nat) : (insAsc a ps).length = ps.length + 1 := by
  unfold insAsc
  have h : (ps.takeWhile (fun x => decide (x < a)) ++ ps.dropWhile (fun x => decide (x < a))).length = ps.length := by rw [List.takeWhile_append_dropWhile]
  simp only [List.length_append, List.length_cons] at h ⊢
  omega

/-- Places held by two are the same one's. -/
theorem held_inj {E : List Int} {i : Nat} {b : Int} (hb : (i : Int) ≤ b + 1) {k l : Nat} (hk : k < i) (hl : l < i) (h1 : b ≤ E.getD k 0) (h2 : b ≤ E.getD l 0) (he : (giveTo E i).getD k 0 = (giveTo E i).getD l 0) : k = l := by
  rcases Nat.lt_trichotomy k l with h | h | h
  · exact absurd he (giveTo_apart h hl (by omega))
  · exact h
  · exact absurd he.symm (giveTo_apart h hk (by omega))
/-- One step of giving back. -/
theorem FreeAt.give {E : List Int} {i : Nat} {b : Int} {j m : Nat} {ps : List Nat} {n : Nat} (hF : FreeAt E (giveTo E i) i b j m ps) (hb : (i : Int) ≤ b + 1) (hj : j < i) (hE : E.getD j 0 = b) (hn : (giveTo E i).getD j 0 = (n : Int)) :
    FreeAt E (giveTo E i) i b (j + 1) m (insAsc n ps) := by
  have hnh : Held E (giveTo E i) i b j n := ⟨j, hj, hn, .inr ⟨hE, Nat.le_refl _⟩⟩
  have hnot : n ∉ ps := fun h => ((hF.mem n).1 h).2 hnh
  have hnm : n < m := by have := hF.lt j hj; omega
  refine ⟨fun a => ?_, insAsc_asc hF.asc hnot, hF.lt⟩
  rw [mem_insAsc, hF.mem]
  constructor
  · rintro (rfl | ⟨h1, h2⟩)
    · refine ⟨hnm, fun ⟨k, h1, h2, h3⟩ => ?_⟩
      have hkj := held_inj hb h1 hj (by omega) (by omega) (h2.trans hn.symm)
      subst hkj
      omega
    · refine ⟨h1, fun ⟨k, g1, g2, g3⟩ => h2 ⟨k, g1, g2, by omega⟩⟩
  · rintro ⟨h1, h2⟩
    by_cases han : a = n
    · exact .inl han
    · refine .inr ⟨h1, fun ⟨k, g1, g2, g3⟩ => h2 ⟨k, g1, g2, ?_⟩⟩
      rcases g3 with g3 | ⟨g3, g4⟩
      · exact .inl g3
      · refine .inr ⟨g3, ?_⟩
        rcases Nat.lt_or_ge j k with h5 | h5
        · exact h5
        · obtain rfl : k = j := by omega
          omega
theorem FreeAt.skip {E out : List Int} {i : Nat} {b : Int} {j m : Nat} {ps : List Nat} (hF : FreeAt E out i b j m ps) (hE : E.getD j 0 ≠ b) : FreeAt E out i b (j + 1) m ps := by
  refine ⟨fun n => ?_, hF.asc, hF.lt⟩
  rw [hF.mem]
  refine and_congr_right fun _ => not_congr ?_
  constructor
  · rintro ⟨k, g1, g2, g3⟩
    refine ⟨k, g1, g2, g3.imp id fun ⟨g4, g5⟩ => ⟨g4, ?_⟩⟩
    rcases Nat.lt_or_ge j k with h5 | h5
    · exact h5
    · obtain rfl : k = j := by omega
      exact absurd g4 hE
  · rintro ⟨k, g1, g2, g3⟩
    exact ⟨k, g1, g2, by omega⟩
theorem FreeAt.held {E : List Int} {i m : Nat} {ps : List Nat} (hF : FreeAt E (giveTo E i) i ((i : Int) - 1) i m ps) (n : Nat) : n ∈ ps ↔ n < m ∧ (n : Int) ∉ takenTo E (giveTo E i) i i := by
  rw [hF.mem, mem_takenTo]
  refine and_congr_right fun _ => not_congr ?_
  constructor
  · rintro ⟨k, g1, g2, g3⟩
    exact ⟨k, g1, by omega, g2⟩
  · rintro ⟨k, g1, g2, g3⟩
    exact ⟨k, g1, g3, .inl (by omega)⟩
theorem taken_lt {E out : List Int} {i : Nat} {b : Int} {j m : Nat} {ps : List Nat} (hF : FreeAt E out i b j m ps) {a : Int} (h : a ∈ takenTo E out i i) : a < (m : Int) := by
  obtain ⟨k, g1, g2, rfl⟩ := mem_takenTo.1 h
  exact hF.lt k g1
/-- No place is free: a new one. -/
theorem FreeAt.makes {E : List Int} {i m : Nat} (hF : FreeAt E (giveTo E i) i ((i : Int) - 1) i m []) (hE : (i : Int) ≤ E.getD i 0) :
    m = leastFree (takenTo E (giveTo E i) i i) ∧ FreeAt E (giveTo E (i + 1)) (i + 1) (i : Int) 0 (m + 1) [] := by
  have h1 : IsLeast (takenTo E (giveTo E i) i i) m := ⟨fun h => by have := taken_lt hF h; omega, fun n hn => by
    have h2 := hF.held n
    by_cases h3 : (n : Int) ∈ takenTo E (giveTo E i) i i
    · exact h3
    · exact absurd (h2.2 ⟨hn, h3⟩) (by simp)⟩
  have he := h1.uniq (leastFree_spec _)
  have hgi : (giveTo E (i + 1)).getD i 0 = (m : Int) := by rw [giveTo_get (by omega), ← he]
  refine ⟨he, fun n => ?_, by simp, fun k hk => ?_⟩
  · simp only [List.not_mem_nil, false_iff, not_and, Classical.not_not]
    intro hn
    rcases Nat.lt_or_ge n m with h3 | h3
    · obtain ⟨k, g1, g2, g3⟩ := mem_takenTo.1 (h1.2 n h3)
      exact ⟨k, by omega, by rw [giveTo_same (show k < i + 1 by omega) g1]; exact g3, by omega⟩
    · obtain rfl : n = m := by omega
      exact ⟨i, by omega, hgi, by omega⟩
  · rcases Nat.lt_or_ge k i with h3 | h3
    · rw [giveTo_same hk h3]; have := hF.lt k h3; omega
    · obtain rfl : k = i := by omega
      rw [hgi]; omega
/-- The first free place is taken. -/
theorem FreeAt.takes {E : List Int} {i m a : Nat} {ps : List Nat} (hF : FreeAt E (giveTo E i) i ((i : Int) - 1) i m (a :: ps)) (hE : (i : Int) ≤ E.getD i 0) :
    a = leastFree (takenTo E (giveTo E i) i i) ∧ FreeAt E (giveTo E (i + 1)) (i + 1) (i : Int) 0 m ps := by
  have hasc := List.pairwise_cons.1 hF.asc
  have ha := (hF.held a).1 (List.mem_cons_self ..)
  have h1 : IsLeast (takenTo E (giveTo E i) i i) a := ⟨ha.2, fun n hn => by
    have h2 := hF.held n
    by_cases h3 : (n : Int) ∈ takenTo E (giveTo E i) i i
    · exact h3
    · have := h2.2 ⟨by omega, h3⟩
      rcases List.mem_cons.1 this with h4 | h4
      · omega
      · have := hasc.1 n h4; omega⟩
  have he := h1.uniq (leastFree_spec _)
  have hgi : (giveTo E (i + 1)).getD i 0 = (a : Int) := by rw [giveTo_get (by omega), ← he]
  refine ⟨he, fun n => ?_, hasc.2, fun k hk => ?_⟩
  · have h2 := hF.held n
    constructor
    · intro hn
      have h3 := h2.1 (List.mem_cons_of_mem _ hn)
      have h4 := hasc.1 n hn
      refine ⟨h3.1, fun ⟨k, g1, g2, g3⟩ => ?_⟩
      rcases Nat.lt_or_ge k i with h5 | h5
      · exact h3.2 (mem_takenTo.2 ⟨k, h5, by omega, by rw [giveTo_same h5 (show k < i + 1 by omega)]; exact g2⟩)
      · obtain rfl : k = i := by omega
        rw [hgi] at g2; omega
    · rintro ⟨h3, h4⟩
      have h5 : (n : Int) ∉ takenTo E (giveTo E i) i i := fun h => by
        obtain ⟨k, g1, g2, g3⟩ := mem_takenTo.1 h
        exact h4 ⟨k, by omega, by rw [giveTo_same (show k < i + 1 by omega) g1]; exact g3, by omega⟩
      rcases List.mem_cons.1 (h2.2 ⟨h3, h5⟩) with h6 | h6
      · exact absurd ⟨i, by omega, by rw [hgi, h6], by omega⟩ h4
      · exact h6
  · rcases Nat.lt_or_ge k i with h3 | h3
    · rw [giveTo_same hk h3]; exact hF.lt k h3
    · obtain rfl : k = i := by omega
      rw [hgi]; omega
end Go.Proofs.Ytafljegjdanldaa

/- Walks: the draws' reader. -/
namespace Go.Proofs.Ytafljegjdanldaa
open Go.RowKit

/-- The reader of a code: its bytes and how far it is. -/
def rdr (g : Nat) (bv : Value) (p : Nat) : Heaplet := [(g, .cells #[bv, .int .i64 (p : Int)] 94 (0, 0))]

section
variable {h : GH} {Ls : List Heaplet} {w : World}

theorem run_build_rd (a : Option Addr) (n c : Nat) (W : World) : (Instr.build 94 #[(0, .slice a n c)]).run Try.prog W = .ok (.agg #[.slice a n c, .int .i64 0]) W := by kernel_rfl
theorem run_build_rd' {v : Value} {n : Nat} (hv : Sl v n) (W : World) : (Instr.build 94 #[(0, v)]).run Try.prog W = .ok (.agg #[v, .int .i64 0]) W := by
  obtain ⟨A, c, rfl, _⟩ := hv.form
  exact run_build_rd A n c W

theorem l6Open_ok (hH : H w h Ls) {cv : Value} {bs : List Int} (hB : Bytes h cv bs) : Rets Try.prog 35 #[cv] w fun v w' => ∃ g bv bs', v = .pointer (some ⟨g, 0, none⟩) ∧ Bytes h bv bs' ∧ H w' h (rdr g bv 0 :: Ls) := by
  refine rets_enter Try.func35 rfl Try.ntmps35 (by simp) ?_
  refine WT_seq ?_
  refine WT_region ?_
  refine WL_v rfl (ov_assign rfl) ?_
  refine WL_nil ?_
  refine WT_seq ?_
  refine WT_seq ?_
  refine WT_region ?_
  refine WL_v rfl (ov_move rfl) ?_
  refine WL_v rfl (ov_len rfl hB.sl st_sl_uint8) ?_
  refine WL_v rfl (ov_gtr rfl rfl) ?_
  refine WL_nil ?_
  refine WT_join (ι := Value × List Int) (fun s => [(0, s.1)]) (fun s w => Bytes h s.1 s.2 ∧ H w h Ls) (fun joined => ?_) ?_
  · skip
    refine WT_cond rfl (fun hc => ?_) (fun hc => ?_)
    · skip
      first | with_reducible replace hc := of_decide_eq_true hc | with_reducible replace hc := bn_T hc | with_reducible replace hc := bb_T hc | skip
      refine WT_region ?_
      refine WL_v rfl (ov_move rfl) ?_
      refine WL_v rfl (ov_sliceHi rfl rfl st_sl_uint8 (hi := 2000) hB.sl (by omega)) ?_
      refine WL_v rfl (ov_assign rfl) ?_
      refine WL_nil ?_
      exact joined (_, _) _ _ (by repeat (first | exact trivial | refine ⟨rfl, ?_⟩)) ⟨hB.reslice (Nat.zero_le 2000) (by omega), hH⟩
    first | with_reducible replace hc := of_decide_eq_false hc | with_reducible replace hc := bn_F hc | with_reducible replace hc := bb_F hc | skip
    refine WT_skip ?_
    exact joined (cv, bs) _ _ (by repeat (first | exact trivial | refine ⟨rfl, ?_⟩)) ⟨hB, hH⟩
  rintro ⟨bv, bs'⟩ w1 ⟨hB', hH1⟩
  refine WT_seq ?_
  refine WT_region ?_
  refine WL_v rfl (ov_move rfl) ?_
  refine WL_v rfl (ov_build rfl (run_build_rd' hB'.sl)) ?_
  refine WL_box _ rfl hH1 rfl rfl ?_; rintro g w2 hH2
  refine WL_v rfl (ov_assign rfl) ?_
  refine WL_nil ?_
  exact WT_ret1 Try.func35 Try.results35 rfl ⟨g, bv, bs', rfl, hB', hH2⟩

/-- A number that the reader gives. -/
def Picked (n : Int) (r : Nat) : Prop := (1 ≤ n → (r : Int) < n) ∧ (n < 1 → r = 0)
theorem u8wrap {x : Int} (h : 0 ≤ x ∧ x < 256) : IntKind.i64.wrap x = x := wrap_in ⟨by omega, by omega⟩

set_option maxHeartbeats 1000000 in
theorem pick_ok {g : Nat} {bv : Value} {p : Nat} {bs : List Int} (hH : H w h (rdr g bv p :: Ls)) (hB : Bytes h bv bs) (hp : p ≤ 1000000000) (n : Int) :
    Rets Try.prog 38 #[.pointer (some ⟨g, 0, none⟩), .int .i64 n] w fun v w' => ∃ r : Nat, v = .int .i64 (r : Int) ∧ Picked n r ∧ H w' h (rdr g bv (p + 1) :: Ls) := by
  refine rets_enter Try.func38 rfl Try.ntmps38 (by simp) ?_
  by_cases hn : n < 1
  · skip
    refine WT_seq ?_
    refine WT_region ?_
    refine WL_v rfl (ov_assign rfl) ?_
    refine WL_nil ?_
    refine WT_seq ?_
    refine WT_region ?_
    refine WL_v rfl (ov_move rfl) ?_
    refine WL_v rfl (ov_move rfl) ?_
    refine WL_v rfl (ov_nilCheck rfl) ?_
    refine WL_v rfl (ov_field rfl fo_spec_l6Rd_1) ?_
    refine WL_v rfl (ov_load rfl one_int (hH.cb 0 rfl 1)) ?_
    refine WL_v rfl (ov_add rfl rfl (by omega)) ?_
    refine WL_v rfl (ov_nilCheck rfl) ?_
    refine WL_v rfl (ov_field rfl fo_spec_l6Rd_1) ?_
    refine WL_store hH rfl rfl (i := 0) (off := 1) rfl rfl (by simp) rfl sz_int ?_; rintro w1 hH1
    refine WL_nil ?_
    refine WT_seq ?_
    refine WT_seq ?_
    refine WT_region ?_
    refine WL_v rfl (ov_move rfl) ?_
    refine WL_v rfl (ov_T (ov_lss rfl rfl) (by first | exact decide_eq_true hn | exact nb_T hn | exact mb_T hn | exact hn | (simp only [decide_eq_true_eq]; omega) | simpa using hn)) ?_
    refine WL_v rfl (ov_move rfl) ?_
    refine WL_guardOff rfl rfl rfl rfl ?_
    refine WL_guardOff rfl rfl rfl rfl ?_
    refine WL_guardOff rfl rfl rfl rfl ?_
    refine WL_guardOff rfl rfl rfl rfl ?_
    refine WL_guardOff rfl rfl rfl rfl ?_
    refine WL_guardOff rfl rfl rfl rfl ?_
    refine WL_v rfl (ov_pickT rfl rfl) ?_
    refine WL_nil ?_
    refine WT_condT rfl ?_
    refine WT_seq ?_
    refine WT_region ?_
    refine WL_v rfl (ov_assign rfl) ?_
    refine WL_nil ?_
    exact WT_ret1 Try.func38 Try.results38 rfl ⟨0, rfl, ⟨by omega, fun _ => rfl⟩, hH1⟩
  refine WT_seq ?_
  refine WT_region ?_
  refine WL_v rfl (ov_assign rfl) ?_
  refine WL_nil ?_
  refine WT_seq ?_
  refine WT_region ?_
  refine WL_v rfl (ov_move rfl) ?_
  refine WL_v rfl (ov_move rfl) ?_
  refine WL_v rfl (ov_nilCheck rfl) ?_
  refine WL_v rfl (ov_field rfl fo_spec_l6Rd_1) ?_
  refine WL_v rfl (ov_load rfl one_int (hH.cb 0 rfl 1)) ?_
  refine WL_v rfl (ov_add rfl rfl (by omega)) ?_
  refine WL_v rfl (ov_nilCheck rfl) ?_
  refine WL_v rfl (ov_field rfl fo_spec_l6Rd_1) ?_
  refine WL_store hH rfl rfl (i := 0) (off := 1) rfl rfl (by simp) rfl sz_int ?_; rintro w1 hH1
  refine WL_nil ?_
  refine WT_seq ?_
  refine WT_seq ?_
  refine WT_region ?_
  refine WL_v rfl (ov_move rfl) ?_
  refine WL_v rfl (ov_F (ov_lss rfl rfl) (by first | exact decide_eq_false hn | exact nb_F hn | exact mb_F hn | exact hn | (simp only [decide_eq_false_iff_not]; omega) | simpa using hn)) ?_
  refine WL_v rfl (ov_move rfl) ?_
  refine WL_guardOn rfl rfl ?_
  refine WL_v rfl (ov_move rfl) ?_
  refine WL_guardOn rfl rfl ?_
  refine WL_v rfl (ov_nilCheck rfl) ?_
  refine WL_guardOn rfl rfl ?_
  refine WL_v rfl (ov_field rfl fo_spec_l6Rd_0) ?_
  refine WL_guardOn rfl rfl ?_
  refine WL_v rfl (ov_load rfl one_sl_uint8 (hH1.cb 0 rfl 0)) ?_
  refine WL_guardOn rfl rfl ?_
  refine WL_v rfl (ov_len rfl hB.sl st_sl_uint8) ?_
  refine WL_guardOn rfl rfl ?_
  refine WL_v rfl (ov_eql rfl rfl) ?_
  refine WL_v rfl (ov_pickF rfl rfl) ?_
  refine WL_nil ?_
  clear hH
  refine WT_cond rfl (fun hl => ?_) (fun hl => ?_)
  · skip
    first | with_reducible replace hl := of_decide_eq_true hl | with_reducible replace hl := bn_T hl | with_reducible replace hl := bb_T hl | skip
    refine WT_seq ?_
    refine WT_region ?_
    refine WL_v rfl (ov_assign rfl) ?_
    refine WL_nil ?_
    exact WT_ret1 Try.func38 Try.results38 rfl ⟨0, rfl, ⟨by omega, fun _ => rfl⟩, hH1⟩
  first | with_reducible replace hl := of_decide_eq_false hl | with_reducible replace hl := bn_F hl | with_reducible replace hl := bb_F hl | skip
  have hbl := hB.sl.lim
  have hb0 : 0 < bs.length := by omega
  refine WT_skip ?_
  refine WT_seq ?_
  refine WT_region ?_
  refine WL_v rfl (ov_move rfl) ?_
  refine WL_v rfl (ov_nilCheck rfl) ?_
  refine WL_v rfl (ov_field rfl fo_spec_l6Rd_1) ?_
  refine WL_v rfl (ov_load rfl one_int (hH1.cb 0 rfl 1)) ?_
  refine WL_v rfl (ov_as (ov_sub rfl rfl (by omega)) (congrArg (Value.int .i64) (show (p : Int) + 1 - 1 = (p : Int) by omega))) ?_
  refine WL_v rfl (ov_assign rfl) ?_
  refine WL_nil ?_
  refine WT_seq ?_
  refine WT_seq ?_
  refine WT_region ?_
  refine WL_v rfl (ov_move rfl) ?_
  refine WL_v rfl (ov_move rfl) ?_
  refine WL_v rfl (ov_nilCheck rfl) ?_
  refine WL_v rfl (ov_field rfl fo_spec_l6Rd_0) ?_
  refine WL_v rfl (ov_load rfl one_sl_uint8 (hH1.cb 0 rfl 0)) ?_
  refine WL_v rfl (ov_len rfl hB.sl st_sl_uint8) ?_
  refine WL_v rfl (ov_lss rfl rfl) ?_
  refine WL_nil ?_
  refine WT_cond rfl (fun hk => ?_) (fun hk => ?_)
  · skip
    first | with_reducible replace hk := of_decide_eq_true hk | with_reducible replace hk := bn_T hk | with_reducible replace hk := bb_T hk | skip
    have hkl : p < bs.length := by omega
    have hb := hB.rg bs[p] (List.getElem_mem hkl)
    refine WT_seq ?_
    refine WT_region ?_
    refine WL_v rfl (ov_move rfl) ?_
    refine WL_v rfl (ov_nilCheck rfl) ?_
    refine WL_v rfl (ov_field rfl fo_spec_l6Rd_0) ?_
    refine WL_v rfl (ov_load rfl one_sl_uint8 (hH1.cb 0 rfl 0)) ?_
    refine WL_v rfl (ov_move rfl) ?_
    refine WL_v rfl (ov_index rfl rfl st_sl_uint8 hB.sl hkl) ?_
    refine WL_v rfl (ov_load rfl one_uint8 (hB.cell hH1 hkl)) ?_
    refine WL_v rfl (ov_as (ov_convert rfl (by kernel_rfl) Try.underlying3) (congrArg (Value.int .i64) (u8wrap hb))) ?_
    refine WL_v rfl (ov_move rfl) ?_
    refine WL_v rfl (ov_rem rfl rfl (by omega) (by omega)) ?_
    refine WL_v rfl (ov_assign rfl) ?_
    refine WL_nil ?_
    exact WT_ret1 Try.func38 Try.results38 rfl ⟨(bs[p] % n).toNat, by rw [Int.toNat_of_nonneg (Int.emod_nonneg _ (by omega))], ⟨fun _ => by rw [Int.toNat_of_nonneg (Int.emod_nonneg _ (by omega))]; exact Int.emod_lt_of_pos _ (by omega), by omega⟩, hH1⟩
  first | with_reducible replace hk := of_decide_eq_false hk | with_reducible replace hk := bn_F hk | with_reducible replace hk := bb_F hk | skip
  have hi1 : p % bs.length < bs.length := Nat.mod_lt _ hb0
  have hi2 : (p * 7 + 3) % bs.length < bs.length := Nat.mod_lt _ hb0
  have hb1 := hB.rg bs[p % bs.length] (List.getElem_mem hi1)
  have hb2 := hB.rg bs[(p * 7 + 3) % bs.length] (List.getElem_mem hi2)
  obtain ⟨q, hq, hqp⟩ : ∃ q, p / bs.length = q ∧ q ≤ p := ⟨_, rfl, Nat.div_le_self _ _⟩
  obtain ⟨x1, hx1⟩ := Int.eq_ofNat_of_zero_le hb1.1
  obtain ⟨x2, hx2⟩ := Int.eq_ofNat_of_zero_le hb2.1
  refine WT_skip ?_
  refine WT_seq ?_
  refine WT_quiet mixed (by kernel_rfl) hH1 ?_
  clear hH1
  refine WQ_v rfl (fun _ _ => ov_move rfl) ?_
  refine WQ_v rfl (fun _ _ => ov_nilCheck rfl) ?_
  refine WQ_v rfl (fun _ _ => ov_field rfl fo_spec_l6Rd_0) ?_
  refine WQ_v rfl (fun _ hH => ov_load rfl one_sl_uint8 (hH.cb 0 rfl 0)) ?_
  refine WQ_v rfl (fun _ _ => ov_move rfl) ?_
  refine WQ_v rfl (fun _ _ => ov_move rfl) ?_
  refine WQ_v rfl (fun _ _ => ov_nilCheck rfl) ?_
  refine WQ_v rfl (fun _ _ => ov_field rfl fo_spec_l6Rd_0) ?_
  refine WQ_v rfl (fun _ hH => ov_load rfl one_sl_uint8 (hH.cb 0 rfl 0)) ?_
  refine WQ_v rfl (fun _ _ => ov_len rfl hB.sl st_sl_uint8) ?_
  refine WQ_v rfl (fun _ _ => ov_as (ov_rem rfl rfl (by omega) (by omega)) (congrArg (Value.int .i64) (show (p : Int) % (bs.length : Int) = ((p % bs.length : Nat) : Int) from rfl))) ?_
  refine WQ_v rfl (fun _ _ => ov_index rfl rfl st_sl_uint8 hB.sl hi1) ?_
  refine WQ_v rfl (fun _ hH => ov_load rfl one_uint8 (hB.cell hH hi1)) ?_
  refine WQ_v rfl (fun _ _ => ov_as (ov_convert rfl (by kernel_rfl) Try.underlying3) (congrArg (Value.int .i64) ((u8wrap hb1).trans hx1))) ?_
  refine WQ_v rfl (fun _ _ => ov_mul rfl rfl (by omega)) ?_
  refine WQ_v rfl (fun _ _ => ov_move rfl) ?_
  refine WQ_v rfl (fun _ _ => ov_nilCheck rfl) ?_
  refine WQ_v rfl (fun _ _ => ov_field rfl fo_spec_l6Rd_0) ?_
  refine WQ_v rfl (fun _ hH => ov_load rfl one_sl_uint8 (hH.cb 0 rfl 0)) ?_
  refine WQ_v rfl (fun _ _ => ov_move rfl) ?_
  refine WQ_v rfl (fun _ _ => ov_mul rfl rfl (by omega)) ?_
  refine WQ_v rfl (fun _ _ => ov_add rfl rfl (by omega)) ?_
  refine WQ_v rfl (fun _ _ => ov_move rfl) ?_
  refine WQ_v rfl (fun _ _ => ov_nilCheck rfl) ?_
  refine WQ_v rfl (fun _ _ => ov_field rfl fo_spec_l6Rd_0) ?_
  refine WQ_v rfl (fun _ hH => ov_load rfl one_sl_uint8 (hH.cb 0 rfl 0)) ?_
  refine WQ_v rfl (fun _ _ => ov_len rfl hB.sl st_sl_uint8) ?_
  refine WQ_v rfl (fun _ _ => ov_as (ov_rem rfl rfl (by omega) (by omega)) (congrArg (Value.int .i64) (show ((p : Int) * 7 + 3) % (bs.length : Int) = (((p * 7 + 3) % bs.length : Nat) : Int) from rfl))) ?_
  refine WQ_v rfl (fun _ _ => ov_index rfl rfl st_sl_uint8 hB.sl hi2) ?_
  refine WQ_v rfl (fun _ hH => ov_load rfl one_uint8 (hB.cell hH hi2)) ?_
  refine WQ_v rfl (fun _ _ => ov_as (ov_convert rfl (by kernel_rfl) Try.underlying3) (congrArg (Value.int .i64) ((u8wrap hb2).trans hx2))) ?_
  refine WQ_v rfl (fun _ _ => ov_mul rfl rfl (by omega)) ?_
  refine WQ_v rfl (fun _ _ => ov_add rfl rfl (by omega)) ?_
  refine WQ_v rfl (fun _ _ => ov_move rfl) ?_
  refine WQ_v rfl (fun _ _ => ov_mul rfl rfl (by omega)) ?_
  refine WQ_v rfl (fun _ _ => ov_add rfl rfl (by omega)) ?_
  refine WQ_v rfl (fun _ _ => ov_move rfl) ?_
  refine WQ_v rfl (fun _ _ => ov_move rfl) ?_
  refine WQ_v rfl (fun _ _ => ov_nilCheck rfl) ?_
  refine WQ_v rfl (fun _ _ => ov_field rfl fo_spec_l6Rd_0) ?_
  refine WQ_v rfl (fun _ hH => ov_load rfl one_sl_uint8 (hH.cb 0 rfl 0)) ?_
  refine WQ_v rfl (fun _ _ => ov_len rfl hB.sl st_sl_uint8) ?_
  refine WQ_v rfl (fun _ _ => ov_as (ov_quo rfl rfl (by omega) (by omega) (by omega)) (congrArg (Value.int .i64) (show (p : Int) / (bs.length : Int) = (q : Int) from hq ▸ rfl))) ?_
  refine WQ_v rfl (fun _ _ => ov_mul rfl rfl (by omega)) ?_
  refine WQ_v rfl (fun _ _ => ov_as (ov_add rfl rfl (by omega)) (congrArg (Value.int .i64) (show (x1 : Int) * 131 + (x2 : Int) * 1117 + (p : Int) * 29 + (q : Int) * 53 = ((x1 * 131 + x2 * 1117 + p * 29 + q * 53 : Nat) : Int) by omega))) ?_
  refine WQ_v rfl (fun _ _ => ov_assign rfl) ?_
  refine WQ_nil ?_
  intro w2 hH1
  refine WT_seq ?_
  refine WT_region ?_
  refine WL_v rfl (ov_move rfl) ?_
  refine WL_v rfl (ov_move rfl) ?_
  generalize hX : x1 * 131 + x2 * 1117 + p * 29 + q * 53 = X
  have hXb : X < 4611686018427387904 := by omega
  refine WL_v rfl (ov_as (ov_quo rfl rfl (by omega) (by omega) (by omega)) (congrArg (Value.int .i64) (show (X : Int) / 64 = ((X / 64 : Nat) : Int) from rfl))) ?_
  refine WL_v rfl (ov_xor rfl rfl hXb (by omega)) ?_
  refine WL_v rfl (ov_assign rfl) ?_
  refine WL_nil ?_
  refine WT_seq ?_
  refine WT_region ?_
  refine WL_v rfl (ov_move rfl) ?_
  refine WL_v rfl (ov_move rfl) ?_
  refine WL_v rfl (ov_rem rfl rfl (by omega) (by omega)) ?_
  refine WL_v rfl (ov_assign rfl) ?_
  refine WL_nil ?_
  exact WT_ret1 Try.func38 Try.results38 rfl ⟨(((X ^^^ X / 64 : Nat) : Int) % n).toNat, by rw [Int.toNat_of_nonneg (Int.emod_nonneg _ (by omega))], ⟨fun _ => by rw [Int.toNat_of_nonneg (Int.emod_nonneg _ (by omega))]; exact Int.emod_lt_of_pos _ (by omega), by omega⟩, hH1⟩
end
end Go.Proofs.Ytafljegjdanldaa

/- Walks: a plan copied by the laws, as memory of one's own. -/
namespace Go.Proofs.Ytafljegjdanldaa
open Go.RowKit

/-- One node of a plan of one's own. -/
def OAt (Is : List Heaplet) (xs : List Value) (i : Nat) (x : Nd) : Prop :=
  ∃ fv rv F R, (∀ j u, [Value.int .i64 x.kind, fv, rv][j]? = some u → xs[i * 3 + j]? = some u) ∧ Is[2 * i]? = some F ∧ Is[2 * i + 1]? = some R ∧ IRow F 3 fv x.frm ∧ IRow R 3 rv x.row
/-- A plan of one's own: the nodes, and two lists for each. -/
structure OPlan (O : Heaplet) (Is : List Heaplet) (v : Value) (p : List Nd) : Prop where
  len : Is.length = 2 * p.length
  ex : ∃ xs, Row O 32 3 v p.length xs ∧ ∀ i (hi : i < p.length), OAt Is xs i p[i]

section
variable {h : GH} {Ls : List Heaplet} {w : World}

/-- It can be shared. -/
theorem OPlan.plan {O : Heaplet} {Is : List Heaplet} {v : Value} {p : List Nd} (hO : OPlan O Is v p) {h' : GH} (hX : ∀ q ∈ (O :: Is).flatten, h'.blk q.1 = some q.2) : Plan h' v p := by
  obtain ⟨xs, hR, hat⟩ := hO.ex
  have hin : ∀ {X : Heaplet} {i : Nat}, Is[i]? = some X → ∀ q ∈ X, h'.blk q.1 = some q.2 := fun hi q hq => hX q (by
    simp only [List.flatten_cons]
    exact List.mem_append_right _ (List.mem_flatten.2 ⟨_, List.mem_of_getElem? hi, hq⟩))
  have hrd := hR.rd (fun q hq => hX q (by simp [hq]))
  refine ⟨hR.sl, fun i hi => ?_⟩
  obtain ⟨fv, rv, F, R, h1, h2, h3, h4, h5⟩ := hat i hi
  exact ⟨fv, rv, h4.ints (hin h2), h5.ints (hin h3), fun j u hj => hrd _ u (h1 j u hj)⟩
theorem OPlan.freeze {O : Heaplet} {Is : List Heaplet} {v : Value} {p : List Nd} (hO : OPlan O Is v p) (hH : H w h (O :: (Is ++ Ls))) :
    ∃ h', h.Le h' ∧ H w h' Ls ∧ Plan h' v p ∧ ∀ {w2 Ls2}, H w2 h' Ls2 → H w2 h (O :: (Is ++ Ls2)) := by
  have hH' : H w h ((O :: Is).flatten :: Ls) := by simpa [H] using hH
  obtain ⟨h', hle, hH2, hX2, hnd, _⟩ := hH'.freeze
  exact ⟨h', hle, hH2, hO.plan fun q hq => (hX2 q hq).1, fun hH3 => by simpa [H] using hH3.unfreeze hle hX2 hnd⟩

theorem zeroNode (W : World) : (zeroValue 32).run Try.prog W = .ok (.agg #[.int .i64 0, .slice none 0 0, .slice none 0 0]) W := zero_impl_Node W

theorem toNode_ok (hH : H w h Ls) {xv : Value} {x : Nd} (hx : NdV h xv x) (h1 : x.frm.length ≤ 1048576) (h2 : x.row.length ≤ 1048576) : Rets Try.prog 55 #[xv] w fun v w' => ∃ fv rv F R, v = .agg [.int .i64 x.kind, fv, rv].toArray ∧ IRow F 3 fv x.frm ∧ IRow R 3 rv x.row ∧ H w' h (R :: F :: Ls) := by
  obtain ⟨fv, rv, rfl, hf, hr⟩ := hx
  refine rets_enter Try.func55 rfl Try.ntmps55 (by simp) ?_
  refine WT_seq ?_
  refine WT_region ?_
  refine WL_box #[.int .i64 x.kind, fv, rv] rfl hH rfl rfl ?_; rintro g1 w1 hH1
  refine WL_alloc #[.int .i64 0, .slice none 0 0, .slice none 0 0] rfl hH1 zero_impl_Node rfl ?_; rintro g2 w2 hH2
  refine WL_nil ?_
  refine WT_seq ?_
  refine WT_region ?_
  refine WL_alloc #[.int .i64 0, .slice none 0 0, .slice none 0 0] rfl hH2 zero_impl_Node rfl ?_; rintro g3 w3 hH3
  refine WL_nil ?_
  refine WT_seq ?_
  refine WT_region ?_
  refine WL_v rfl (ov_field rfl fo_laws_Node_0) ?_
  refine WL_v rfl (ov_load rfl one_int (hH3.cb 2 rfl 0)) ?_
  refine WL_v rfl (ov_field rfl fo_impl_Node_0) ?_
  refine WL_store hH3 rfl rfl (i := 0) (off := 0) rfl rfl (by simp) rfl sz_int ?_; rintro w4 hH4
  refine WL_nil ?_
  refine WT_seq ?_
  refine WT_region ?_
  refine WL_v rfl (ov_field rfl fo_laws_Node_1) ?_
  refine WL_v rfl (ov_load rfl one_sl_int (hH4.cb 2 rfl 1)) ?_
  refine WL_call rfl rfl cf_laws_toIntS (toIntS_ok hH4 hf h1) ?_; rintro fv2 w5 ⟨F, hF, hH5⟩
  refine WL_v rfl (ov_field rfl fo_impl_Node_1) ?_
  refine WL_store hH5 rfl rfl (i := 1) (off := 1) rfl rfl (by simp) hF.sl.one sz_sl_int ?_; rintro w6 hH6
  refine WL_nil ?_
  refine WT_seq ?_
  refine WT_region ?_
  refine WL_v rfl (ov_field rfl fo_laws_Node_2) ?_
  refine WL_v rfl (ov_load rfl one_sl_int (hH6.cb 3 rfl 2)) ?_
  refine WL_call rfl rfl cf_laws_toIntS (toIntS_ok hH6 hr h2) ?_; rintro rv2 w7 ⟨R, hR, hH7⟩
  refine WL_v rfl (ov_field rfl fo_impl_Node_2) ?_
  refine WL_store hH7 rfl rfl (i := 2) (off := 2) rfl rfl (by simp) hR.sl.one sz_sl_int ?_; rintro w8 hH8
  refine WL_nil ?_
  refine WT_seq ?_
  refine WT_region ?_
  refine WL_v rfl (ov_loadN [.int .i64 x.kind, fv2, rv2] rfl agg_impl_Node rfl ((fun j v hj => by rw [show Addr.add ⟨g3, 0, none⟩ j = ⟨g3, j, none⟩ by simp [add_of]]; exact (hH8.cb 2 rfl j).trans (by simpa using hj)))) ?_
  refine WL_storeN hH8 rfl rfl (i := 3) rfl rfl rfl (ones_cons rfl (ones_cons hF.sl.one (ones_cons hR.sl.one ones_nil))) sz_impl_Node ?_; rintro w9 hH9
  refine WL_nil ?_
  have hl : (loadVar 32 ⟨g2, 0, none⟩).run Try.prog w9 = .ok (.agg [.int .i64 x.kind, fv2, rv2].toArray) w9 :=
    run_loadVarN agg_impl_Node rfl fun j v hj => by rw [show Addr.add ⟨g2, 0, none⟩ j = ⟨g2, j, none⟩ by simp [add_of]]; exact (hH9.cb 3 rfl j).trans (by simpa using hj)
  exact WT_retC Try.func55 Try.results55 rfl hl ⟨fv2, rv2, F, R, rfl, hF, hR, by simpa [H] using ((hH9.dropI (i := 2) rfl).dropI (i := 3) rfl).dropI (i := 4) rfl⟩

theorem OAt.mono {Is : List Heaplet} {xs ys : List Value} {Js : List Heaplet} {i : Nat} {x : Nd} (hO : OAt Is xs i x) (hx : ∀ j, j < 3 → ys[i * 3 + j]? = xs[i * 3 + j]?) : OAt (Is ++ Js) ys i x := by
  obtain ⟨fv, rv, F, R, h1, h2, h3, h4, h5⟩ := hO
  refine ⟨fv, rv, F, R, fun j u hj => ?_, ?_, ?_, h4, h5⟩
  · have : j < 3 := (List.getElem?_eq_some_iff.1 hj).1
    rw [hx j this]; exact h1 j u hj
  · rw [List.getElem?_append_left (List.getElem?_eq_some_iff.1 h2).1]; exact h2
  · rw [List.getElem?_append_left (List.getElem?_eq_some_iff.1 h3).1]; exact h3

theorem H.addRF {R F O : Heaplet} {Is : List Heaplet} (hH : H w h (R :: F :: O :: (Is ++ Ls))) : H w h (O :: ((Is ++ [F, R]) ++ Ls)) := by
  refine hH.perm ?_
  have h1 : (R :: F :: O :: (Is ++ Ls)).Perm (F :: R :: O :: (Is ++ Ls)) := .swap _ _ _
  have h2 : (F :: R :: O :: (Is ++ Ls)).Perm (O :: ([F, R] ++ (Is ++ Ls))) := by
    have : ([F, R] ++ O :: (Is ++ Ls)).Perm (O :: ([F, R] ++ (Is ++ Ls))) := List.perm_middle
    simpa using this
  have h3 : ([F, R] ++ (Is ++ Ls)).Perm ((Is ++ [F, R]) ++ Ls) := by
    rw [← List.append_assoc]
    exact List.perm_append_comm.append_right Ls
  exact (h1.trans h2).trans (.cons _ h3)

theorem toNodeS_ok (hH : H w h Ls) {pv : Value} {p : List Nd} (hP : Plan h pv p) (h0 : p.length ≤ 1048576) (h1 : ∀ i (hi : i < p.length), p[i].frm.length ≤ 1048576 ∧ p[i].row.length ≤ 1048576) :
    Rets Try.prog 21 #[pv] w fun v w' => ∃ O Is, OPlan O Is v p ∧ H w' h (O :: (Is ++ Ls)) := by
  refine rets_enter Try.func21 rfl Try.ntmps21 (by simp) ?_
  refine WT_seq ?_
  refine WT_region ?_
  refine WL_v rfl (ov_assign rfl) ?_
  refine WL_nil ?_
  refine WT_seq ?_
  refine WT_region ?_
  refine WL_v rfl (ov_move rfl) ?_
  refine WL_v rfl (ov_len rfl hP.sl st_sl_laws_Node) ?_
  refine WL_make (n := p.length) (c := p.length) rfl hH rfl rfl st_sl_impl_Node (by omega) (by omega) (by omega) (by omega) ?_; rintro O0 ov w1 hO0 hH1
  refine WL_v rfl (ov_assign rfl) ?_
  refine WL_nil ?_
  refine WT_seq ?_
  refine WT_seq ?_
  refine WT_region ?_
  refine WL_v rfl (ov_assign rfl) ?_
  refine WL_nil ?_
  refine WT_block ?_
  refine WT_while (fun s : Nat => [(0, pv), (3, ov), (4, .int .i64 (s : Int))]) (fun k w => k ≤ p.length ∧ ∃ O Is xs, Is.length = 2 * k ∧ Row O 32 3 ov p.length xs ∧ (∀ i (_ : i < k) (hi : i < p.length), OAt Is xs i p[i]) ∧ H w h (O :: (Is ++ Ls))) (fun k => p.length - k) 0 (by repeat (first | exact trivial | refine ⟨rfl, ?_⟩)) ⟨by omega, O0, [], _, rfl, hO0, by omega, hH1⟩ ?_
  clear hH hH1 hO0
  rintro k w2 ⟨hk, O, Is, xs, hil, hO, hall, hH⟩ again
  refine WT_seq ?_
  refine WT_seq ?_
  refine WT_region ?_
  refine WL_v rfl (ov_move rfl) ?_
  refine WL_v rfl (ov_move rfl) ?_
  refine WL_v rfl (ov_len rfl hP.sl st_sl_laws_Node) ?_
  refine WL_v rfl (ov_lss rfl rfl) ?_
  refine WL_nil ?_
  refine WT_cond rfl (fun hc => ?_) (fun hc => ?_)
  · skip
    first | with_reducible replace hc := of_decide_eq_true hc | with_reducible replace hc := bn_T hc | with_reducible replace hc := bb_T hc | skip
    have hkp : k < p.length := by omega
    obtain ⟨fv, rv, hx, hcell⟩ := hP.ndV' hkp
    have hxl := hO.len
    refine WT_skip ?_
    refine WT_seq ?_
    refine WT_block ?_
    refine WT_region ?_
    refine WL_v rfl (ov_move rfl) ?_
    refine WL_v rfl (ov_move rfl) ?_
    refine WL_v rfl (ov_move rfl) ?_
    refine WL_v rfl (ov_move rfl) ?_
    refine WL_v rfl (ov_index rfl rfl st_sl_laws_Node hP.sl hkp) ?_
    refine WL_v rfl (ov_loadN [.int .i64 p[k].kind, fv, rv] rfl agg_laws_Node rfl ((hcell _ _ hH))) ?_
    refine WL_call rfl rfl cf_laws_toNode (toNode_ok hH hx (h1 k hkp).1 (h1 k hkp).2) ?_; rintro _ w3 ⟨fv2, rv2, F, R, rfl, hF, hR, hH3⟩
    have ho : k * 3 + [Value.int .i64 p[k].kind, fv2, rv2].length ≤ xs.length := by rw [hxl]; simp only [List.length_cons, List.length_nil]; omega
    refine WL_v rfl (ov_index rfl rfl st_sl_impl_Node hO.sl hkp) ?_
    refine WL_storeRowN hH3 rfl rfl (i := 2) rfl hO ho (by simp) (ones_cons rfl (ones_cons hF.sl.one (ones_cons hR.sl.one ones_nil))) sz_impl_Node ?_; rintro O2 w4 hO2 hH4
    refine WL_nil ?_
    refine WT_inBlock ?_
    refine WT_region ?_
    refine WL_v rfl (ov_move rfl) ?_
    refine WL_v rfl (ov_add rfl rfl (by omega)) ?_
    refine WL_v rfl (ov_assign rfl) ?_
    refine WL_nil ?_
    refine again (k + 1) _ _ (by omega) (by repeat (first | exact trivial | refine ⟨rfl, ?_⟩)) ⟨by omega, O2, Is ++ [F, R], _, by simp [hil]; omega, hO2, fun i hi hil2 => ?_, H.addRF hH4⟩
    rcases Nat.lt_or_ge i k with h3 | h3
    · exact (hall i h3 hil2).mono fun j hj => by rw [splice_get ho, if_pos (by omega)]
    · obtain rfl : i = k := by omega
      refine ⟨fv2, rv2, F, R, fun j u hj => ?_, ?_, ?_, hF, hR⟩
      · have : j < 3 := (List.getElem?_eq_some_iff.1 hj).1
        rw [splice_get ho, if_neg (by omega), if_pos (by simp only [List.length_cons, List.length_nil]; omega), show i * 3 + j - i * 3 = j by omega]
        exact hj
      · rw [List.getElem?_append_right (by omega), hil]; simp
      · rw [List.getElem?_append_right (by omega), hil, show 2 * i + 1 - 2 * i = 1 by omega]; rfl
  first | with_reducible replace hc := of_decide_eq_false hc | with_reducible replace hc := bn_F hc | with_reducible replace hc := bb_F hc | skip
  obtain rfl : k = p.length := by omega
  refine WT_exit rfl ?_
  refine WT_seq ?_
  refine WT_region ?_
  refine WL_v rfl (ov_move rfl) ?_
  refine WL_v rfl (ov_assign rfl) ?_
  refine WL_nil ?_
  exact WT_ret1 Try.func21 Try.results21 rfl ⟨O, Is, ⟨hil, xs, hO, fun i hi => hall i hi hi⟩, hH⟩
end
end Go.Proofs.Ytafljegjdanldaa

/- Walks: the draws of rows, nodes and plans. -/
namespace Go.Proofs.Ytafljegjdanldaa
open Go.RowKit

section
variable {h : GH} {Ls : List Heaplet} {w : World}

theorem l91Row_ok {g : Nat} {bv : Value} {p : Nat} {bs : List Int} (hH : H w h (rdr g bv p :: Ls)) (hB : Bytes h bv bs) (hp : p ≤ 1000000) (n : Nat) (hn : n ≤ 12) :
    Rets Try.prog 72 #[.pointer (some ⟨g, 0, none⟩), .int .i64 (n : Int)] w fun v w' => ∃ X r p', IRow X 3 v r ∧ r.length = n ∧ p' ≤ p + 100 ∧ H w' h (X :: rdr g bv p' :: Ls) := by
  refine rets_enter Try.func72 rfl Try.ntmps72 (by simp) ?_
  refine WT_seq ?_
  refine WT_region ?_
  refine WL_v rfl (ov_assign rfl) ?_
  refine WL_nil ?_
  refine WT_seq ?_
  refine WT_region ?_
  refine WL_bsI0 rfl hH run_bs_int0 ?_; rintro X0 ev0 w2 hX0 hH2
  refine WL_v rfl (ov_assign rfl) ?_
  refine WL_nil ?_
  refine WT_seq ?_
  refine WT_seq ?_
  refine WT_region ?_
  refine WL_v rfl (ov_assign rfl) ?_
  refine WL_nil ?_
  refine WT_block ?_
  refine WT_while (fun s : Nat × Value => [(0, .pointer (some ⟨g, 0, none⟩)), (1, .int .i64 (n : Int)), (5, s.2), (6, .int .i64 (s.1 : Int))]) (fun s w => s.1 ≤ n ∧ ∃ X r p', IRow X 3 s.2 r ∧ r.length = s.1 ∧ p' ≤ p + 3 * s.1 ∧ H w h (X :: rdr g bv p' :: Ls)) (fun s => n - s.1) (0, ev0) (by repeat (first | exact trivial | refine ⟨rfl, ?_⟩)) ⟨by omega, X0, [], p, hX0, rfl, by simp only; omega, hH2⟩ ?_
  clear hH hH2 hX0
  rintro ⟨k, sv⟩ w3 ⟨hk, X, r, p', hX, hr, hp', hH⟩ again
  simp only at hk hX hr hp'
  refine WT_seq ?_
  refine WT_seq ?_
  refine WT_region ?_
  refine WL_v rfl (ov_move rfl) ?_
  refine WL_v rfl (ov_move rfl) ?_
  refine WL_v rfl (ov_lss rfl rfl) ?_
  refine WL_nil ?_
  refine WT_cond rfl (fun hc => ?_) (fun hc => ?_)
  · skip
    first | with_reducible replace hc := of_decide_eq_true hc | with_reducible replace hc := bn_T hc | with_reducible replace hc := bb_T hc | skip
    simp only at hc
    have hkn : k < n := by omega
    refine WT_skip ?_
    refine WT_seq ?_
    refine WT_block ?_
    refine WT_region ?_
    refine WL_v rfl (ov_move rfl) ?_
    refine WL_v rfl (ov_move rfl) ?_
    refine WL_call rfl rfl cf_p_spec_l6Rd_pick (pick_ok (hH.pull 1 rfl) hB (by omega) 5) ?_; rintro _ w4 ⟨r1, rfl, hr1, hH4⟩
    refine WL_v rfl (ov_move rfl) ?_
    refine WL_call rfl rfl cf_p_spec_l6Rd_pick (pick_ok hH4 hB (by omega) 1009) ?_; rintro _ w5 ⟨r2, rfl, hr2, hH5⟩
    refine WL_bsIN [(r1 : Int), (r2 : Int)] rfl hH5 rfl (run_bs_int2 _ _) rfl (by omega) ?_; rintro Y yv w6 hY hH6
    refine WL_v rfl (ov_move rfl) ?_
    refine WL_call rfl rfl cf_p_spec_l6Rd_pick (pick_ok (hH6.pull 1 rfl) hB (by omega) 2) ?_; rintro _ w7 ⟨r3, rfl, hr3, hH7⟩
    refine WL_v rfl (ov_index rfl rfl st_sl_int hY.sl (by have := hr3.1 (by omega); simp only [List.length_cons, List.length_nil]; omega)) ?_
    refine WL_v rfl (ov_load rfl one_int (hY.cell hH7 (i := 1) rfl (by have := hr3.1 (by omega); simp only [List.length_cons, List.length_nil]; omega))) ?_
    refine WL_bsI rfl hH7 rfl (run_bs_int _) ?_; rintro Z zv w8 hZ hH8
    refine WL_appI (i := 3) (j := 0) rfl hH8 rfl rfl st_sl_int rfl hX rfl hZ (by simp; omega) (by simp; omega) ?_; rintro X2 sv2 w9 hX2 hH9
    refine WL_v rfl (ov_assign rfl) ?_
    refine WL_nil ?_
    refine WT_inBlock ?_
    refine WT_region ?_
    refine WL_v rfl (ov_move rfl) ?_
    refine WL_v rfl (ov_add rfl rfl (by omega)) ?_
    refine WL_v rfl (ov_assign rfl) ?_
    refine WL_nil ?_
    refine again (k + 1, sv2) _ _ (by simp only; omega) (by repeat (first | exact trivial | refine ⟨rfl, ?_⟩)) ⟨by simp only; omega, X2, _, p' + 1 + 1 + 1, hX2, by simp [hr], by simp only; omega, (hH9.drop.pull 2 rfl).del 2 rfl⟩
  first | with_reducible replace hc := of_decide_eq_false hc | with_reducible replace hc := bn_F hc | with_reducible replace hc := bb_F hc | skip
  simp only at hc
  obtain rfl : k = n := by omega
  by_cases h0 : 0 < k
  case neg =>
    refine WT_exit rfl ?_
    refine WT_seq ?_
    refine WT_seq ?_
    refine WT_region ?_
    refine WL_v rfl (ov_move rfl) ?_
    refine WL_v rfl (ov_F (ov_gtr rfl rfl) (by first | exact decide_eq_false h0 | exact nb_F h0 | exact mb_F h0 | exact h0 | (simp only [decide_eq_false_iff_not]; omega) | simpa using h0)) ?_
    refine WL_v rfl (ov_move rfl) ?_
    refine WL_guardOff rfl rfl rfl rfl ?_
    refine WL_guardOff rfl rfl rfl rfl ?_
    refine WL_guardOff rfl rfl rfl rfl ?_
    refine WL_v rfl (ov_pickF rfl rfl) ?_
    refine WL_nil ?_
    refine WT_condF rfl ?_
    refine WT_skip ?_
    refine WT_seq ?_
    refine WT_region ?_
    refine WL_v rfl (ov_move rfl) ?_
    refine WL_v rfl (ov_assign rfl) ?_
    refine WL_nil ?_
    exact WT_ret1 Try.func72 Try.results72 rfl ⟨X, r, p', hX, hr, by omega, hH⟩
  refine WT_exit rfl ?_
  refine WT_seq ?_
  refine WT_seq ?_
  refine WT_region ?_
  refine WL_v rfl (ov_move rfl) ?_
  refine WL_v rfl (ov_T (ov_gtr rfl rfl) (by first | exact decide_eq_true h0 | exact nb_T h0 | exact mb_T h0 | exact h0 | (simp only [decide_eq_true_eq]; omega) | simpa using h0)) ?_
  refine WL_v rfl (ov_move rfl) ?_
  refine WL_guardOn rfl rfl ?_
  refine WL_v rfl (ov_move rfl) ?_
  refine WL_guardOn rfl rfl ?_
  refine WL_call rfl rfl cf_p_spec_l6Rd_pick (pick_ok (hH.pull 1 rfl) hB (by omega) 50) ?_; rintro _ w4 ⟨r1, rfl, hr1, hH4⟩
  refine WL_guardOn rfl rfl ?_
  refine WL_v rfl (ov_eql rfl rfl) ?_
  refine WL_v rfl (ov_pickT rfl rfl) ?_
  refine WL_nil ?_
  refine WT_cond rfl (fun h1 => ?_) (fun h1 => ?_)
  · skip
    first | with_reducible replace h1 := of_decide_eq_true h1 | with_reducible replace h1 := bn_T h1 | with_reducible replace h1 := bb_T h1 | skip
    refine WT_region ?_
    refine WL_v rfl (ov_move rfl) ?_
    refine WL_v rfl (ov_move rfl) ?_
    refine WL_v rfl (ov_move rfl) ?_
    refine WL_call rfl rfl cf_p_spec_l6Rd_pick (pick_ok hH4 hB (by omega) k) ?_; rintro _ w5 ⟨r2, rfl, hr2, hH5⟩
    refine WL_bsIN [-1, 1008, 1009] rfl hH5 rfl (run_bs_int3 _ _ _) rfl (by omega) ?_; rintro Y yv w6 hY hH6
    refine WL_v rfl (ov_move rfl) ?_
    refine WL_call rfl rfl cf_p_spec_l6Rd_pick (pick_ok (hH6.pull 1 rfl) hB (by omega) 3) ?_; rintro _ w7 ⟨r3, rfl, hr3, hH7⟩
    refine WL_v rfl (ov_index rfl rfl st_sl_int hY.sl (by have := hr3.1 (by omega); simp only [List.length_cons, List.length_nil]; omega)) ?_
    refine WL_v rfl (ov_load rfl one_int (hY.cell hH7 (i := 1) rfl (by have := hr3.1 (by omega); simp only [List.length_cons, List.length_nil]; omega))) ?_
    refine WL_v rfl (ov_index rfl rfl st_sl_int hX.sl (by have := hr2.1 (by omega); omega)) ?_
    refine WL_storeI hH7 rfl rfl (i := 2) rfl hX (by have := hr2.1 (by omega); omega) sz_int ?_; rintro X2 w8 hX2 hH8
    refine WL_nil ?_
    refine WT_seq ?_
    refine WT_region ?_
    refine WL_v rfl (ov_move rfl) ?_
    refine WL_v rfl (ov_assign rfl) ?_
    refine WL_nil ?_
    exact WT_ret1 Try.func72 Try.results72 rfl ⟨X2, _, p' + 1 + 1 + 1, hX2, by simp [hr], by omega, (hH8.pull 2 rfl).del 2 rfl⟩
  first | with_reducible replace h1 := of_decide_eq_false h1 | with_reducible replace h1 := bn_F h1 | with_reducible replace h1 := bb_F h1 | skip
  refine WT_skip ?_
  refine WT_seq ?_
  refine WT_region ?_
  refine WL_v rfl (ov_move rfl) ?_
  refine WL_v rfl (ov_assign rfl) ?_
  refine WL_nil ?_
  exact WT_ret1 Try.func72 Try.results72 rfl ⟨X, r, p' + 1, hX, hr, by omega, hH4.swap⟩

/-- A node that was drawn, as a value of one's own. -/
def ONd (v : Value) (x : Nd) (F R : Heaplet) : Prop := ∃ fv rv, v = .agg [.int .i64 x.kind, fv, rv].toArray ∧ IRow F 3 fv x.frm ∧ IRow R 3 rv x.row

theorem run_build_node' (k : Int) (a b : Option Addr) (n c m d : Nat) (W : World) : (Instr.build 32 #[(0, .int .i64 k), (1, .slice a n c), (2, .slice b m d)]).run Try.prog W = .ok (.agg #[.int .i64 k, .slice a n c, .slice b m d]) W := by kernel_rfl
theorem run_build_node {k : Int} {u v : Value} {n m : Nat} (hu : Sl u n) (hv : Sl v m) (W : World) : (Instr.build 32 #[(0, .int .i64 k), (1, u), (2, v)]).run Try.prog W = .ok (.agg #[.int .i64 k, u, v]) W := by
  obtain ⟨_, _, rfl, _⟩ := hu.form
  obtain ⟨_, _, rfl, _⟩ := hv.form
  exact run_build_node' k _ _ _ _ _ _ W

theorem l91Node_ok {g : Nat} {bv : Value} {p : Nat} {bs : List Int} (hH : H w h (rdr g bv p :: Ls)) (hB : Bytes h bv bs) (hp : p ≤ 900000) (i n : Nat) (hn : n ≤ 11) :
    Rets Try.prog 71 #[.pointer (some ⟨g, 0, none⟩), .int .i64 (i : Int), .int .i64 (n : Int)] w fun v w' => ∃ x F R p', ONd v x F R ∧ p' ≤ p + 200 ∧ H w' h (rdr g bv p' :: F :: R :: Ls) := by
  refine rets_enter Try.func71 rfl Try.ntmps71 (by simp) ?_
  refine WT_seq ?_
  refine WT_region ?_
  refine WL_alloc #[.int .i64 0, .slice none 0 0, .slice none 0 0] rfl hH zero_impl_Node rfl ?_; rintro ga w1 hH1
  refine WL_nil ?_
  refine WT_seq ?_
  refine WT_region ?_
  refine WL_v rfl (ov_move rfl) ?_
  refine WL_call rfl rfl cf_p_spec_l6Rd_pick (pick_ok (hH1.pull 1 rfl) hB (by omega) 6) ?_; rintro _ w2 ⟨r1, rfl, hr1, hH2⟩
  refine WL_bsI0 rfl hH2 run_bs_int0 ?_; rintro X1 xv1 w3 hX1 hH3
  refine WL_bsI0 rfl hH3 run_bs_int0 ?_; rintro X2 xv2 w4 hX2 hH4
  refine WL_v rfl (ov_build rfl (run_build_node hX1.sl hX2.sl)) ?_
  refine WL_alloc #[.int .i64 0, .slice none 0 0, .slice none 0 0] rfl hH4 zero_impl_Node rfl ?_; rintro gb w5 hH5
  refine WL_storeN hH5 rfl rfl (i := 0) rfl rfl rfl (ones_cons rfl (ones_cons hX1.sl.one (ones_cons hX2.sl.one ones_nil))) sz_impl_Node ?_; rintro w6 hH6
  refine WL_nil ?_
  refine WT_seq ?_
  refine WT_seq ?_
  refine WT_region ?_
  refine WL_v rfl (ov_move rfl) ?_
  refine WL_v rfl (ov_eql rfl rfl) ?_
  refine WL_nil ?_
  replace hH6 := (hH6.pull 3 rfl)
  refine WT_join (ι := Int) (fun _ => [(0, .pointer (some ⟨g, 0, none⟩)), (1, .int .i64 (i : Int)), (2, .int .i64 (n : Int)), (6, .pointer (some ⟨ga, 0, none⟩)), (7, .pointer (some ⟨gb, 0, none⟩))]) (fun k w => H w h (rdr g bv (p + 1) :: [(gb, .cells #[.int .i64 k, xv1, xv2] 32 (0, 0))] :: X2 :: X1 :: [(ga, .cells #[.int .i64 0, .slice none 0 0, .slice none 0 0] 32 (0, 0))] :: Ls)) (fun joined => ?_) ?_
  · skip
    refine WT_cond rfl (fun h0 => ?_) (fun h0 => ?_)
    · skip
      first | with_reducible replace h0 := of_decide_eq_true h0 | with_reducible replace h0 := bn_T h0 | with_reducible replace h0 := bb_T h0 | skip
      refine WT_region ?_
      refine WL_v rfl (ov_field rfl fo_impl_Node_0) ?_
      refine WL_store hH6 rfl rfl (i := 1) (off := 0) rfl rfl (by simp) rfl sz_int ?_; rintro w7 hH7
      refine WL_nil ?_
      exact joined _ _ _ (by repeat (first | exact trivial | refine ⟨rfl, ?_⟩)) hH7
    first | with_reducible replace h0 := of_decide_eq_false h0 | with_reducible replace h0 := bn_F h0 | with_reducible replace h0 := bb_F h0 | skip
    refine WT_skip ?_
    exact joined _ _ _ (by repeat (first | exact trivial | refine ⟨rfl, ?_⟩)) hH6
  clear hH hH1 hH2 hH3 hH4 hH5 hH6
  rintro k w7 hH7
  refine WT_seq ?_
  refine WT_seq ?_
  refine WT_region ?_
  refine WL_v rfl (ov_field rfl fo_impl_Node_0) ?_
  refine WL_v rfl (ov_load rfl one_int (hH7.cb 1 rfl 0)) ?_
  refine WL_v rfl (ov_eql rfl rfl) ?_
  refine WL_nil ?_
  refine WT_join (ι := Value) (fun _ => [(0, .pointer (some ⟨g, 0, none⟩)), (1, .int .i64 (i : Int)), (6, .pointer (some ⟨ga, 0, none⟩)), (7, .pointer (some ⟨gb, 0, none⟩))]) (fun rv w => ∃ R r p', IRow R 3 rv r ∧ p' ≤ p + 1 + 100 ∧ H w h (rdr g bv p' :: [(gb, .cells #[.int .i64 k, xv1, rv] 32 (0, 0))] :: R :: X1 :: [(ga, .cells #[.int .i64 0, .slice none 0 0, .slice none 0 0] 32 (0, 0))] :: Ls)) (fun joined => ?_) ?_
  · skip
    refine WT_cond rfl (fun h0 => ?_) (fun h0 => ?_)
    · skip
      first | with_reducible replace h0 := of_decide_eq_true h0 | with_reducible replace h0 := bn_T h0 | with_reducible replace h0 := bb_T h0 | skip
      refine WT_region ?_
      refine WL_v rfl (ov_move rfl) ?_
      refine WL_v rfl (ov_move rfl) ?_
      refine WL_call rfl rfl cf_spec_l91Row (l91Row_ok hH7 hB (by omega) n (by omega)) ?_; rintro rv w8 ⟨R, r, p', hR, hrl, hp', hH8⟩
      refine WL_v rfl (ov_field rfl fo_impl_Node_2) ?_
      refine WL_store hH8 rfl rfl (i := 2) (off := 2) rfl rfl (by simp) hR.sl.one sz_sl_int ?_; rintro w9 hH9
      refine WL_nil ?_
      exact joined rv _ _ (by repeat (first | exact trivial | refine ⟨rfl, ?_⟩)) ⟨R, r, p', hR, hp', ((hH9.del 3 rfl).pull 2 rfl).pull 2 rfl⟩
    first | with_reducible replace h0 := of_decide_eq_false h0 | with_reducible replace h0 := bn_F h0 | with_reducible replace h0 := bb_F h0 | skip
    refine WT_skip ?_
    exact joined xv2 _ _ (by repeat (first | exact trivial | refine ⟨rfl, ?_⟩)) ⟨X2, [], p + 1, hX2, by omega, hH7⟩
  clear hH7 hX2
  rintro rv w8 ⟨R, r, p1, hR, hp1, hH8⟩
  refine WT_seq ?_
  refine WT_seq ?_
  refine WT_region ?_
  refine WL_v rfl (ov_assign rfl) ?_
  refine WL_nil ?_
  refine WT_block ?_
  refine WT_while (fun s : Nat × Value => [(0, .pointer (some ⟨g, 0, none⟩)), (1, .int .i64 (i : Int)), (6, .pointer (some ⟨ga, 0, none⟩)), (7, .pointer (some ⟨gb, 0, none⟩)), (8, .int .i64 (s.1 : Int))]) (fun s w => s.1 ≤ 2 ∧ ∃ X f p', IRow X 3 s.2 f ∧ f.length = s.1 ∧ p' ≤ p + 1 + 100 + s.1 ∧ H w h (rdr g bv p' :: [(gb, .cells #[.int .i64 k, s.2, rv] 32 (0, 0))] :: R :: X :: [(ga, .cells #[.int .i64 0, .slice none 0 0, .slice none 0 0] 32 (0, 0))] :: Ls)) (fun s => 2 - s.1) (0, xv1) (by repeat (first | exact trivial | refine ⟨rfl, ?_⟩)) ⟨by omega, X1, [], p1, hX1, rfl, by simp only; omega, hH8⟩ ?_
  clear hH8 hX1
  rintro ⟨j, fv⟩ w9 ⟨hj, X, f, p2, hX, hfl, hp2, hH9⟩ again
  simp only at hj hX hfl hp2
  have hkn := kindNeeds_le k
  refine WT_seq ?_
  refine WT_seq ?_
  refine WT_region ?_
  refine WL_v rfl (ov_move rfl) ?_
  refine WL_v rfl (ov_field rfl fo_impl_Node_0) ?_
  refine WL_v rfl (ov_load rfl one_int (hH9.cb 1 rfl 0)) ?_
  refine WL_call rfl rfl cf_spec_KindNeeds (sKindNeeds_ok hH9 k) ?_; rintro _ w10 ⟨rfl, hH10⟩
  refine WL_v rfl (ov_lss rfl rfl) ?_
  refine WL_nil ?_
  refine WT_cond rfl (fun hc => ?_) (fun hc => ?_)
  · skip
    first | with_reducible replace hc := of_decide_eq_true hc | with_reducible replace hc := bn_T hc | with_reducible replace hc := bb_T hc | skip
    simp only at hc
    refine WT_skip ?_
    refine WT_seq ?_
    refine WT_block ?_
    refine WT_mixO (i := 1) [(0, 0), (1, 0), (2, 0), (3, 0), (4, 2), (5, 2), (6, 2), (7, 0), (8, 3)] mixed (by kernel_rfl) hH10 rfl ?_
    clear hH10
    intro w11 hH10 hC
    refine WM_v rfl rfl hC (fun _ _ => ov_field rfl fo_impl_Node_1) ?_
    refine WM_v rfl rfl hC (fun _ ⟨_, hH⟩ => ov_load rfl one_sl_int (hH.cb 1 rfl 1)) ?_
    refine WM_v rfl rfl hC (fun _ _ => ov_move rfl) ?_
    refine WM_v rfl rfl hC (fun _ _ => ov_move rfl) ?_
    refine WM_e rfl ?_
    refine WL_call rfl rfl cf_p_spec_l6Rd_pick (pick_ok hH10 hB (by omega) i) ?_; rintro _ w12 ⟨r1, rfl, hr1, hH12⟩
    replace hC : Cl _ _ _ := Cl.one hH12 (i := 1) rfl
    refine WL_mix (fun _ => hC) ?_
    refine WM_e rfl ?_
    refine WL_bsI rfl hH12 rfl (run_bs_int _) ?_; rintro Y yv w13 hY hH13
    replace hC : Cl _ _ _ := Cl.one hH13 (i := 2) rfl
    refine WL_mix (fun _ => hC) ?_
    refine WM_e rfl ?_
    refine WL_appI (i := 4) (j := 0) rfl hH13 rfl rfl st_sl_int rfl hX rfl hY (by simp; omega) (by simp; omega) ?_; rintro X2 fv2 w14 hX2 hH14
    replace hC : Cl _ _ _ := Cl.one hH14 (i := 2) rfl
    refine WL_mix (fun _ => hC) ?_
    refine WM_v rfl rfl hC (fun _ _ => ov_field rfl fo_impl_Node_1) ?_
    refine WM_e rfl ?_
    refine WL_store hH14 rfl rfl (i := 2) (off := 1) rfl rfl (by simp) hX2.sl.one sz_sl_int ?_; rintro w15 hH15
    refine WL_mix (fun h => absurd rfl h) ?_
    refine WM_nil ?_
    refine WT_inBlock ?_
    refine WT_region ?_
    refine WL_v rfl (ov_move rfl) ?_
    refine WL_v rfl (ov_add rfl rfl (by omega)) ?_
    refine WL_v rfl (ov_assign rfl) ?_
    refine WL_nil ?_
    refine again (j + 1, fv2) _ _ (by simp only; omega) (by repeat (first | exact trivial | refine ⟨rfl, ?_⟩)) ⟨by simp only; omega, X2, _, p2 + 1, hX2, by simp [hfl], by simp only; omega, hH15.drop⟩
  first | with_reducible replace hc := of_decide_eq_false hc | with_reducible replace hc := bn_F hc | with_reducible replace hc := bb_F hc | skip
  refine WT_exit rfl ?_
  refine WT_seq ?_
  refine WT_region ?_
  refine WL_v rfl (ov_loadN [.int .i64 k, fv, rv] rfl agg_impl_Node rfl ((fun j v hj => by rw [show Addr.add ⟨gb, 0, none⟩ j = ⟨gb, j, none⟩ by simp [add_of]]; exact (hH10.cb 1 rfl j).trans (by simpa using hj)))) ?_
  refine WL_storeN hH10 rfl rfl (i := 4) rfl rfl rfl (ones_cons rfl (ones_cons hX.sl.one (ones_cons hR.sl.one ones_nil))) sz_impl_Node ?_; rintro w11 hH11
  refine WL_nil ?_
  have hl : (loadVar 32 ⟨ga, 0, none⟩).run Try.prog w11 = .ok (.agg [.int .i64 k, fv, rv].toArray) w11 :=
    run_loadVarN agg_impl_Node rfl fun j v hj => by rw [show Addr.add ⟨ga, 0, none⟩ j = ⟨ga, j, none⟩ by simp [add_of]]; exact (hH11.cb 4 rfl j).trans (by simpa using hj)
  exact WT_retC Try.func71 Try.results71 rfl hl ⟨⟨k, f, r⟩, X, R, p2, ⟨fv, rv, rfl, hX, hR⟩, by omega, (((hH11.del 4 rfl).del 1 rfl).pull 2 rfl).swap⟩
end
end Go.Proofs.Ytafljegjdanldaa

/- Walks: the draw of a plan. -/
namespace Go.Proofs.Ytafljegjdanldaa
open Go.RowKit

section
variable {h : GH} {Ls : List Heaplet} {w : World}

theorem OAt.new {Is : List Heaplet} {xs : List Value} {x : Nd} {fv rv : Value} {F R : Heaplet} {k : Nat} (hF : IRow F 3 fv x.frm) (hR : IRow R 3 rv x.row) (hil : Is.length = 2 * k) (hxl : xs.length = k * 3) : OAt (Is ++ [F, R]) (xs ++ [.int .i64 x.kind, fv, rv]) k x := by
  refine ⟨fv, rv, F, R, fun j u hj => ?_, ?_, ?_, hF, hR⟩
  · rw [List.getElem?_append_right (by omega), hxl, show k * 3 + j - k * 3 = j by omega]; exact hj
  · rw [List.getElem?_append_right (by omega), hil]; simp
  · rw [List.getElem?_append_right (by omega), hil, show 2 * k + 1 - 2 * k = 1 by omega]; rfl

/-- A plan of one's own with one node more. -/
theorem OPlan.snoc {O' : Heaplet} {Is : List Heaplet} {v' : Value} {p : List Nd} {xs : List Value} {x : Nd} {fv rv : Value} {F R : Heaplet} (hil : Is.length = 2 * p.length) (hxl : xs.length = p.length * 3) (hat : ∀ i (hi : i < p.length), OAt Is xs i p[i])
    (hO : Row O' 32 3 v' (p.length + 1) (xs ++ [.int .i64 x.kind, fv, rv])) (hF : IRow F 3 fv x.frm) (hR : IRow R 3 rv x.row) : OPlan O' (Is ++ [F, R]) v' (p ++ [x]) := by
  refine ⟨by simp [hil]; omega, _, by simpa using hO, fun i hi => ?_⟩
  rw [List.getElem_append]
  split
  · rename_i h1
    exact (hat i h1).mono fun j hj => by rw [List.getElem?_append_left (by rw [hxl]; omega)]
  · rename_i h1
    have : i = p.length := by simp at hi; omega
    subst this
    simpa using OAt.new hF hR hil hxl

theorem OAt.ofSet {Is : List Heaplet} {xs : List Value} {x : Nd} {fv rv : Value} {F R : Heaplet} {k : Nat} (hF : IRow F 3 fv x.frm) (hR : IRow R 3 rv x.row) (hil : 2 * k + 1 < Is.length) (hxl : k * 3 + 3 ≤ xs.length) : OAt ((Is.set (2 * k) F).set (2 * k + 1) R) (splice xs (k * 3) [.int .i64 x.kind, fv, rv]) k x := by
  refine ⟨fv, rv, F, R, fun j u hj => ?_, ?_, ?_, hF, hR⟩
  · have : j < 3 := (List.getElem?_eq_some_iff.1 hj).1
    rw [splice_get (by simpa using hxl), if_neg (by omega), if_pos (by simp only [List.length_cons, List.length_nil]; omega), show k * 3 + j - k * 3 = j by omega]
    exact hj
  · rw [List.getElem?_set, if_neg (by omega), List.getElem?_set, if_pos rfl, if_pos (by omega)]
  · rw [List.getElem?_set, if_pos rfl, if_pos (by simp; omega)]
/-- A node of a plan of one's own is replaced. -/
theorem OPlan.set {O' : Heaplet} {Is : List Heaplet} {v : Value} {p : List Nd} {xs : List Value} {x : Nd} {fv rv : Value} {F R : Heaplet} {k : Nat} (hk : k < p.length) (hil : Is.length = 2 * p.length) (hxl : xs.length = p.length * 3) (hat : ∀ i (hi : i < p.length), OAt Is xs i p[i])
    (hO : Row O' 32 3 v p.length (splice xs (k * 3) [.int .i64 x.kind, fv, rv])) (hF : IRow F 3 fv x.frm) (hR : IRow R 3 rv x.row) : OPlan O' ((Is.set (2 * k) F).set (2 * k + 1) R) v (p.set k x) := by
  refine ⟨by simp [hil], _, by simpa using hO, fun i hi => ?_⟩
  have hi' : i < p.length := by simpa using hi
  rw [List.getElem_set]
  split
  · rename_i h1
    subst h1
    exact OAt.ofSet hF hR (by omega) (by omega)
  · rename_i h1
    obtain ⟨fv', rv', F', R', g1, g2, g3, g4, g5⟩ := hat i hi'
    refine ⟨fv', rv', F', R', fun j u hj => ?_, ?_, ?_, g4, g5⟩
    · have : j < 3 := (List.getElem?_eq_some_iff.1 hj).1
      rw [splice_get (by simp only [List.length_cons, List.length_nil]; omega)]
      simp only [List.length_cons, List.length_nil]
      rcases Nat.lt_or_ge i k with h2 | h2
      · rw [if_pos (by omega)]; exact g1 j u hj
      · rw [if_neg (by omega), if_neg (by omega)]; exact g1 j u hj
    · rw [List.getElem?_set, if_neg (by omega), List.getElem?_set, if_neg (by omega)]; exact g2
    · rw [List.getElem?_set, if_neg (by omega), List.getElem?_set, if_neg (by omega)]; exact g3

theorem run_bs_node' (k : Int) (a b : Option Addr) (n c m d : Nat) (W : World) : (Instr.buildSlice 23 1 #[(0, .agg #[.int .i64 k, .slice a n c, .slice b m d])]).run Try.prog W = .ok (.slice (some ⟨W.heap.size, 0, none⟩) 1 1) (W.alloc (.cells [.int .i64 k, .slice a n c, .slice b m d].toArray 32)) := by kernel_rfl
theorem run_bs_node {k : Int} {u v : Value} {n m : Nat} (hu : Sl u n) (hv : Sl v m) (W : World) : (Instr.buildSlice 23 1 #[(0, .agg [.int .i64 k, u, v].toArray)]).run Try.prog W = .ok (.slice (some ⟨W.heap.size, 0, none⟩) 1 1) (W.alloc (.cells [.int .i64 k, u, v].toArray 32)) := by
  obtain ⟨_, _, rfl, _⟩ := hu.form
  obtain ⟨_, _, rfl, _⟩ := hv.form
  exact run_bs_node' k _ _ _ _ _ _ W
theorem run_bs_node0 (W : World) : (Instr.buildSlice 23 0 #[]).run Try.prog W = .ok (.slice (some ⟨W.heap.size, 0, none⟩) 0 0) (W.alloc (.cells ([] : List Value).toArray 32)) := by kernel_rfl
theorem run_build_from' (k : Int) (a : Option Addr) (n c : Nat) (W : World) : (Instr.build 32 #[(0, .int .i64 k), (1, .slice a n c)]).run Try.prog W = .ok (.agg [.int .i64 k, .slice a n c, .slice none 0 0].toArray) W := by kernel_rfl
theorem run_build_from {k : Int} {u : Value} {n : Nat} (hu : Sl u n) (W : World) : (Instr.build 32 #[(0, .int .i64 k), (1, u)]).run Try.prog W = .ok (.agg [.int .i64 k, u, .slice none 0 0].toArray) W := by
  obtain ⟨_, _, rfl, _⟩ := hu.form
  exact run_build_from' k _ _ _ W
theorem run_build_row' (k : Int) (a : Option Addr) (n c : Nat) (W : World) : (Instr.build 32 #[(0, .int .i64 k), (2, .slice a n c)]).run Try.prog W = .ok (.agg [.int .i64 k, .slice none 0 0, .slice a n c].toArray) W := by kernel_rfl
theorem run_build_row {k : Int} {u : Value} {n : Nat} (hu : Sl u n) (W : World) : (Instr.build 32 #[(0, .int .i64 k), (2, u)]).run Try.prog W = .ok (.agg [.int .i64 k, .slice none 0 0, u].toArray) W := by
  obtain ⟨_, _, rfl, _⟩ := hu.form
  exact run_build_row' k _ _ _ W

theorem H.addFR {A F R O : Heaplet} {Is : List Heaplet} (hH : H w h (A :: F :: R :: O :: (Is ++ Ls))) : H w h (A :: O :: ((Is ++ [F, R]) ++ Ls)) := by
  refine hH.perm (.cons _ ?_)
  have h2 : (F :: R :: O :: (Is ++ Ls)).Perm (O :: ([F, R] ++ (Is ++ Ls))) := by
    have : ([F, R] ++ O :: (Is ++ Ls)).Perm (O :: ([F, R] ++ (Is ++ Ls))) := List.perm_middle
    simpa using this
  have h3 : ([F, R] ++ (Is ++ Ls)).Perm ((Is ++ [F, R]) ++ Ls) := by
    rw [← List.append_assoc]
    exact List.perm_append_comm.append_right Ls
  exact h2.trans (.cons _ h3)
/-- Two lists take the places of two others. -/
theorem H.setFR {A F R O : Heaplet} {Is : List Heaplet} {k : Nat} (hH : H w h (F :: R :: A :: O :: (Is ++ Ls))) (hk : 2 * k + 1 < Is.length) : H w h (A :: O :: (((Is.set (2 * k) F).set (2 * k + 1) R) ++ Ls)) := by
  have h1 := hH.inPlace (2 * k + 3) (Y := Is[2 * k]) (by
    rw [show 2 * k + 3 = (2 * k) + 1 + 1 + 1 by omega]
    simp only [List.getElem?_cons_succ]
    rw [List.getElem?_append_left (by omega), List.getElem?_eq_getElem])
  rw [show 2 * k + 3 = (2 * k) + 1 + 1 + 1 by omega] at h1
  simp only [List.set_cons_succ] at h1
  rw [List.set_append_left _ _ (by omega)] at h1
  have h2 := h1.inPlace (2 * k + 3) (Y := Is[2 * k + 1]) (by
    rw [show 2 * k + 3 = (2 * k + 1) + 1 + 1 by omega]
    simp only [List.getElem?_cons_succ]
    rw [List.getElem?_append_left (by simp; omega), List.getElem?_set, if_neg (by omega), List.getElem?_eq_getElem])
  rw [show 2 * k + 3 = (2 * k + 1) + 1 + 1 by omega] at h2
  simp only [List.set_cons_succ] at h2
  rwa [List.set_append_left _ _ (by simp; omega)] at h2

theorem l91Plan_ok {g : Nat} {bv : Value} {p0 : Nat} {bs : List Int} (hH : H w h (rdr g bv p0 :: Ls)) (hB : Bytes h bv bs) (hp : p0 ≤ 100000) :
    Rets Try.prog 36 #[.pointer (some ⟨g, 0, none⟩)] w fun v w' => ∃ p O Is p', OPlan O Is v p ∧ p.length ≤ 11 ∧ p' ≤ p0 + 4000 ∧ H w' h (rdr g bv p' :: O :: (Is ++ Ls)) := by
  refine rets_enter Try.func36 rfl Try.ntmps36 (by simp) ?_
  refine WT_seq ?_
  refine WT_region ?_
  refine WL_v rfl (ov_assign rfl) ?_
  refine WL_nil ?_
  refine WT_seq ?_
  refine WT_region ?_
  refine WL_buildSlice (sz := 3) (parts := []) (vs := []) [] rfl hH rfl run_bs_node0 rfl (by omega) ?_; rintro O0 ov0 w1 hO0 hH1
  refine WL_v rfl (ov_assign rfl) ?_
  refine WL_nil ?_
  refine WT_seq ?_
  refine WT_region ?_
  refine WL_v rfl (ov_move rfl) ?_
  refine WL_call rfl rfl cf_p_spec_l6Rd_pick (pick_ok (hH1.pull 1 rfl) hB (by omega) 4) ?_; rintro _ w2 ⟨wd, rfl, hwd, hH2⟩
  refine WL_v rfl (ov_assign rfl) ?_
  refine WL_nil ?_
  refine WT_seq ?_
  refine WT_region ?_
  refine WL_v rfl (ov_move rfl) ?_
  refine WL_call rfl rfl cf_p_spec_l6Rd_pick (pick_ok hH2 hB (by omega) 8) ?_; rintro _ w3 ⟨r1, rfl, hr1, hH3⟩
  refine WL_v rfl (ov_add rfl rfl (by have := hr1.1 (by omega); omega)) ?_
  refine WL_v rfl (ov_assign rfl) ?_
  refine WL_nil ?_
  refine WT_seq ?_
  refine WT_seq ?_
  refine WT_region ?_
  refine WL_v rfl (ov_move rfl) ?_
  refine WL_call rfl rfl cf_p_spec_l6Rd_pick (pick_ok hH3 hB (by omega) 16) ?_; rintro _ w4 ⟨r2, rfl, hr2, hH4⟩
  refine WL_v rfl (ov_eql rfl rfl) ?_
  refine WL_nil ?_
  have hwd4 := hwd.1 (by omega)
  have hr18 := hr1.1 (by omega)
  refine WT_join (ι := Nat) (fun n => [(0, .pointer (some ⟨g, 0, none⟩)), (3, ov0), (4, .int .i64 (wd : Int)), (5, .int .i64 (n : Int))]) (fun n w => n ≤ 11 ∧ ∃ p', p' ≤ p0 + 10 ∧ H w h (rdr g bv p' :: O0 :: Ls)) (fun joined => ?_) ?_
  · skip
    refine WT_cond rfl (fun h0 => ?_) (fun h0 => ?_)
    · skip
      first | with_reducible replace h0 := of_decide_eq_true h0 | with_reducible replace h0 := bn_T h0 | with_reducible replace h0 := bb_T h0 | skip
      refine WT_region ?_
      refine WL_bsIN [0, 10, 11] rfl hH4 rfl (run_bs_int3 _ _ _) rfl (by omega) ?_; rintro Y yv w5 hY hH5
      refine WL_v rfl (ov_move rfl) ?_
      refine WL_call rfl rfl cf_p_spec_l6Rd_pick (pick_ok (hH5.pull 1 rfl) hB (by omega) 3) ?_; rintro _ w6 ⟨r3, rfl, hr3, hH6⟩
      have hr33 := hr3.1 (by omega)
      obtain ⟨m, hm, hm2⟩ : ∃ m : Nat, m ≤ 11 ∧ ([0, 10, 11] : List Int)[r3]'(by simp only [List.length_cons, List.length_nil]; omega) = (m : Int) := pick_of (P := fun a => ∃ m : Nat, m ≤ 11 ∧ a = (m : Int)) (by simp only [List.length_cons, List.length_nil]; omega) (by
        intro a ha
        simp only [List.mem_cons, List.not_mem_nil, or_false] at ha
        rcases ha with rfl | rfl | rfl
        · exact ⟨0, by omega, rfl⟩
        · exact ⟨10, by omega, rfl⟩
        · exact ⟨11, by omega, rfl⟩)
      refine WL_v rfl (ov_index rfl rfl st_sl_int hY.sl (by simp only [List.length_cons, List.length_nil]; omega)) ?_
      refine WL_v rfl (ov_load rfl one_int (hY.cell hH6 (i := 1) rfl (by simp only [List.length_cons, List.length_nil]; omega))) ?_; rw [hm2]
      refine WL_v rfl (ov_assign rfl) ?_
      refine WL_nil ?_
      exact joined m _ _ (by repeat (first | exact trivial | refine ⟨rfl, ?_⟩)) ⟨hm, _, by omega, hH6.del 1 rfl⟩
    first | with_reducible replace h0 := of_decide_eq_false h0 | with_reducible replace h0 := bn_F h0 | with_reducible replace h0 := bb_F h0 | skip
    refine WT_skip ?_
    exact joined (1 + r1) _ _ ⟨rfl, rfl, rfl, by rw [show ((1 + r1 : Nat) : Int) = 1 + (r1 : Int) by omega]; rfl, trivial⟩ ⟨by omega, _, by omega, hH4⟩
  clear hH hH1 hH2 hH3 hH4
  rintro n w5 ⟨hn, p1, hp1, hH5⟩
  refine WT_seq ?_
  refine WT_seq ?_
  refine WT_region ?_
  refine WL_v rfl (ov_assign rfl) ?_
  refine WL_nil ?_
  refine WT_block ?_
  refine WT_while (fun s : Nat × Value => [(0, .pointer (some ⟨g, 0, none⟩)), (3, s.2), (4, .int .i64 (wd : Int)), (5, .int .i64 (n : Int)), (6, .int .i64 (s.1 : Int))]) (fun s w => s.1 ≤ n ∧ ∃ p O Is p', OPlan O Is s.2 p ∧ p.length = s.1 ∧ p' ≤ p0 + 10 + 200 * s.1 ∧ H w h (rdr g bv p' :: O :: (Is ++ Ls))) (fun s => n - s.1) (0, ov0) (by repeat (first | exact trivial | refine ⟨rfl, ?_⟩)) ⟨by omega, [], O0, [], p1, ⟨rfl, [], hO0, by simp⟩, rfl, by simp only; omega, hH5⟩ ?_
  clear hH5 hO0
  rintro ⟨k, ov⟩ w6 ⟨hk, p, O, Is, p2, hO, hpl, hp2, hH6⟩ again
  simp only at hk hpl hp2 hO
  refine WT_seq ?_
  refine WT_seq ?_
  refine WT_region ?_
  refine WL_v rfl (ov_move rfl) ?_
  refine WL_v rfl (ov_move rfl) ?_
  refine WL_v rfl (ov_lss rfl rfl) ?_
  refine WL_nil ?_
  refine WT_cond rfl (fun hc => ?_) (fun hc => ?_)
  · skip
    first | with_reducible replace hc := of_decide_eq_true hc | with_reducible replace hc := bn_T hc | with_reducible replace hc := bb_T hc | skip
    simp only at hc
    have hkn : k < n := by omega
    obtain ⟨hil, xs, hR3, hat⟩ := hO
    refine WT_skip ?_
    refine WT_seq ?_
    refine WT_block ?_
    refine WT_region ?_
    refine WL_v rfl (ov_move rfl) ?_
    refine WL_v rfl (ov_move rfl) ?_
    refine WL_v rfl (ov_move rfl) ?_
    refine WL_v rfl (ov_move rfl) ?_
    refine WL_call rfl rfl cf_spec_l91Node (l91Node_ok hH6 hB (by omega) k wd (by omega)) ?_; rintro _ w7 ⟨x, F, R, p3, ⟨fv, rv, rfl, hF, hR⟩, hp3, hH7⟩
    refine WL_buildSlice (sz := 3) [.int .i64 x.kind, fv, rv] rfl hH7 rfl (run_bs_node hF.sl hR.sl) rfl (by omega) ?_; rintro Y yv w8 hY hH8
    refine WL_append1 (i := 4) (j := 0) (n := p.length) (m := 1) rfl hH8 rfl rfl st_sl_impl_Node (by omega) rfl hR3 rfl hY (ones_cons rfl (ones_cons hF.sl.one (ones_cons hR.sl.one ones_nil))) (by omega) (by omega) ?_; rintro O2 ov2 w9 hO2 hH9
    refine WL_v rfl (ov_assign rfl) ?_
    refine WL_nil ?_
    refine WT_inBlock ?_
    refine WT_region ?_
    refine WL_v rfl (ov_move rfl) ?_
    refine WL_v rfl (ov_add rfl rfl (by omega)) ?_
    refine WL_v rfl (ov_assign rfl) ?_
    refine WL_nil ?_
    refine again (k + 1, ov2) _ _ (by simp only; omega) (by repeat (first | exact trivial | refine ⟨rfl, ?_⟩)) ⟨by simp only; omega, p ++ [x], O2, Is ++ [F, R], p3, OPlan.snoc hil hR3.len hat hO2 hF hR, by simp [hpl], by simp only; omega, H.addFR hH9.drop⟩
  first | with_reducible replace hc := of_decide_eq_false hc | with_reducible replace hc := bn_F hc | with_reducible replace hc := bb_F hc | skip
  simp only at hc
  obtain rfl : k = n := by omega
  refine WT_exit rfl ?_
  refine WT_seq ?_
  refine WT_seq ?_
  refine WT_region ?_
  refine WL_v rfl (ov_move rfl) ?_
  refine WL_v rfl (ov_gtr rfl rfl) ?_
  refine WL_nil ?_
  refine WT_cond rfl (fun hn1 => ?_) (fun hn1 => ?_)
  · skip
    first | with_reducible replace hn1 := of_decide_eq_true hn1 | with_reducible replace hn1 := bn_T hn1 | with_reducible replace hn1 := bb_T hn1 | skip
    obtain ⟨hil, xs, hR3, hat⟩ := hO
    have hxl := hR3.len
    have ho1 : ∀ {a b c : Value}, (k - 1) * 3 + [a, b, c].length ≤ xs.length := by intro a b c; simp only [List.length_cons, List.length_nil]; omega
    have hkm : ((k - 1 : Nat) : Int) = (k : Int) - 1 := by omega
    refine WT_seq ?_
    refine WT_region ?_
    refine WL_v rfl (ov_move rfl) ?_
    refine WL_call rfl rfl cf_p_spec_l6Rd_pick (pick_ok hH6 hB (by omega) 40) ?_; rintro _ w7 ⟨r3, rfl, hr3, hH7⟩
    refine WL_nil ?_
    refine WT_block ?_
    refine WT_seq ?_
    refine WT_region ?_
    refine WL_v rfl (ov_eql rfl rfl) ?_
    refine WL_v rfl (ov_assign rfl) ?_
    refine WL_nil ?_
    refine WT_cond rfl (fun h0 => ?_) (fun h0 => ?_)
    · skip
      first | with_reducible replace h0 := of_decide_eq_true h0 | with_reducible replace h0 := bn_T h0 | with_reducible replace h0 := bb_T h0 | skip
      refine WT_region ?_
      refine WL_v rfl (ov_move rfl) ?_
      refine WL_v rfl (ov_move rfl) ?_
      refine WL_v rfl (ov_as (ov_sub rfl rfl (by omega)) (congrArg (Value.int .i64) (hkm.symm))) ?_
      refine WL_v rfl (ov_move rfl) ?_
      refine WL_v rfl (ov_as (ov_sub rfl rfl (by omega)) (congrArg (Value.int .i64) (hkm.symm))) ?_
      refine WL_bsI rfl hH7 rfl (run_bs_int _) ?_; rintro F fv w8 hF hH8
      refine WL_v rfl (ov_build rfl (run_build_from hF.sl)) ?_
      refine WL_v rfl (ov_index rfl rfl st_sl_impl_Node hR3.sl (i := k - 1) (by omega)) ?_
      refine WL_storeRowN hH8 rfl rfl (i := 2) rfl hR3 ho1 (by simp) (ones_cons rfl (ones_cons hF.sl.one (ones_cons rfl ones_nil))) sz_impl_Node ?_; rintro O2 w9 hO2 hH9
      refine WL_nil ?_
      refine WT_inBlock ?_
      refine WT_seq ?_
      refine WT_region ?_
      refine WL_v rfl (ov_move rfl) ?_
      refine WL_v rfl (ov_assign rfl) ?_
      refine WL_nil ?_
      exact WT_ret1 Try.func36 Try.results36 rfl ⟨_, O2, _, _, OPlan.set (k := k - 1) (x := ⟨4, [((k - 1 : Nat) : Int)], []⟩) (by omega) hil hxl hat hO2 hF (IRow.nil _), by simp; omega, by omega, H.setFR (hH9.nilIn.swap) (by omega)⟩
    first | with_reducible replace h0 := of_decide_eq_false h0 | with_reducible replace h0 := bn_F h0 | with_reducible replace h0 := bb_F h0 | skip
    refine WT_seq ?_
    refine WT_region ?_
    refine WL_v rfl (ov_eql rfl rfl) ?_
    refine WL_v rfl (ov_assign rfl) ?_
    refine WL_nil ?_
    refine WT_cond rfl (fun h1 => ?_) (fun h1 => ?_)
    · skip
      first | with_reducible replace h1 := of_decide_eq_true h1 | with_reducible replace h1 := bn_T h1 | with_reducible replace h1 := bb_T h1 | skip
      refine WT_region ?_
      refine WL_v rfl (ov_move rfl) ?_
      refine WL_v rfl (ov_move rfl) ?_
      refine WL_v rfl (ov_as (ov_sub rfl rfl (by omega)) (congrArg (Value.int .i64) (hkm.symm))) ?_
      refine WL_v rfl (ov_move rfl) ?_
      refine WL_v rfl (ov_move rfl) ?_
      refine WL_v rfl (ov_as (ov_add rfl rfl (by omega)) (congrArg (Value.int .i64) ((show (wd : Int) + 1 = ((wd + 1 : Nat) : Int) by omega)))) ?_
      refine WL_call rfl rfl cf_spec_l91Row (l91Row_ok hH7 hB (by omega) (wd + 1) (by omega)) ?_; rintro rv w8 ⟨R, r, p3, hR, hrl, hp3, hH8⟩
      refine WL_v rfl (ov_build rfl (run_build_row hR.sl)) ?_
      refine WL_v rfl (ov_index rfl rfl st_sl_impl_Node hR3.sl (i := k - 1) (by omega)) ?_
      refine WL_storeRowN hH8 rfl rfl (i := 2) rfl hR3 ho1 (by simp) (ones_cons rfl (ones_cons rfl (ones_cons hR.sl.one ones_nil))) sz_impl_Node ?_; rintro O2 w9 hO2 hH9
      refine WL_nil ?_
      refine WT_inBlock ?_
      refine WT_seq ?_
      refine WT_region ?_
      refine WL_v rfl (ov_move rfl) ?_
      refine WL_v rfl (ov_assign rfl) ?_
      refine WL_nil ?_
      exact WT_ret1 Try.func36 Try.results36 rfl ⟨_, O2, _, _, OPlan.set (k := k - 1) (x := ⟨0, [], r⟩) (by omega) hil hxl hat hO2 (IRow.nil _) hR, by simp; omega, by omega, H.setFR (hH9.nilIn) (by omega)⟩
    first | with_reducible replace h1 := of_decide_eq_false h1 | with_reducible replace h1 := bn_F h1 | with_reducible replace h1 := bb_F h1 | skip
    refine WT_skip ?_
    refine WT_inBlock ?_
    refine WT_seq ?_
    refine WT_region ?_
    refine WL_v rfl (ov_move rfl) ?_
    refine WL_v rfl (ov_assign rfl) ?_
    refine WL_nil ?_
    exact WT_ret1 Try.func36 Try.results36 rfl ⟨p, O, Is, _, ⟨hil, xs, hR3, hat⟩, by omega, by omega, hH7⟩
  first | with_reducible replace hn1 := of_decide_eq_false hn1 | with_reducible replace hn1 := bn_F hn1 | with_reducible replace hn1 := bb_F hn1 | skip
  refine WT_skip ?_
  refine WT_seq ?_
  refine WT_region ?_
  refine WL_v rfl (ov_move rfl) ?_
  refine WL_v rfl (ov_assign rfl) ?_
  refine WL_nil ?_
  exact WT_ret1 Try.func36 Try.results36 rfl ⟨p, O, Is, p2, hO, by omega, by omega, hH6⟩

/-- A drawn plan, shared. -/
def Drew (h : GH) (Ls : List Heaplet) (v : Value) (w' : World) : Prop := ∃ h' p, h.Le h' ∧ Plan h' v p ∧ p.length ≤ 11 ∧ H w' h' Ls

theorem drew_of {g : Nat} {bv : Value} {p' : Nat} {O : Heaplet} {Is : List Heaplet} {v : Value} {p : List Nd} (hO : OPlan O Is v p) (hl : p.length ≤ 11) (hH : H w h (rdr g bv p' :: O :: (Is ++ Ls))) : Drew h Ls v w := by
  obtain ⟨h', hle, hH2, hP, _⟩ := hO.freeze hH.drop
  exact ⟨h', p, hle, hP, hl, hH2⟩

end
end Go.Proofs.Ytafljegjdanldaa

/- Walks: places given by the reference, plans and places drawn. -/
namespace Go.Proofs.Ytafljegjdanldaa
open Go.RowKit

section
variable {h : GH} {Ls : List Heaplet} {w : World}

theorem l3Has_ok (hH : H w h Ls) {av : Value} {xs : List Int} (hA : RdL h Ls av xs) (n : Int) : Rets Try.prog 62 #[av, .int .i64 n] w fun v w' => v = .bool (decide (n ∈ xs)) ∧ H w' h Ls := by
  have hal := hA.sl.lim
  refine rets_enter Try.func62 rfl Try.ntmps62 (by simp) ?_
  refine WT_seq ?_
  refine WT_region ?_
  refine WL_v rfl (ov_assign rfl) ?_
  refine WL_nil ?_
  refine WT_seq ?_
  refine WT_seq ?_
  refine WT_region ?_
  refine WL_v rfl (ov_assign rfl) ?_
  refine WL_nil ?_
  refine WT_block ?_
  refine WT_while (fun s : Nat => [(0, av), (1, .int .i64 n), (5, .int .i64 (s : Int))]) (fun k w => k ≤ xs.length ∧ (∀ j (_ : j < k) (h1 : j < xs.length), xs[j] ≠ n) ∧ H w h Ls) (fun k => xs.length - k) 0 (by repeat (first | exact trivial | refine ⟨rfl, ?_⟩)) ⟨by omega, by omega, hH⟩ ?_
  clear hH
  rintro k w2 ⟨hk, hall, hH1⟩ again
  refine WT_seq ?_
  refine WT_seq ?_
  refine WT_region ?_
  refine WL_v rfl (ov_move rfl) ?_
  refine WL_v rfl (ov_move rfl) ?_
  refine WL_v rfl (ov_len rfl hA.sl st_sl_int) ?_
  refine WL_v rfl (ov_lss rfl rfl) ?_
  refine WL_nil ?_
  refine WT_cond rfl (fun hc => ?_) (fun hc => ?_)
  · skip
    first | with_reducible replace hc := of_decide_eq_true hc | with_reducible replace hc := bn_T hc | with_reducible replace hc := bb_T hc | skip
    have hkx : k < xs.length := by omega
    refine WT_skip ?_
    refine WT_seq ?_
    refine WT_block ?_
    refine WT_seq ?_
    refine WT_region ?_
    refine WL_v rfl (ov_move rfl) ?_
    refine WL_v rfl (ov_move rfl) ?_
    refine WL_v rfl (ov_index rfl rfl st_sl_int hA.sl hkx) ?_
    refine WL_v rfl (ov_load rfl one_int (hA.cell hH1 hkx)) ?_
    refine WL_v rfl (ov_move rfl) ?_
    refine WL_v rfl (ov_eql rfl rfl) ?_
    refine WL_nil ?_
    refine WT_cond rfl (fun heq => ?_) (fun heq => ?_)
    · skip
      first | with_reducible replace heq := of_decide_eq_true heq | with_reducible replace heq := bn_T heq | with_reducible replace heq := bb_T heq | skip
      refine WT_seq ?_
      refine WT_region ?_
      refine WL_v rfl (ov_assign rfl) ?_
      refine WL_nil ?_
      exact WT_ret1 Try.func62 Try.results62 rfl ⟨congrArg Value.bool (decide_eq_true (heq ▸ List.getElem_mem hkx)).symm, hH1⟩
    first | with_reducible replace heq := of_decide_eq_false heq | with_reducible replace heq := bn_F heq | with_reducible replace heq := bb_F heq | skip
    refine WT_skip ?_
    refine WT_inBlock ?_
    refine WT_region ?_
    refine WL_v rfl (ov_move rfl) ?_
    refine WL_v rfl (ov_add rfl rfl (by omega)) ?_
    refine WL_v rfl (ov_assign rfl) ?_
    refine WL_nil ?_
    refine again (k + 1) _ _ (by omega) (by repeat (first | exact trivial | refine ⟨rfl, ?_⟩)) ⟨by omega, fun j hj h1 => ?_, hH1⟩
    rcases Nat.lt_or_ge j k with h3 | h3
    · exact hall j h3 h1
    · obtain rfl : j = k := by omega
      exact heq
  first | with_reducible replace hc := of_decide_eq_false hc | with_reducible replace hc := bn_F hc | with_reducible replace hc := bb_F hc | skip
  obtain rfl : k = xs.length := by omega
  refine WT_exit rfl ?_
  refine WT_seq ?_
  refine WT_region ?_
  refine WL_v rfl (ov_assign rfl) ?_
  refine WL_nil ?_
  exact WT_ret1 Try.func62 Try.results62 rfl ⟨congrArg Value.bool (decide_eq_false fun hm => by obtain ⟨j, hj, he⟩ := List.mem_iff_getElem.1 hm; exact hall j hj hj he).symm, hH1⟩

theorem sBufferGive_ok (hH : H w h Ls) {pv : Value} {p : List Nd} (hP : Plan h pv p) (hl : p.length ≤ 1000000000) : Rets Try.prog 37 #[pv] w fun v w' => ∃ X, IRow X 3 v (giveOf p) ∧ H w' h (X :: Ls) := by
  refine rets_enter Try.func37 rfl Try.ntmps37 (by simp) ?_
  refine WT_seq ?_
  refine WT_region ?_
  refine WL_v rfl (ov_assign rfl) ?_
  refine WL_nil ?_
  refine WT_seq ?_
  refine WT_region ?_
  refine WL_bsI0 rfl hH run_bs_int0 ?_; rintro X0 ov0 w1 hX0 hH1
  refine WL_v rfl (ov_assign rfl) ?_
  refine WL_nil ?_
  refine WT_seq ?_
  refine WT_seq ?_
  refine WT_region ?_
  refine WL_v rfl (ov_move rfl) ?_
  refine WL_call rfl rfl cf_spec_PlanValid (sPlanValid_ok hH1 hP hl) ?_; rintro _ w2 ⟨rfl, hH2⟩
  refine WL_v rfl (ov_not rfl) ?_
  refine WL_nil ?_
  refine WT_cond rfl (fun hv => ?_) (fun hv => ?_)
  · skip
    first | with_reducible replace hv := of_decide_eq_true hv | with_reducible replace hv := bn_T hv | with_reducible replace hv := bb_T hv | skip
    refine WT_seq ?_
    refine WT_region ?_
    refine WL_v rfl (ov_move rfl) ?_
    refine WL_v rfl (ov_assign rfl) ?_
    refine WL_nil ?_
    exact WT_ret1 Try.func37 Try.results37 rfl ⟨X0, by unfold giveOf; rw [hv]; exact hX0, hH2⟩
  first | with_reducible replace hv := of_decide_eq_false hv | with_reducible replace hv := bn_F hv | with_reducible replace hv := bb_F hv | skip
  have hlen := PlanOk.len hv
  have hel := endsTo_len p p.length
  refine WT_skip ?_
  refine WT_seq ?_
  refine WT_region ?_
  refine WL_v rfl (ov_move rfl) ?_
  refine WL_call rfl rfl cf_spec_l32Ends (l32Ends_ok hH2 hP hv) ?_; rintro ev w3 ⟨EX, hEX, hH3⟩
  refine WL_v rfl (ov_assign rfl) ?_
  refine WL_nil ?_
  refine WT_seq ?_
  refine WT_seq ?_
  refine WT_region ?_
  refine WL_v rfl (ov_assign rfl) ?_
  refine WL_nil ?_
  refine WT_block ?_
  generalize hE : endsTo p p.length = E at hEX hel
  refine WT_while (fun s : Nat × Value => [(0, pv), (3, s.2), (4, ev), (5, .int .i64 (s.1 : Int))]) (fun s w => s.1 ≤ p.length ∧ ∃ X, IRow X 3 s.2 (giveTo E s.1) ∧ H w h (X :: EX :: Ls)) (fun s => p.length - s.1) (0, ov0) (by repeat (first | exact trivial | refine ⟨rfl, ?_⟩)) ⟨by omega, X0, hX0, hH3.swap⟩ ?_
  clear hH hH1 hH2 hH3 hX0
  rintro ⟨k, ov⟩ w4 ⟨hk, X, hX, hH⟩ again
  simp only at hk hX
  refine WT_seq ?_
  refine WT_seq ?_
  refine WT_region ?_
  refine WL_v rfl (ov_move rfl) ?_
  refine WL_v rfl (ov_move rfl) ?_
  refine WL_v rfl (ov_len rfl hP.sl st_sl_impl_Node) ?_
  refine WL_v rfl (ov_lss rfl rfl) ?_
  refine WL_nil ?_
  refine WT_cond rfl (fun hc => ?_) (fun hc => ?_)
  · skip
    first | with_reducible replace hc := of_decide_eq_true hc | with_reducible replace hc := bn_T hc | with_reducible replace hc := bb_T hc | skip
    simp only at hc
    have hkp : k < p.length := by omega
    have hgl := giveTo_len E k
    refine WT_skip ?_
    refine WT_seq ?_
    refine WT_block ?_
    refine WT_seq ?_
    refine WT_region ?_
    refine WL_bsI0 rfl hH run_bs_int0 ?_; rintro T0 tv0 w5 hT0 hH5
    refine WL_v rfl (ov_assign rfl) ?_
    refine WL_nil ?_
    refine WT_seq ?_
    refine WT_seq ?_
    refine WT_region ?_
    refine WL_v rfl (ov_assign rfl) ?_
    refine WL_nil ?_
    refine WT_block ?_
    refine WT_while (fun s : Nat × Value => [(0, pv), (3, ov), (4, ev), (5, .int .i64 (k : Int)), (6, s.2), (7, .int .i64 (s.1 : Int))]) (fun s w => s.1 ≤ k ∧ ∃ T, IRow T 3 s.2 (takenTo E (giveTo E k) k s.1) ∧ H w h (T :: X :: EX :: Ls)) (fun s => k - s.1) (0, tv0) (by repeat (first | exact trivial | refine ⟨rfl, ?_⟩)) ⟨by omega, T0, hT0, hH5⟩ ?_
    clear hH hH5 hT0
    rintro ⟨j, tv⟩ w6 ⟨hj, T, hT, hH⟩ again2
    simp only at hj hT
    have htl := takenTo_len E (giveTo E k) k j
    have hlr := live_rg E k j
    refine WT_seq ?_
    refine WT_seq ?_
    refine WT_region ?_
    refine WL_v rfl (ov_move rfl) ?_
    refine WL_v rfl (ov_move rfl) ?_
    refine WL_v rfl (ov_lss rfl rfl) ?_
    refine WL_nil ?_
    refine WT_cond rfl (fun hc2 => ?_) (fun hc2 => ?_)
    · skip
      first | with_reducible replace hc2 := of_decide_eq_true hc2 | with_reducible replace hc2 := bn_T hc2 | with_reducible replace hc2 := bb_T hc2 | skip
      simp only at hc2
      have hjk : j < k := by omega
      have hje : j < E.length := by omega
      refine WT_skip ?_
      refine WT_seq ?_
      refine WT_block ?_
      refine WT_seq ?_
      refine WT_region ?_
      refine WL_v rfl (ov_move rfl) ?_
      refine WL_v rfl (ov_move rfl) ?_
      refine WL_v rfl (ov_index rfl rfl st_sl_int hEX.sl hje) ?_
      refine WL_v rfl (ov_load rfl one_int (hEX.cell hH (i := 2) rfl hje)) ?_
      refine WL_v rfl (ov_move rfl) ?_
      refine WL_v rfl (ov_geq rfl rfl) ?_
      refine WL_nil ?_
      refine WT_cond rfl (fun hge => ?_) (fun hge => ?_)
      · skip
        first | with_reducible replace hge := of_decide_eq_true hge | with_reducible replace hge := bn_T hge | with_reducible replace hge := bb_T hge | skip
        have hjg : j < (giveTo E k).length := by omega
        refine WT_region ?_
        refine WL_v rfl (ov_move rfl) ?_
        refine WL_v rfl (ov_move rfl) ?_
        refine WL_v rfl (ov_move rfl) ?_
        refine WL_v rfl (ov_index rfl rfl st_sl_int hX.sl hjg) ?_
        refine WL_v rfl (ov_load rfl one_int (hX.cell hH (i := 1) rfl hjg)) ?_
        refine WL_bsI rfl hH rfl (run_bs_int _) ?_; rintro Y yv w7 hY hH7
        refine WL_appI (i := 1) (j := 0) rfl hH7 rfl rfl st_sl_int rfl hT rfl hY (by simp only [List.length_cons, List.length_nil]; omega) (by simp only [List.length_cons, List.length_nil]; omega) ?_; rintro T2 tv2 w8 hT2 hH8
        refine WL_v rfl (ov_assign rfl) ?_
        refine WL_nil ?_
        refine WT_inBlock ?_
        refine WT_region ?_
        refine WL_v rfl (ov_move rfl) ?_
        refine WL_v rfl (ov_add rfl rfl (by omega)) ?_
        refine WL_v rfl (ov_assign rfl) ?_
        refine WL_nil ?_
        refine again2 (j + 1, tv2) _ _ (by simp only; omega) (by repeat (first | exact trivial | refine ⟨rfl, ?_⟩)) ⟨by simp only; omega, T2, ?_, hH8.drop⟩
        rw [takenTo, getD_elem hje, if_pos hge, getD_elem hjg]
        exact hT2
      first | with_reducible replace hge := of_decide_eq_false hge | with_reducible replace hge := bn_F hge | with_reducible replace hge := bb_F hge | skip
      refine WT_skip ?_
      refine WT_inBlock ?_
      refine WT_region ?_
      refine WL_v rfl (ov_move rfl) ?_
      refine WL_v rfl (ov_add rfl rfl (by omega)) ?_
      refine WL_v rfl (ov_assign rfl) ?_
      refine WL_nil ?_
      refine again2 (j + 1, tv) _ _ (by simp only; omega) (by repeat (first | exact trivial | refine ⟨rfl, ?_⟩)) ⟨by simp only; omega, T, ?_, hH⟩
      rw [takenTo, getD_elem hje, if_neg hge, List.append_nil]
      exact hT
    first | with_reducible replace hc2 := of_decide_eq_false hc2 | with_reducible replace hc2 := bn_F hc2 | with_reducible replace hc2 := bb_F hc2 | skip
    simp only at hc2
    obtain rfl : j = k := by omega
    refine WT_exit rfl ?_
    refine WT_seq ?_
    refine WT_region ?_
    refine WL_v rfl (ov_assign rfl) ?_
    refine WL_nil ?_
    refine WT_seq ?_
    refine WT_block ?_
    refine WT_while (fun s : Nat => [(0, pv), (3, ov), (4, ev), (5, .int .i64 (j : Int)), (6, tv), (8, .int .i64 (s : Int))]) (fun s w => (∀ m, m < s → (m : Int) ∈ takenTo E (giveTo E j) j j) ∧ H w h (T :: X :: EX :: Ls)) (fun s => (takenTo E (giveTo E j) j j).length + 1 - s) 0 (by repeat (first | exact trivial | refine ⟨rfl, ?_⟩)) ⟨by omega, hH⟩ ?_
    clear hH
    rintro s w7 ⟨hall, hH⟩ again3
    have hsl := leFree_len hall
    refine WT_seq ?_
    refine WT_seq ?_
    refine WT_region ?_
    refine WL_v rfl (ov_move rfl) ?_
    refine WL_v rfl (ov_move rfl) ?_
    refine WL_call rfl rfl cf_spec_l3Has (l3Has_ok hH (hT.rdl (i := 0) rfl) (s : Int)) ?_; rintro _ w8 ⟨rfl, hH8⟩
    refine WL_nil ?_
    refine WT_cond rfl (fun hin => ?_) (fun hin => ?_)
    · skip
      first | with_reducible replace hin := of_decide_eq_true hin | with_reducible replace hin := bn_T hin | with_reducible replace hin := bb_T hin | skip
      refine WT_skip ?_
      refine WT_block ?_
      refine WT_region ?_
      refine WL_v rfl (ov_move rfl) ?_
      refine WL_v rfl (ov_add rfl rfl (by omega)) ?_
      refine WL_v rfl (ov_assign rfl) ?_
      refine WL_nil ?_
      refine WT_inBlock ?_
      refine again3 (s + 1) _ _ (by omega) (by repeat (first | exact trivial | refine ⟨rfl, ?_⟩)) ⟨fun m hm => ?_, hH8⟩
      rcases Nat.lt_or_ge m s with h1 | h1
      · exact hall m h1
      · obtain rfl : m = s := by omega
        exact hin
    first | with_reducible replace hin := of_decide_eq_false hin | with_reducible replace hin := bn_F hin | with_reducible replace hin := bb_F hin | skip
    have hs : s = leastFree (takenTo E (giveTo E j) j j) := IsLeast.uniq ⟨hin, hall⟩ (leastFree_spec _)
    refine WT_exit rfl ?_
    refine WT_region ?_
    refine WL_v rfl (ov_move rfl) ?_
    refine WL_v rfl (ov_move rfl) ?_
    refine WL_bsI rfl hH8 rfl (run_bs_int _) ?_; rintro Y yv w9 hY hH9
    refine WL_appI (i := 2) (j := 0) rfl hH9 rfl rfl st_sl_int rfl hX rfl hY (by simp only [List.length_cons, List.length_nil]; omega) (by simp only [List.length_cons, List.length_nil]; omega) ?_; rintro X2 ov2 w10 hX2 hH10
    refine WL_v rfl (ov_assign rfl) ?_
    refine WL_nil ?_
    refine WT_inBlock ?_
    refine WT_region ?_
    refine WL_v rfl (ov_move rfl) ?_
    refine WL_v rfl (ov_add rfl rfl (by omega)) ?_
    refine WL_v rfl (ov_assign rfl) ?_
    refine WL_nil ?_
    refine again (j + 1, ov2) _ _ (by simp only; omega) (by repeat (first | exact trivial | refine ⟨rfl, ?_⟩)) ⟨by simp only; omega, X2, by rw [giveTo, ← hs]; exact hX2, hH10.drop.drop⟩
  first | with_reducible replace hc := of_decide_eq_false hc | with_reducible replace hc := bn_F hc | with_reducible replace hc := bb_F hc | skip
  simp only at hc
  obtain rfl : k = p.length := by omega
  refine WT_exit rfl ?_
  refine WT_seq ?_
  refine WT_region ?_
  refine WL_v rfl (ov_move rfl) ?_
  refine WL_v rfl (ov_assign rfl) ?_
  refine WL_nil ?_
  exact WT_ret1 Try.func37 Try.results37 rfl ⟨X, by unfold giveOf; rw [if_pos hv, hE]; exact hX, hH.del 1 rfl⟩

/-- A drawn plan and a list, shared. -/
def DrewL (h : GH) (Ls : List Heaplet) (pv lv : Value) (w' : World) : Prop := ∃ h' p pl, h.Le h' ∧ Plan h' pv p ∧ p.length ≤ 11 ∧ Ints h' lv pl ∧ pl.length ≤ 20 ∧ H w' h' Ls

theorem IRow.freezeP {X : Heaplet} {e : TypeId} {v : Value} {xs : List Int} (hX : IRow X e v xs) (hH : H w h (X :: Ls)) :
    ∃ h', h.Le h' ∧ H w h' Ls ∧ Ints h' v xs := by
  obtain ⟨h', hle, hH2, hX2, hnd, _⟩ := H.freeze hH
  exact ⟨h', hle, hH2, hX.ints fun q hq => (hX2 q hq).1⟩

theorem giveOf_len (p : List Nd) : (giveOf p).length = if planOk p = true then p.length else 0 := by
  unfold giveOf
  split
  · exact giveTo_len _ _
  · rfl

theorem drawBufferFits_ok (hH : H w h Ls) {cv : Value} {bs : List Int} (hB : Bytes h cv bs) : Rets Try.prog 11 #[cv] w fun v w' => ∃ pv lv, v = .tuple #[pv, lv] ∧ DrewL h Ls pv lv w' := by
  refine rets_enter Try.func11 rfl Try.ntmps11 (by simp) ?_
  refine WT_seq ?_
  refine WT_region ?_
  refine WL_v rfl (ov_assign rfl) ?_
  refine WL_v rfl (ov_assign rfl) ?_
  refine WL_nil ?_
  refine WT_seq ?_
  refine WT_region ?_
  refine WL_v rfl (ov_move rfl) ?_
  refine WL_call rfl rfl cf_spec_l6Open (l6Open_ok hH hB) ?_; rintro _ w1 ⟨g, bv, bs', rfl, hB', hH1⟩
  refine WL_v rfl (ov_assign rfl) ?_
  refine WL_nil ?_
  refine WT_seq ?_
  refine WT_region ?_
  refine WL_v rfl (ov_move rfl) ?_
  refine WL_call rfl rfl cf_spec_l91Plan (l91Plan_ok hH1 hB' (by omega)) ?_; rintro pv w2 ⟨p, O, Is, p1, hO, hl, hp1, hH2⟩
  refine WL_v rfl (ov_assign rfl) ?_
  refine WL_nil ?_
  refine WT_seq ?_
  refine WT_region ?_
  refine WL_v rfl (ov_move rfl) ?_
  obtain ⟨h', hle, hH3, hP, _⟩ := hO.freeze (Ls := rdr g bv p1 :: Ls) (hH2.perm (by
    have := (List.perm_middle (a := rdr g bv p1) (l₁ := O :: Is) (l₂ := Ls)).symm
    simpa using this))
  have hBm := hB'.mono hle
  have hgl := giveOf_len p
  refine WL_call rfl rfl cf_spec_BufferGive (sBufferGive_ok hH3 hP (by omega)) ?_; rintro lv w4 ⟨X, hX, hH4⟩
  refine WL_v rfl (ov_assign rfl) ?_
  refine WL_nil ?_
  refine WT_seq ?_
  refine WT_seq ?_
  refine WT_region ?_
  refine WL_v rfl (ov_move rfl) ?_
  refine WL_v rfl (ov_len rfl hX.sl st_sl_int) ?_
  refine WL_v rfl (ov_gtr rfl rfl) ?_
  refine WL_nil ?_
  generalize giveOf p = G at hX hgl
  have hG : G.length ≤ 11 := by rw [hgl]; split <;> omega
  have fin : ∀ {w : World} {X : Heaplet} {G : List Int} {q : Nat}, IRow X 3 lv G → G.length ≤ 11 → H w h' (X :: rdr g bv q :: Ls) → DrewL h Ls pv lv w := fun hX hG hH => by
    obtain ⟨h2, hle2, hH5, hI⟩ := hX.freezeP hH
    exact ⟨h2, p, _, hle.trans hle2, hP.mono hle2, hl, hI, by omega, hH5.drop⟩
  refine WT_cond rfl (fun h0 => ?_) (fun h0 => ?_)
  · skip
    first | with_reducible replace h0 := of_decide_eq_true h0 | with_reducible replace h0 := bn_T h0 | with_reducible replace h0 := bb_T h0 | skip
    refine WT_seq ?_
    refine WT_region ?_
    refine WL_v rfl (ov_move rfl) ?_
    refine WL_call rfl rfl cf_p_spec_l6Rd_pick (pick_ok hH4.swap hBm (by omega) 4) ?_; rintro _ w5 ⟨r1, rfl, hr1, hH5⟩
    refine WL_nil ?_
    refine WT_block ?_
    refine WT_seq ?_
    refine WT_region ?_
    refine WL_v rfl (ov_eql rfl rfl) ?_
    refine WL_v rfl (ov_assign rfl) ?_
    refine WL_nil ?_
    refine WT_cond rfl (fun h1 => ?_) (fun h1 => ?_)
    · skip
      first | with_reducible replace h1 := of_decide_eq_true h1 | with_reducible replace h1 := bn_T h1 | with_reducible replace h1 := bb_T h1 | skip
      refine WT_region ?_
      refine WL_v rfl (ov_move rfl) ?_
      refine WL_v rfl (ov_move rfl) ?_
      refine WL_v rfl (ov_move rfl) ?_
      refine WL_v rfl (ov_len rfl hX.sl st_sl_int) ?_
      refine WL_call rfl rfl cf_p_spec_l6Rd_pick (pick_ok hH5 hBm (by omega) G.length) ?_; rintro _ w6 ⟨r2, rfl, hr2, hH6⟩
      refine WL_v rfl (ov_move rfl) ?_
      refine WL_call rfl rfl cf_p_spec_l6Rd_pick (pick_ok hH6 hBm (by omega) 4) ?_; rintro _ w7 ⟨r3, rfl, hr3, hH7⟩
      refine WL_v rfl (ov_index rfl rfl st_sl_int hX.sl (by have := hr2.1 (by omega); omega)) ?_
      refine WL_storeI hH7 rfl rfl (i := 1) rfl hX (by have := hr2.1 (by omega); omega) sz_int ?_; rintro X2 w8 hX2 hH8
      refine WL_nil ?_
      refine WT_inBlock ?_
      refine WT_seq ?_
      refine WT_region ?_
      refine WL_v rfl (ov_move rfl) ?_
      refine WL_v rfl (ov_move rfl) ?_
      refine WL_v rfl (ov_assign rfl) ?_
      refine WL_v rfl (ov_assign rfl) ?_
      refine WL_nil ?_
      exact WT_ret2 Try.func11 Try.results11 rfl rfl ⟨pv, lv, rfl, fin hX2 (by simpa using hG) hH8.swap⟩
    first | with_reducible replace h1 := of_decide_eq_false h1 | with_reducible replace h1 := bn_F h1 | with_reducible replace h1 := bb_F h1 | skip
    refine WT_seq ?_
    refine WT_region ?_
    refine WL_v rfl (ov_eql rfl rfl) ?_
    refine WL_v rfl (ov_assign rfl) ?_
    refine WL_nil ?_
    refine WT_cond rfl (fun h2 => ?_) (fun h2 => ?_)
    · skip
      first | with_reducible replace h2 := of_decide_eq_true h2 | with_reducible replace h2 := bn_T h2 | with_reducible replace h2 := bb_T h2 | skip
      refine WT_region ?_
      refine WL_v rfl (ov_move rfl) ?_
      refine WL_v rfl (ov_move rfl) ?_
      refine WL_v rfl (ov_len rfl hX.sl st_sl_int) ?_
      refine WL_v rfl (ov_as (ov_sub rfl rfl (by omega)) (congrArg (Value.int .i64) ((show (G.length : Int) - 1 = ((G.length - 1 : Nat) : Int) by omega)))) ?_
      refine WL_v rfl (ov_index rfl rfl st_sl_int hX.sl (by omega)) ?_
      refine WL_storeI hH5 rfl rfl (i := 1) rfl hX (by omega) sz_int ?_; rintro X2 w8 hX2 hH8
      refine WL_nil ?_
      refine WT_inBlock ?_
      refine WT_seq ?_
      refine WT_region ?_
      refine WL_v rfl (ov_move rfl) ?_
      refine WL_v rfl (ov_move rfl) ?_
      refine WL_v rfl (ov_assign rfl) ?_
      refine WL_v rfl (ov_assign rfl) ?_
      refine WL_nil ?_
      exact WT_ret2 Try.func11 Try.results11 rfl rfl ⟨pv, lv, rfl, fin hX2 (by simpa using hG) hH8.swap⟩
    first | with_reducible replace h2 := of_decide_eq_false h2 | with_reducible replace h2 := bn_F h2 | with_reducible replace h2 := bb_F h2 | skip
    refine WT_skip ?_
    refine WT_inBlock ?_
    refine WT_seq ?_
    refine WT_region ?_
    refine WL_v rfl (ov_move rfl) ?_
    refine WL_v rfl (ov_move rfl) ?_
    refine WL_v rfl (ov_assign rfl) ?_
    refine WL_v rfl (ov_assign rfl) ?_
    refine WL_nil ?_
    exact WT_ret2 Try.func11 Try.results11 rfl rfl ⟨pv, lv, rfl, fin hX hG hH5.swap⟩
  first | with_reducible replace h0 := of_decide_eq_false h0 | with_reducible replace h0 := bn_F h0 | with_reducible replace h0 := bb_F h0 | skip
  refine WT_skip ?_
  refine WT_seq ?_
  refine WT_region ?_
  refine WL_v rfl (ov_move rfl) ?_
  refine WL_v rfl (ov_move rfl) ?_
  refine WL_v rfl (ov_assign rfl) ?_
  refine WL_v rfl (ov_assign rfl) ?_
  refine WL_nil ?_
  exact WT_ret2 Try.func11 Try.results11 rfl rfl ⟨pv, lv, rfl, fin hX hG hH4⟩

end
end Go.Proofs.Ytafljegjdanldaa

/- Walks: whether places fit. -/
namespace Go.Proofs.Ytafljegjdanldaa
open Go.RowKit

section
variable {h : GH} {Ls : List Heaplet} {w : World}

theorem bufferFits_ok (hH : H w h Ls) {pv lv : Value} {p : List Nd} {pl : List Int} (hP : Plan h pv p) (hL : Ints h lv pl) : Rets Try.prog 12 #[pv, lv] w fun v w' => v = .bool (fitsPl p pl) ∧ H w' h Ls := by
  have hal := hL.sl.lim
  have hpl := hP.sl.lim
  refine rets_enter Try.func12 rfl Try.ntmps12 (by simp) ?_
  by_cases hv : planOk p = true
  case neg =>
    have hv' : planOk p = false := by simpa using hv
    refine WT_seq ?_
    refine WT_region ?_
    refine WL_v rfl (ov_assign rfl) ?_
    refine WL_nil ?_
    refine WT_seq ?_
    refine WT_seq ?_
    refine WT_region ?_
    refine WL_v rfl (ov_move rfl) ?_
    refine WL_call rfl rfl cf_impl_PlanValid (planValid_ok hH hP) ?_; rintro _ w1 ⟨rfl, hH1⟩
    refine WL_v rfl (ov_T (ov_not rfl) (by first | exact decide_eq_true hv' | exact nb_T hv' | exact mb_T hv' | exact hv' | (simp only [decide_eq_true_eq]; omega) | simpa using hv')) ?_
    refine WL_v rfl (ov_move rfl) ?_
    refine WL_guardOff rfl rfl rfl rfl ?_
    refine WL_guardOff rfl rfl rfl rfl ?_
    refine WL_guardOff rfl rfl rfl rfl ?_
    refine WL_guardOff rfl rfl rfl rfl ?_
    refine WL_guardOff rfl rfl rfl rfl ?_
    refine WL_v rfl (ov_pickT rfl rfl) ?_
    refine WL_nil ?_
    refine WT_condT rfl ?_
    refine WT_seq ?_
    refine WT_region ?_
    refine WL_v rfl (ov_assign rfl) ?_
    refine WL_nil ?_
    exact WT_ret1 Try.func12 Try.results12 rfl ⟨congrArg Value.bool (by rw [fitsPl, hv', Bool.false_and]), hH1⟩
  have hlen := PlanOk.len hv
  have hel := endsTo_len p p.length
  refine WT_seq ?_
  refine WT_region ?_
  refine WL_v rfl (ov_assign rfl) ?_
  refine WL_nil ?_
  refine WT_seq ?_
  refine WT_seq ?_
  refine WT_region ?_
  refine WL_v rfl (ov_move rfl) ?_
  refine WL_call rfl rfl cf_impl_PlanValid (planValid_ok hH hP) ?_; rintro _ w1 ⟨rfl, hH1⟩
  refine WL_v rfl (ov_F (ov_not rfl) (by first | exact decide_eq_false hv | exact nb_F hv | exact mb_F hv | exact hv | (simp only [decide_eq_false_iff_not]; omega) | simpa using hv)) ?_
  refine WL_v rfl (ov_move rfl) ?_
  refine WL_guardOn rfl rfl ?_
  refine WL_v rfl (ov_move rfl) ?_
  refine WL_guardOn rfl rfl ?_
  refine WL_v rfl (ov_len rfl hL.sl st_sl_int) ?_
  refine WL_guardOn rfl rfl ?_
  refine WL_v rfl (ov_move rfl) ?_
  refine WL_guardOn rfl rfl ?_
  refine WL_v rfl (ov_len rfl hP.sl st_sl_impl_Node) ?_
  refine WL_guardOn rfl rfl ?_
  refine WL_v rfl (ov_neq rfl rfl) ?_
  refine WL_v rfl (ov_pickF rfl rfl) ?_
  refine WL_nil ?_
  refine WT_cond rfl (fun hne => ?_) (fun hne => ?_)
  · skip
    first | with_reducible replace hne := of_decide_eq_true hne | with_reducible replace hne := bn_T hne | with_reducible replace hne := bb_T hne | skip
    refine WT_seq ?_
    refine WT_region ?_
    refine WL_v rfl (ov_assign rfl) ?_
    refine WL_nil ?_
    exact WT_ret1 Try.func12 Try.results12 rfl ⟨congrArg Value.bool (by rw [fitsPl, decide_eq_false (fun h2 => hne (by rw [h2.1])), Bool.and_false]), hH1⟩
  first | with_reducible replace hne := of_decide_eq_false hne | with_reducible replace hne := bn_F hne | with_reducible replace hne := bb_F hne | skip
  have hne' : pl.length = p.length := by omega
  refine WT_skip ?_
  refine WT_seq ?_
  refine WT_region ?_
  refine WL_v rfl (ov_move rfl) ?_
  refine WL_call rfl rfl cf_impl_BufferEnds (bufferEnds_ok hH1 hP) ?_; rintro ev w2 ⟨X, hX, hH2⟩
  refine WL_v rfl (ov_assign rfl) ?_
  refine WL_nil ?_
  refine WT_seq ?_
  refine WT_seq ?_
  refine WT_region ?_
  refine WL_v rfl (ov_move rfl) ?_
  rw [if_pos hv] at hX
  refine WL_v rfl (ov_len rfl hL.sl st_sl_int) ?_
  refine WL_v rfl (ov_move rfl) ?_
  refine WL_nil ?_
  refine WT_block ?_
  clear hH hH1
  refine WT_while (fun s : Nat => [(0, pv), (1, lv), (5, ev), (22, lv), (23, .int .i64 (pl.length : Int)), (24, .int .i64 (s : Int))]) (fun k w => k ≤ pl.length ∧ (∀ i, i < k → placeOk (endsTo p p.length) pl i) ∧ H w h (X :: Ls)) (fun k => pl.length - k) 0 (by repeat (first | exact trivial | refine ⟨rfl, ?_⟩)) ⟨by omega, by omega, hH2⟩ ?_
  clear hH2
  rintro k w3 ⟨hk, hall, hH⟩ again
  refine WT_seq ?_
  refine WT_region ?_
  refine WL_v rfl (ov_lss rfl rfl) ?_
  refine WL_nil ?_
  refine WT_seq ?_
  refine WT_cond rfl (fun hc => ?_) (fun hc => ?_)
  · skip
    first | with_reducible replace hc := of_decide_eq_true hc | with_reducible replace hc := bn_T hc | with_reducible replace hc := bb_T hc | skip
    have hkp : k < pl.length := by omega
    have hke : k ≤ (endsTo p p.length).length := by omega
    have hrs := Row.reslice hX (lo := 0) (hi := k) (by omega) hke
    refine WT_skip ?_
    refine WT_seq ?_
    refine WT_block ?_
    refine WT_seq ?_
    refine WT_region ?_
    refine WL_v rfl (ov_move rfl) ?_
    refine WL_v rfl (ov_index rfl rfl st_sl_int hL.sl hkp) ?_
    refine WL_v rfl (ov_load rfl one_int (hL.cell hH hkp)) ?_
    refine WL_v rfl (ov_assign rfl) ?_
    refine WL_v rfl (ov_assign rfl) ?_
    refine WL_nil ?_
    refine WT_seq ?_
    refine WT_seq ?_
    refine WT_region ?_
    refine WL_v rfl (ov_move rfl) ?_
    refine WL_v rfl (ov_lss rfl rfl) ?_
    refine WL_nil ?_
    refine WT_cond rfl (fun hneg => ?_) (fun hneg => ?_)
    · skip
      first | with_reducible replace hneg := of_decide_eq_true hneg | with_reducible replace hneg := bn_T hneg | with_reducible replace hneg := bb_T hneg | skip
      refine WT_seq ?_
      refine WT_region ?_
      refine WL_v rfl (ov_assign rfl) ?_
      refine WL_nil ?_
      exact WT_ret1 Try.func12 Try.results12 rfl ⟨congrArg Value.bool (fitsPl_bad (i := k) (by omega) (fun h2 => by have := h2.1; rw [getD_elem hkp] at this; omega)).symm, hH.drop⟩
    first | with_reducible replace hneg := of_decide_eq_false hneg | with_reducible replace hneg := bn_F hneg | with_reducible replace hneg := bb_F hneg | skip
    refine WT_skip ?_
    refine WT_seq ?_
    refine WT_region ?_
    refine WL_v rfl (ov_move rfl) ?_
    refine WL_v rfl (ov_move rfl) ?_
    refine WL_v rfl (ov_sliceHi rfl rfl st_sl_int hX.sl hke) ?_
    refine WL_v rfl (ov_len rfl hrs.sl st_sl_int) ?_
    refine WL_v rfl (ov_move rfl) ?_
    refine WL_nil ?_
    refine WT_block ?_
    refine WT_while (fun s : Nat => [(0, pv), (1, lv), (5, ev), (6, .int .i64 (k : Int)), (7, .int .i64 pl[k]), (22, lv), (23, .int .i64 (pl.length : Int)), (24, .int .i64 (k : Int)), (33, reslice ev 0 k 1), (34, .int .i64 (k : Int)), (35, .int .i64 (s : Int))])
      (fun j w => j ≤ k ∧ (∀ i, i < j → ¬ clash (endsTo p p.length) pl k i) ∧ H w h (X :: Ls)) (fun j => k - j) 0 (by repeat (first | exact trivial | refine ⟨rfl, ?_⟩)) ⟨by omega, by omega, hH⟩ ?_
    clear hH
    rintro j w7 ⟨hj, hcl, hH⟩ again2
    refine WT_seq ?_
    refine WT_region ?_
    refine WL_v rfl (ov_lss rfl rfl) ?_
    refine WL_nil ?_
    refine WT_seq ?_
    refine WT_cond rfl (fun hc2 => ?_) (fun hc2 => ?_)
    · skip
      first | with_reducible replace hc2 := of_decide_eq_true hc2 | with_reducible replace hc2 := bn_T hc2 | with_reducible replace hc2 := bb_T hc2 | skip
      have hjk : j < k := by omega
      have hje : j < (endsTo p p.length).length := by omega
      have hjl : j < pl.length := by omega
      have hcell : ∀ {w}, H w h (X :: Ls) → w.cell? ((slA (reslice ev 0 k 1)).add (j * 1)) = some (.int .i64 (endsTo p p.length)[j]) := fun hH => hrs.cell hH (i := 0) rfl (by simp [hjk, hje])
      have hok : ¬ ((k : Int) ≤ (endsTo p p.length)[j] ∧ pl[j] = pl[k]) → ∀ i, i < j + 1 → ¬ clash (endsTo p p.length) pl k i := fun hn i hi h2 => by
        rcases Nat.lt_or_ge i j with h3 | h3
        · exact hcl i h3 h2
        · obtain rfl : i = j := by omega
          unfold clash at h2
          rw [getD_elem hje, getD_elem hjl, getD_elem hkp] at h2
          exact hn h2
      have hjr : j < k - 0 := by omega
      by_cases hge : (k : Int) ≤ (endsTo p p.length)[j]
      case neg =>
        refine WT_skip ?_
        refine WT_seq ?_
        refine WT_block ?_
        refine WT_seq ?_
        refine WT_region ?_
        refine WL_v rfl (ov_move rfl) ?_
        refine WL_v rfl (ov_index rfl rfl st_sl_int hrs.sl hjr) ?_
        refine WL_v rfl (ov_load rfl one_int (hcell hH)) ?_
        refine WL_v rfl (ov_assign rfl) ?_
        refine WL_v rfl (ov_assign rfl) ?_
        refine WL_nil ?_
        refine WT_seq ?_
        refine WT_region ?_
        refine WL_v rfl (ov_move rfl) ?_
        refine WL_v rfl (ov_move rfl) ?_
        refine WL_v rfl (ov_F (ov_geq rfl rfl) (by first | exact decide_eq_false hge | exact nb_F hge | exact mb_F hge | exact hge | (simp only [decide_eq_false_iff_not]; omega) | simpa using hge)) ?_
        refine WL_v rfl (ov_move rfl) ?_
        refine WL_guardOff rfl rfl rfl rfl ?_
        refine WL_guardOff rfl rfl rfl rfl ?_
        refine WL_guardOff rfl rfl rfl rfl ?_
        refine WL_guardOff rfl rfl rfl rfl ?_
        refine WL_guardOff rfl rfl rfl rfl ?_
        refine WL_guardOff rfl rfl rfl rfl ?_
        refine WL_v rfl (ov_pickF rfl rfl) ?_
        refine WL_nil ?_
        refine WT_condF rfl ?_
        refine WT_skip ?_
        refine WT_inBlock ?_
        refine WT_region ?_
        refine WL_v rfl (ov_add rfl rfl (by omega)) ?_
        refine WL_v rfl (ov_move rfl) ?_
        refine WL_nil ?_
        refine again2 (j + 1) _ _ (by omega) (by repeat (first | exact trivial | refine ⟨rfl, ?_⟩)) ⟨by omega, hok (fun h2 => hge h2.1), hH⟩
      refine WT_skip ?_
      refine WT_seq ?_
      refine WT_block ?_
      refine WT_seq ?_
      refine WT_region ?_
      refine WL_v rfl (ov_move rfl) ?_
      refine WL_v rfl (ov_index rfl rfl st_sl_int hrs.sl hjr) ?_
      refine WL_v rfl (ov_load rfl one_int (hcell hH)) ?_
      refine WL_v rfl (ov_assign rfl) ?_
      refine WL_v rfl (ov_assign rfl) ?_
      refine WL_nil ?_
      refine WT_seq ?_
      refine WT_region ?_
      refine WL_v rfl (ov_move rfl) ?_
      refine WL_v rfl (ov_move rfl) ?_
      refine WL_v rfl (ov_T (ov_geq rfl rfl) (by first | exact decide_eq_true hge | exact nb_T hge | exact mb_T hge | exact hge | (simp only [decide_eq_true_eq]; omega) | simpa using hge)) ?_
      refine WL_v rfl (ov_move rfl) ?_
      refine WL_guardOn rfl rfl ?_
      refine WL_v rfl (ov_move rfl) ?_
      refine WL_guardOn rfl rfl ?_
      refine WL_v rfl (ov_move rfl) ?_
      refine WL_guardOn rfl rfl ?_
      refine WL_v rfl (ov_index rfl rfl st_sl_int hL.sl hjl) ?_
      refine WL_guardOn rfl rfl ?_
      refine WL_v rfl (ov_load rfl one_int (hL.cell hH hjl)) ?_
      refine WL_guardOn rfl rfl ?_
      refine WL_v rfl (ov_move rfl) ?_
      refine WL_guardOn rfl rfl ?_
      refine WL_v rfl (ov_eql rfl rfl) ?_
      refine WL_v rfl (ov_pickT rfl rfl) ?_
      refine WL_nil ?_
      refine WT_cond rfl (fun heq => ?_) (fun heq => ?_)
      · skip
        first | with_reducible replace heq := of_decide_eq_true heq | with_reducible replace heq := bn_T heq | with_reducible replace heq := bb_T heq | skip
        refine WT_seq ?_
        refine WT_region ?_
        refine WL_v rfl (ov_assign rfl) ?_
        refine WL_nil ?_
        exact WT_ret1 Try.func12 Try.results12 rfl ⟨congrArg Value.bool (fitsPl_bad (i := k) (by omega) (fun h2 => h2.2 j hjk (by unfold clash; rw [getD_elem hje, getD_elem hjl, getD_elem hkp]; exact ⟨hge, heq⟩))).symm, hH.drop⟩
      first | with_reducible replace heq := of_decide_eq_false heq | with_reducible replace heq := bn_F heq | with_reducible replace heq := bb_F heq | skip
      refine WT_skip ?_
      refine WT_inBlock ?_
      refine WT_region ?_
      refine WL_v rfl (ov_add rfl rfl (by omega)) ?_
      refine WL_v rfl (ov_move rfl) ?_
      refine WL_nil ?_
      refine again2 (j + 1) _ _ (by omega) (by repeat (first | exact trivial | refine ⟨rfl, ?_⟩)) ⟨by omega, hok (fun h2 => heq h2.2), hH⟩
    first | with_reducible replace hc2 := of_decide_eq_false hc2 | with_reducible replace hc2 := bn_F hc2 | with_reducible replace hc2 := bb_F hc2 | skip
    obtain rfl : j = k := by omega
    refine WT_exit rfl ?_
    refine WT_inBlock ?_
    refine WT_region ?_
    refine WL_v rfl (ov_add rfl rfl (by omega)) ?_
    refine WL_v rfl (ov_move rfl) ?_
    refine WL_nil ?_
    refine again (j + 1) _ _ (by omega) (by repeat (first | exact trivial | refine ⟨rfl, ?_⟩)) ⟨by omega, fun i hi => ?_, hH⟩
    rcases Nat.lt_or_ge i j with h3 | h3
    · exact hall i h3
    · obtain rfl : i = j := by omega
      exact ⟨by rw [getD_elem hkp]; omega, hcl⟩
  first | with_reducible replace hc := of_decide_eq_false hc | with_reducible replace hc := bn_F hc | with_reducible replace hc := bb_F hc | skip
  obtain rfl : k = pl.length := by omega
  refine WT_exit rfl ?_
  refine WT_seq ?_
  refine WT_region ?_
  refine WL_v rfl (ov_assign rfl) ?_
  refine WL_nil ?_
  exact WT_ret1 Try.func12 Try.results12 rfl ⟨congrArg Value.bool (by rw [fitsPl, hv, decide_eq_true ⟨hne', fun i hi => hall i (by omega)⟩]; rfl), hH.drop⟩
end
end Go.Proofs.Ytafljegjdanldaa

/- Walks: whether places fit: the reference. -/
namespace Go.Proofs.Ytafljegjdanldaa
open Go.RowKit

section
variable {h : GH} {Ls : List Heaplet} {w : World}

theorem sBufferFits_ok (hH : H w h Ls) {pv lv : Value} {p : List Nd} {pl : List Int} (hP : Plan h pv p) (hL : Ints h lv pl) (hl : p.length ≤ 1000000000) : Rets Try.prog 13 #[pv, lv] w fun v w' => v = .bool (fitsPl p pl) ∧ H w' h Ls := by
  have hal := hL.sl.lim
  refine rets_enter Try.func13 rfl Try.ntmps13 (by simp) ?_
  by_cases hv : planOk p = true
  case neg =>
    have hv' : planOk p = false := by simpa using hv
    refine WT_seq ?_
    refine WT_region ?_
    refine WL_v rfl (ov_assign rfl) ?_
    refine WL_nil ?_
    refine WT_seq ?_
    refine WT_seq ?_
    refine WT_region ?_
    refine WL_v rfl (ov_move rfl) ?_
    refine WL_call rfl rfl cf_spec_PlanValid (sPlanValid_ok hH hP hl) ?_; rintro _ w1 ⟨rfl, hH1⟩
    refine WL_v rfl (ov_T (ov_not rfl) (by first | exact decide_eq_true hv' | exact nb_T hv' | exact mb_T hv' | exact hv' | (simp only [decide_eq_true_eq]; omega) | simpa using hv')) ?_
    refine WL_v rfl (ov_move rfl) ?_
    refine WL_guardOff rfl rfl rfl rfl ?_
    refine WL_guardOff rfl rfl rfl rfl ?_
    refine WL_guardOff rfl rfl rfl rfl ?_
    refine WL_guardOff rfl rfl rfl rfl ?_
    refine WL_guardOff rfl rfl rfl rfl ?_
    refine WL_v rfl (ov_pickT rfl rfl) ?_
    refine WL_nil ?_
    refine WT_condT rfl ?_
    refine WT_seq ?_
    refine WT_region ?_
    refine WL_v rfl (ov_assign rfl) ?_
    refine WL_nil ?_
    exact WT_ret1 Try.func13 Try.results13 rfl ⟨congrArg Value.bool (by rw [fitsPl, hv', Bool.false_and]), hH1⟩
  have hlen := PlanOk.len hv
  have hel := endsTo_len p p.length
  refine WT_seq ?_
  refine WT_region ?_
  refine WL_v rfl (ov_assign rfl) ?_
  refine WL_nil ?_
  refine WT_seq ?_
  refine WT_seq ?_
  refine WT_region ?_
  refine WL_v rfl (ov_move rfl) ?_
  refine WL_call rfl rfl cf_spec_PlanValid (sPlanValid_ok hH hP hl) ?_; rintro _ w1 ⟨rfl, hH1⟩
  refine WL_v rfl (ov_F (ov_not rfl) (by first | exact decide_eq_false hv | exact nb_F hv | exact mb_F hv | exact hv | (simp only [decide_eq_false_iff_not]; omega) | simpa using hv)) ?_
  refine WL_v rfl (ov_move rfl) ?_
  refine WL_guardOn rfl rfl ?_
  refine WL_v rfl (ov_move rfl) ?_
  refine WL_guardOn rfl rfl ?_
  refine WL_v rfl (ov_len rfl hL.sl st_sl_int) ?_
  refine WL_guardOn rfl rfl ?_
  refine WL_v rfl (ov_move rfl) ?_
  refine WL_guardOn rfl rfl ?_
  refine WL_v rfl (ov_len rfl hP.sl st_sl_impl_Node) ?_
  refine WL_guardOn rfl rfl ?_
  refine WL_v rfl (ov_neq rfl rfl) ?_
  refine WL_v rfl (ov_pickF rfl rfl) ?_
  refine WL_nil ?_
  refine WT_cond rfl (fun hne => ?_) (fun hne => ?_)
  · skip
    first | with_reducible replace hne := of_decide_eq_true hne | with_reducible replace hne := bn_T hne | with_reducible replace hne := bb_T hne | skip
    refine WT_seq ?_
    refine WT_region ?_
    refine WL_v rfl (ov_assign rfl) ?_
    refine WL_nil ?_
    exact WT_ret1 Try.func13 Try.results13 rfl ⟨congrArg Value.bool (by rw [fitsPl, decide_eq_false (fun h2 => hne (by rw [h2.1])), Bool.and_false]), hH1⟩
  first | with_reducible replace hne := of_decide_eq_false hne | with_reducible replace hne := bn_F hne | with_reducible replace hne := bb_F hne | skip
  have hne' : pl.length = p.length := by omega
  refine WT_skip ?_
  refine WT_seq ?_
  refine WT_region ?_
  refine WL_v rfl (ov_move rfl) ?_
  refine WL_call rfl rfl cf_spec_l32Ends (l32Ends_ok hH1 hP hv) ?_; rintro ev w2 ⟨X, hX, hH2⟩
  refine WL_v rfl (ov_assign rfl) ?_
  refine WL_nil ?_
  refine WT_seq ?_
  refine WT_seq ?_
  refine WT_region ?_
  refine WL_v rfl (ov_assign rfl) ?_
  refine WL_nil ?_
  refine WT_block ?_
  clear hH hH1
  refine WT_while (fun s : Nat => [(0, pv), (1, lv), (5, ev), (6, .int .i64 (s : Int))]) (fun k w => k ≤ pl.length ∧ (∀ i, i < k → placeOk (endsTo p p.length) pl i) ∧ H w h (X :: Ls)) (fun k => pl.length - k) 0 (by repeat (first | exact trivial | refine ⟨rfl, ?_⟩)) ⟨by omega, by omega, hH2⟩ ?_
  clear hH2
  rintro k w3 ⟨hk, hall, hH⟩ again
  refine WT_seq ?_
  refine WT_seq ?_
  refine WT_region ?_
  refine WL_v rfl (ov_move rfl) ?_
  refine WL_v rfl (ov_move rfl) ?_
  refine WL_v rfl (ov_len rfl hP.sl st_sl_impl_Node) ?_
  refine WL_v rfl (ov_lss rfl rfl) ?_
  refine WL_nil ?_
  refine WT_cond rfl (fun hc => ?_) (fun hc => ?_)
  · skip
    first | with_reducible replace hc := of_decide_eq_true hc | with_reducible replace hc := bn_T hc | with_reducible replace hc := bb_T hc | skip
    have hkp : k < pl.length := by omega
    refine WT_skip ?_
    refine WT_seq ?_
    refine WT_block ?_
    refine WT_seq ?_
    refine WT_seq ?_
    refine WT_region ?_
    refine WL_v rfl (ov_assign rfl) ?_
    refine WL_nil ?_
    refine WT_block ?_
    refine WT_while (fun s : Nat => [(0, pv), (1, lv), (5, ev), (6, .int .i64 (k : Int)), (7, .int .i64 (s : Int))])
      (fun j w => j ≤ k ∧ (∀ i, i < j → ¬ clash (endsTo p p.length) pl k i) ∧ H w h (X :: Ls)) (fun j => k - j) 0 (by repeat (first | exact trivial | refine ⟨rfl, ?_⟩)) ⟨by omega, by omega, hH⟩ ?_
    clear hH
    rintro j w7 ⟨hj, hcl, hH⟩ again2
    refine WT_seq ?_
    refine WT_seq ?_
    refine WT_region ?_
    refine WL_v rfl (ov_move rfl) ?_
    refine WL_v rfl (ov_move rfl) ?_
    refine WL_v rfl (ov_lss rfl rfl) ?_
    refine WL_nil ?_
    refine WT_cond rfl (fun hc2 => ?_) (fun hc2 => ?_)
    · skip
      first | with_reducible replace hc2 := of_decide_eq_true hc2 | with_reducible replace hc2 := bn_T hc2 | with_reducible replace hc2 := bb_T hc2 | skip
      have hjk : j < k := by omega
      have hje : j < (endsTo p p.length).length := by omega
      have hjl : j < pl.length := by omega
      have hok : ¬ ((k : Int) ≤ (endsTo p p.length)[j] ∧ pl[j] = pl[k]) → ∀ i, i < j + 1 → ¬ clash (endsTo p p.length) pl k i := fun hn i hi h2 => by
        rcases Nat.lt_or_ge i j with h3 | h3
        · exact hcl i h3 h2
        · obtain rfl : i = j := by omega
          unfold clash at h2
          rw [getD_elem hje, getD_elem hjl, getD_elem hkp] at h2
          exact hn h2
      by_cases hge : (k : Int) ≤ (endsTo p p.length)[j]
      case neg =>
        refine WT_skip ?_
        refine WT_seq ?_
        refine WT_block ?_
        refine WT_seq ?_
        refine WT_quiet mixed (by kernel_rfl) hH ?_
        clear hH
        refine WQ_v rfl (fun _ _ => ov_move rfl) ?_
        refine WQ_v rfl (fun _ _ => ov_move rfl) ?_
        refine WQ_v rfl (fun _ _ => ov_index rfl rfl st_sl_int hX.sl hje) ?_
        refine WQ_v rfl (fun _ hH => ov_load rfl one_int (hX.cell hH (i := 0) rfl hje)) ?_
        refine WQ_v rfl (fun _ _ => ov_move rfl) ?_
        refine WQ_v rfl (fun _ _ => ov_F (ov_geq rfl rfl) (by first | exact decide_eq_false hge | exact nb_F hge | exact mb_F hge | exact hge | (simp only [decide_eq_false_iff_not]; omega) | simpa using hge)) ?_
        refine WQ_v rfl (fun _ _ => ov_move rfl) ?_
        refine WQ_guardOff rfl rfl rfl rfl ?_
        refine WQ_guardOff rfl rfl rfl rfl ?_
        refine WQ_guardOff rfl rfl rfl rfl ?_
        refine WQ_guardOff rfl rfl rfl rfl ?_
        refine WQ_guardOff rfl rfl rfl rfl ?_
        refine WQ_guardOff rfl rfl rfl rfl ?_
        refine WQ_guardOff rfl rfl rfl rfl ?_
        refine WQ_guardOff rfl rfl rfl rfl ?_
        refine WQ_guardOff rfl rfl rfl rfl ?_
        refine WQ_v rfl (fun _ _ => ov_pickF rfl rfl) ?_
        refine WQ_nil ?_
        intro w8 hH
        refine WT_condF rfl ?_
        refine WT_skip ?_
        refine WT_inBlock ?_
        refine WT_region ?_
        refine WL_v rfl (ov_move rfl) ?_
        refine WL_v rfl (ov_add rfl rfl (by omega)) ?_
        refine WL_v rfl (ov_assign rfl) ?_
        refine WL_nil ?_
        refine again2 (j + 1) _ _ (by omega) (by repeat (first | exact trivial | refine ⟨rfl, ?_⟩)) ⟨by omega, hok (fun h2 => hge h2.1), hH⟩
      refine WT_skip ?_
      refine WT_seq ?_
      refine WT_block ?_
      refine WT_seq ?_
      refine WT_quiet mixed (by kernel_rfl) hH ?_
      clear hH
      refine WQ_v rfl (fun _ _ => ov_move rfl) ?_
      refine WQ_v rfl (fun _ _ => ov_move rfl) ?_
      refine WQ_v rfl (fun _ _ => ov_index rfl rfl st_sl_int hX.sl hje) ?_
      refine WQ_v rfl (fun _ hH => ov_load rfl one_int (hX.cell hH (i := 0) rfl hje)) ?_
      refine WQ_v rfl (fun _ _ => ov_move rfl) ?_
      refine WQ_v rfl (fun _ _ => ov_T (ov_geq rfl rfl) (by first | exact decide_eq_true hge | exact nb_T hge | exact mb_T hge | exact hge | (simp only [decide_eq_true_eq]; omega) | simpa using hge)) ?_
      refine WQ_v rfl (fun _ _ => ov_move rfl) ?_
      refine WQ_guardOn rfl rfl ?_
      refine WQ_v rfl (fun _ _ => ov_move rfl) ?_
      refine WQ_guardOn rfl rfl ?_
      refine WQ_v rfl (fun _ _ => ov_move rfl) ?_
      refine WQ_guardOn rfl rfl ?_
      refine WQ_v rfl (fun _ _ => ov_index rfl rfl st_sl_int hL.sl hjl) ?_
      refine WQ_guardOn rfl rfl ?_
      refine WQ_v rfl (fun _ hH => ov_load rfl one_int (hL.cell hH hjl)) ?_
      refine WQ_guardOn rfl rfl ?_
      refine WQ_v rfl (fun _ _ => ov_move rfl) ?_
      refine WQ_guardOn rfl rfl ?_
      refine WQ_v rfl (fun _ _ => ov_move rfl) ?_
      refine WQ_guardOn rfl rfl ?_
      refine WQ_v rfl (fun _ _ => ov_index rfl rfl st_sl_int hL.sl hkp) ?_
      refine WQ_guardOn rfl rfl ?_
      refine WQ_v rfl (fun _ hH => ov_load rfl one_int (hL.cell hH hkp)) ?_
      refine WQ_guardOn rfl rfl ?_
      refine WQ_v rfl (fun _ _ => ov_eql rfl rfl) ?_
      refine WQ_v rfl (fun _ _ => ov_pickT rfl rfl) ?_
      refine WQ_nil ?_
      intro w8 hH
      refine WT_cond rfl (fun heq => ?_) (fun heq => ?_)
      · skip
        first | with_reducible replace heq := of_decide_eq_true heq | with_reducible replace heq := bn_T heq | with_reducible replace heq := bb_T heq | skip
        refine WT_seq ?_
        refine WT_region ?_
        refine WL_v rfl (ov_assign rfl) ?_
        refine WL_nil ?_
        exact WT_ret1 Try.func13 Try.results13 rfl ⟨congrArg Value.bool (fitsPl_bad (i := k) (by omega) (fun h2 => h2.2 j hjk (by unfold clash; rw [getD_elem hje, getD_elem hjl, getD_elem hkp]; exact ⟨hge, heq⟩))).symm, hH.drop⟩
      first | with_reducible replace heq := of_decide_eq_false heq | with_reducible replace heq := bn_F heq | with_reducible replace heq := bb_F heq | skip
      refine WT_skip ?_
      refine WT_inBlock ?_
      refine WT_region ?_
      refine WL_v rfl (ov_move rfl) ?_
      refine WL_v rfl (ov_add rfl rfl (by omega)) ?_
      refine WL_v rfl (ov_assign rfl) ?_
      refine WL_nil ?_
      refine again2 (j + 1) _ _ (by omega) (by repeat (first | exact trivial | refine ⟨rfl, ?_⟩)) ⟨by omega, hok (fun h2 => heq h2.2), hH⟩
    first | with_reducible replace hc2 := of_decide_eq_false hc2 | with_reducible replace hc2 := bn_F hc2 | with_reducible replace hc2 := bb_F hc2 | skip
    obtain rfl : j = k := by omega
    refine WT_exit rfl ?_
    refine WT_seq ?_
    refine WT_region ?_
    refine WL_v rfl (ov_move rfl) ?_
    refine WL_v rfl (ov_move rfl) ?_
    refine WL_v rfl (ov_index rfl rfl st_sl_int hL.sl hkp) ?_
    refine WL_v rfl (ov_load rfl one_int (hL.cell hH hkp)) ?_
    refine WL_v rfl (ov_lss rfl rfl) ?_
    refine WL_nil ?_
    refine WT_cond rfl (fun hneg => ?_) (fun hneg => ?_)
    · skip
      first | with_reducible replace hneg := of_decide_eq_true hneg | with_reducible replace hneg := bn_T hneg | with_reducible replace hneg := bb_T hneg | skip
      refine WT_seq ?_
      refine WT_region ?_
      refine WL_v rfl (ov_assign rfl) ?_
      refine WL_nil ?_
      exact WT_ret1 Try.func13 Try.results13 rfl ⟨congrArg Value.bool (fitsPl_bad (i := j) (by omega) (fun h2 => by have := h2.1; rw [getD_elem hkp] at this; omega)).symm, hH.drop⟩
    first | with_reducible replace hneg := of_decide_eq_false hneg | with_reducible replace hneg := bn_F hneg | with_reducible replace hneg := bb_F hneg | skip
    refine WT_skip ?_
    refine WT_inBlock ?_
    refine WT_region ?_
    refine WL_v rfl (ov_move rfl) ?_
    refine WL_v rfl (ov_add rfl rfl (by omega)) ?_
    refine WL_v rfl (ov_assign rfl) ?_
    refine WL_nil ?_
    refine again (j + 1) _ _ (by omega) (by repeat (first | exact trivial | refine ⟨rfl, ?_⟩)) ⟨by omega, fun i hi => ?_, hH⟩
    rcases Nat.lt_or_ge i j with h3 | h3
    · exact hall i h3
    · obtain rfl : i = j := by omega
      exact ⟨by rw [getD_elem hkp]; omega, hcl⟩
  first | with_reducible replace hc := of_decide_eq_false hc | with_reducible replace hc := bn_F hc | with_reducible replace hc := bb_F hc | skip
  obtain rfl : k = pl.length := by omega
  refine WT_exit rfl ?_
  refine WT_seq ?_
  refine WT_region ?_
  refine WL_v rfl (ov_assign rfl) ?_
  refine WL_nil ?_
  exact WT_ret1 Try.func13 Try.results13 rfl ⟨congrArg Value.bool (by rw [fitsPl, hv, decide_eq_true ⟨hne', fun i hi => hall i (by omega)⟩]; rfl), hH.drop⟩
end
end Go.Proofs.Ytafljegjdanldaa

/- Plain laws: a queue of nodes in whose order all that a node needs is behind it; its levels. -/
namespace Go.Proofs.Ytafljegjdanldaa

/-- The greatest value of some nodes, one more, or 0. -/
structure Top (S : Nat → Prop) (v : Nat → Int) (m : Int) : Prop where
  is : m = 0 ∨ ∃ f, S f ∧ m = v f + 1
  nn : 0 ≤ m
  ge : ∀ f, S f → v f + 1 ≤ m
theorem Top.uniq {S : Nat → Prop} {v : Nat → Int} {m n : Int} (hv : ∀ f, S f → 0 ≤ v f) (hm : Top S v m) (hn : Top S v n) : m = n := by
  have h1 := hm.nn
  have h2 := hn.nn
  rcases hm.is with h3 | ⟨f, hf, h3⟩
  · rcases hn.is with h4 | ⟨f, hf, h4⟩
    · omega
    · have := hm.ge f hf
      have := hv f hf
      omega
  · have h5 := hn.ge f hf
    rcases hn.is with h4 | ⟨f', hf', h4⟩
    · have := hv f hf
      omega
    · have := hm.ge f' hf'
      omega
theorem Top.none {S : Nat → Prop} {v : Nat → Int} (h : ∀ f, ¬ S f) : Top S v 0 := ⟨.inl rfl, by omega, fun f hf => absurd hf (h f)⟩
theorem Top.congr {S S' : Nat → Prop} {v : Nat → Int} {m : Int} (hm : Top S v m) (h : ∀ f, S f ↔ S' f) : Top S' v m :=
  ⟨hm.is.imp id fun ⟨f, hf, e⟩ => ⟨f, (h f).1 hf, e⟩, hm.nn, fun f hf => hm.ge f ((h f).2 hf)⟩
theorem Top.add {S : Nat → Prop} {v : Nat → Int} {m : Int} (hm : Top S v m) (x : Nat) (hx : 0 ≤ v x) : Top (fun f => S f ∨ f = x) v (max m (v x + 1)) := by
  have := hm.nn
  refine ⟨?_, by omega, fun f hf => ?_⟩
  · rcases Int.le_total (v x + 1) m with h | h
    · rw [Int.max_eq_left h]
      exact hm.is.imp id fun ⟨f, hf, e⟩ => ⟨f, .inl hf, e⟩
    · rw [Int.max_eq_right h]
      exact .inr ⟨x, .inr rfl, rfl⟩
  · rcases hf with hf | rfl
    · have := hm.ge f hf; omega
    · omega
/-- The level of a node is such a greatest value. -/
theorem top_upOf (ps : List Int) (l : List Int) (h0 : ∀ f ∈ l, 0 ≤ f) : Top (fun f => (f : Int) ∈ l) (fun f => ps.getD f 0) (upOf 1 ps l) := by
  refine ⟨?_, upOf_nonneg _ _ _, fun f hf => ?_⟩
  · rcases foldl_max_eq (fun f : Int => ps.getD f.toNat 0 + 1) l 0 with h | ⟨f, hf, h⟩
    · exact .inl h
    · have := h0 f hf
      exact .inr ⟨f.toNat, by rw [show (f.toNat : Int) = f by omega]; exact hf, h⟩
  · have := le_upOf (c := 1) (ps := ps) hf
    simpa using this
end Go.Proofs.Ytafljegjdanldaa

/- Plain laws: a path costs at most all, at least each node, and is as long as there are levels; what workers need at least. -/
namespace Go.Proofs.Ytafljegjdanldaa

theorem mostOf_le {l : List Int} {b : Int} (hb : 0 ≤ b) (h : ∀ a ∈ l, a ≤ b) : mostOf l ≤ b := foldl_max_le (fun a => a) b l 0 hb h
theorem le_mostOf {l : List Int} {a : Int} (h : a ∈ l) : a ≤ mostOf l := (le_foldl_max (fun a => a) l 0).2 a h
theorem mostOf_nonneg (l : List Int) : 0 ≤ mostOf l := (le_foldl_max (fun a => a) l 0).1
theorem mostOf_eq (l : List Int) : mostOf l = 0 ∨ mostOf l ∈ l := by
  rcases foldl_max_eq (fun a : Int => a) l 0 with h | ⟨a, ha, h⟩
  · exact .inl h
  · exact .inr (by unfold mostOf; rw [h]; exact ha)
theorem pathsTo_len (p : List Nd) (k : Nat) : (pathsTo p k).length = k := progTo_len _ _ _
theorem levelsTo_len (p : List Nd) (k : Nat) : (levelsTo p k).length = k := progTo_len _ _ _

theorem pathsTo_le_sum (p : List Nd) : ∀ k, ∀ a ∈ pathsTo p k, a ≤ sumTo p k
  | 0 => by simp [pathsTo, progTo]
  | k + 1 => by
    intro a ha
    have h1 := kindCost_rg (p.getD k default).kind
    have h0 := sumTo_rg p k
    simp only [pathsTo, progTo, List.mem_append, List.mem_singleton] at ha
    simp only [sumTo]
    rcases ha with ha | rfl
    · have := pathsTo_le_sum p k a ha; omega
    · have h3 : upOf 0 (pathsTo p k) (p.getD k default).frm ≤ sumTo p k := upOf_le (by omega) fun f _ => by
        rcases getD_mem_or (pathsTo p k) f.toNat with h | h
        · rw [h]; omega
        · have := pathsTo_le_sum p k _ h; omega
      simp only [pathsTo] at h3
      omega
theorem path_le_all (p : List Nd) : mostOf (pathsTo p p.length) ≤ sumTo p p.length := mostOf_le (by have := sumTo_rg p p.length; omega) (pathsTo_le_sum p _)
theorem pathsTo_getD {p : List Nd} {i k : Nat} (h : i < k) : (pathsTo p k).getD i 0 = upOf 0 (pathsTo p i) (p.getD i default).frm + kindCost (p.getD i default).kind := progTo_getD h
theorem levelsTo_getD {p : List Nd} {i k : Nat} (h : i < k) : (levelsTo p k).getD i 0 = upOf 1 (levelsTo p i) (p.getD i default).frm := progTo_getD h
theorem getD_mem {l : List Int} {i : Nat} (h : i < l.length) : l.getD i 0 ∈ l := by rw [getD_elem h]; exact List.getElem_mem h
theorem cost_le_path {p : List Nd} {i : Nat} (h : i < p.length) : kindCost p[i].kind ≤ mostOf (pathsTo p p.length) := by
  have h1 := pathsTo_getD (p := p) h
  have h2 := upOf_nonneg 0 (pathsTo p i) (p.getD i default).frm
  have h3 := le_mostOf (getD_mem (l := pathsTo p p.length) (i := i) (by rw [pathsTo_len]; exact h))
  rw [getD_of h] at h1 h2
  omega
/-- A level is less than the path to it. -/
theorem level_lt_path {p : List Nd} (hv : planOk p = true) : ∀ i, i < p.length → (levelsTo p p.length).getD i 0 + 1 ≤ (pathsTo p p.length).getD i 0 := by
  intro i
  induction i using Nat.strongRecOn with
  | _ i ih =>
    intro hi
    rw [levelsTo_getD hi, pathsTo_getD hi]
    have hc := kindCost_rg (p.getD i default).kind
    have hn := upOf_nonneg 0 (pathsTo p i) (p.getD i default).frm
    have : upOf 1 (levelsTo p i) (p.getD i default).frm ≤ upOf 0 (pathsTo p i) (p.getD i default).frm := upOf_le hn fun f hf => by
      have h1 := frm_pos hv hi f hf
      have h2 := le_upOf (c := 0) (ps := pathsTo p i) hf
      have h3 := ih f.toNat (by omega) (by omega)
      have h4 : (levelsTo p i).getD f.toNat 0 = (levelsTo p p.length).getD f.toNat 0 := progTo_same (by omega) (by omega)
      have h5 : (pathsTo p i).getD f.toNat 0 = (pathsTo p p.length).getD f.toNat 0 := progTo_same (by omega) (by omega)
      omega
    omega
/-- How many levels there are. -/
def levCount (p : List Nd) : Int := mostOf ((levelsTo p p.length).map (· + 1))
theorem levCount_le_path {p : List Nd} (hv : planOk p = true) : levCount p ≤ mostOf (pathsTo p p.length) := by
  refine mostOf_le (mostOf_nonneg _) fun a ha => ?_
  obtain ⟨b, hb, rfl⟩ := List.mem_map.1 ha
  obtain ⟨i, hi, rfl⟩ := List.mem_iff_getElem.1 hb
  rw [levelsTo_len] at hi
  have h1 := level_lt_path hv i hi
  have h2 := le_mostOf (getD_mem (l := pathsTo p p.length) (i := i) (by rw [pathsTo_len]; exact hi))
  rw [getD_elem (by rw [levelsTo_len]; exact hi)] at h1
  omega

/-- What workers need at least. -/
def leastOf (p : List Nd) (m : Int) : Int := max (mostOf (pathsTo p p.length)) ((sumTo p p.length + m - 1) / m)
def costLeast (p : List Nd) (m : Int) : Int := if planOk p = true ∧ 1 ≤ m ∧ m ≤ 4 then leastOf p m else -1
theorem leastOf_rg (p : List Nd) {m : Int} (h1 : 1 ≤ m) (h4 : m ≤ 4) : 0 ≤ leastOf p m ∧ leastOf p m ≤ 4 * p.length ∧ mostOf (pathsTo p p.length) ≤ leastOf p m ∧ sumTo p p.length ≤ leastOf p m * m ∧ (leastOf p m = mostOf (pathsTo p p.length) ∨ (leastOf p m - 1) * m < sumTo p p.length) := by
  have ha := sumTo_rg p p.length
  have hb := path_le_all p
  have hc := mostOf_nonneg (pathsTo p p.length)
  unfold leastOf
  have hm : m = 1 ∨ m = 2 ∨ m = 3 ∨ m = 4 := by omega
  rcases hm with rfl | rfl | rfl | rfl <;> omega
theorem leastOf_one (p : List Nd) : leastOf p 1 = sumTo p p.length := by
  have hb := path_le_all p
  unfold leastOf
  omega
theorem leastOf_more (p : List Nd) {m : Int} (h1 : 1 ≤ m) (h4 : m ≤ 3) : leastOf p (m + 1) ≤ leastOf p m := by
  have ha := sumTo_rg p p.length
  unfold leastOf
  have hm : m = 1 ∨ m = 2 ∨ m = 3 := by omega
  rcases hm with rfl | rfl | rfl <;> omega
end Go.Proofs.Ytafljegjdanldaa

/- Plain laws: levels found by a queue: who needs nothing any more is put at its end. -/
namespace Go.Proofs.Ytafljegjdanldaa

theorem addN_nodup {l : List Nat} {f : Nat} (h : l.Nodup) : (addN l f).Nodup := by
  unfold addN
  split
  · exact h
  · rename_i hf
    rw [List.nodup_append]
    exact ⟨h, by simp, fun a ha b hb he => hf (by rw [List.mem_singleton] at hb; rw [← hb, ← he]; exact ha)⟩
theorem needTo_nodup (l : List Int) : (needTo l).Nodup := by
  have key : ∀ (l : List Int) (acc : List Nat), acc.Nodup → (l.foldl (fun a f => addN a f.toNat) acc).Nodup := by
    intro l
    induction l with
    | nil => intro acc h; exact h
    | cons f l ih => intro acc h; exact ih _ (addN_nodup h)
  exact key l [] (by simp)

/-- How many of what a node needs is not done. -/
def cntN (p : List Nd) (D : List Nat) (u : Nat) : Nat := ((needTo (p.getD u default).frm).filter fun f => decide (f ∉ D)).length
theorem filter_less {D : List Nat} {x : Nat} (hx : x ∉ D) : ∀ {l : List Nat}, l.Nodup → x ∈ l → (l.filter fun f => decide (f ∉ D ++ [x])).length + 1 = (l.filter fun f => decide (f ∉ D)).length
  | [], _, h => by simp at h
  | y :: l, hn, h => by
    rw [List.nodup_cons] at hn
    by_cases hy : y = x
    · subst hy
      have h1 : ∀ l : List Nat, y ∉ l → (l.filter fun f => decide (f ∉ D ++ [y])) = l.filter fun f => decide (f ∉ D) := fun l hl => List.filter_congr fun z hz => by
        have : z ≠ y := fun he => hl (he ▸ hz)
        simp [this]
      rw [List.filter_cons, List.filter_cons, if_neg (by simp), if_pos (by simpa using hx), h1 l hn.1]
      simp
    · have hl : x ∈ l := by
        rcases List.mem_cons.1 h with h | h
        · exact absurd h.symm hy
        · exact h
      have ih := filter_less hx hn.2 hl
      by_cases hyD : y ∈ D
      · rw [List.filter_cons, List.filter_cons, if_neg (by simp [hyD]), if_neg (by simp [hyD])]
        exact ih
      · rw [List.filter_cons, List.filter_cons, if_pos (by simp [hyD, hy]), if_pos (by simp [hyD])]
        simp only [List.length_cons]
        omega
theorem cntN_less {p : List Nd} {D : List Nat} {u x : Nat} (hx : x ∉ D) (h : x ∈ needTo (p.getD u default).frm) : cntN p (D ++ [x]) u + 1 = cntN p D u := filter_less hx (needTo_nodup _) h
theorem cntN_same {p : List Nd} {D : List Nat} {u x : Nat} (h : x ∉ needTo (p.getD u default).frm) : cntN p (D ++ [x]) u = cntN p D u := by
  unfold cntN
  congr 1
  refine List.filter_congr fun z hz => ?_
  have : z ≠ x := fun he => h (he ▸ hz)
  simp [this]
theorem cntN_zero {p : List Nd} {D : List Nat} {u : Nat} : cntN p D u = 0 ↔ ∀ f ∈ needTo (p.getD u default).frm, f ∈ D := by
  unfold cntN
  rw [List.length_eq_zero_iff, List.filter_eq_nil_iff]
  simp
theorem cntN_nil (p : List Nd) (u : Nat) : cntN p [] u = (needTo (p.getD u default).frm).length := by simp [cntN]

structure Kahn (p : List Nd) (Df : Nat → List Nat) (Dn : List Nat) (lv lf : List Int) (Q : List Nat) : Prop where
  lvl : lv.length = p.length
  lfl : lf.length = p.length
  cnt : ∀ u, u < p.length → lf.getD u 0 = (cntN p (Df u) u : Int)
  top : ∀ u, u < p.length → Top (fun f => f ∈ needTo (p.getD u default).frm ∧ f ∈ Df u) (fun f => (levelsTo p p.length).getD f 0) (lv.getD u 0)
  mem : ∀ q, q ∈ Q ↔ q < p.length ∧ q ∉ Dn ∧ cntN p (Df q) q = 0
  nodup : Q.Nodup

theorem levelsTo_getD_nonneg (p : List Nd) (k i : Nat) : 0 ≤ (levelsTo p k).getD i 0 := by
  rcases getD_mem_or (levelsTo p k) i with h | h
  · omega
  · exact (levelsTo_rg p k _ h).1
/-- All that a node needs is done: its level is known. -/
theorem Kahn.level {p : List Nd} (hv : planOk p = true) {Df : Nat → List Nat} {Dn : List Nat} {lv lf : List Int} {Q : List Nat} (hK : Kahn p Df Dn lv lf Q) {u : Nat} (hu : u < p.length) (h0 : cntN p (Df u) u = 0) : lv.getD u 0 = (levelsTo p p.length).getD u 0 := by
  have hf := frm_pos hv hu
  have h1 := (hK.top u hu).congr (S' := fun f => (f : Int) ∈ (p.getD u default).frm) fun f => by
    constructor
    · intro h; exact (mem_needTo' fun f h => (hf f h).1).1 h.1
    · intro h
      have := (mem_needTo' fun f h => (hf f h).1).2 h
      exact ⟨this, cntN_zero.1 h0 f this⟩
  have h2 := top_upOf (levelsTo p u) (p.getD u default).frm fun f h => (hf f h).1
  have h3 : Top (fun f => (f : Int) ∈ (p.getD u default).frm) (fun f => (levelsTo p p.length).getD f 0) (upOf 1 (levelsTo p u) (p.getD u default).frm) := by
    have he : ∀ f : Nat, (f : Int) ∈ (p.getD u default).frm → (levelsTo p u).getD f 0 = (levelsTo p p.length).getD f 0 := fun f hm => by
      have := hf _ hm
      exact progTo_same (by omega) (by omega)
    refine ⟨?_, h2.nn, fun f hm => by rw [← he f hm]; exact h2.ge f hm⟩
    rcases h2.is with h | ⟨f, hm, h⟩
    · exact .inl h
    · exact .inr ⟨f, hm, by rw [← he f hm]; exact h⟩
  rw [levelsTo_getD hu]
  exact h1.uniq (fun f _ => levelsTo_getD_nonneg p _ f) h3
theorem Kahn.congr {p : List Nd} {Df Df' : Nat → List Nat} {Dn : List Nat} {lv lf : List Int} {Q : List Nat} (hK : Kahn p Df Dn lv lf Q)
    (h1 : ∀ u, u < p.length → cntN p (Df' u) u = cntN p (Df u) u) (h2 : ∀ u, u < p.length → ∀ f ∈ needTo (p.getD u default).frm, (f ∈ Df u ↔ f ∈ Df' u)) : Kahn p Df' Dn lv lf Q :=
  ⟨hK.lvl, hK.lfl, fun u hu => by rw [h1 u hu]; exact hK.cnt u hu, fun u hu => (hK.top u hu).congr fun f => and_congr_right fun hf => h2 u hu f hf,
    fun q => by
      rw [hK.mem]
      refine and_congr_right fun hq => and_congr_right fun _ => ?_
      rw [h1 q hq], hK.nodup⟩
theorem Kahn.take {p : List Nd} {Df : Nat → List Nat} {D : List Nat} {lv lf : List Int} {x : Nat} {Q : List Nat} (hK : Kahn p Df D lv lf (x :: Q)) : Kahn p Df (D ++ [x]) lv lf Q := by
  have hn := List.nodup_cons.1 hK.nodup
  refine ⟨hK.lvl, hK.lfl, hK.cnt, hK.top, fun q => ?_, hn.2⟩
  have := hK.mem q
  rw [List.mem_cons] at this
  rw [List.mem_append, List.mem_singleton]
  constructor
  · intro h
    have h2 := this.1 (.inr h)
    exact ⟨h2.1, fun h3 => h3.elim h2.2.1 fun h4 => hn.1 (h4 ▸ h), h2.2.2⟩
  · rintro ⟨g1, g2, g3⟩
    rcases this.2 ⟨g1, fun h => g2 (.inl h), g3⟩ with h | h
    · exact absurd (.inr h) g2
    · exact h
theorem getD_setI {l : List Int} {i j : Nat} {a : Int} (hi : i < l.length) : (l.set i a).getD j 0 = if i = j then a else l.getD j 0 := by
  rw [List.getD_eq_getElem?_getD, List.getElem?_set]
  by_cases h : i = j
  · simp [h, h ▸ hi]
  · simp [h, List.getD_eq_getElem?_getD]
/-- A user of the node that was taken. -/
theorem Kahn.step {p : List Nd} {Df : Nat → List Nat} {Dn D : List Nat} {lv lf : List Int} {Q : List Nat} {x u : Nat} (hK : Kahn p Df Dn lv lf Q) (hu : u < p.length) (hDf : Df u = D) (hxD : x ∉ D) (hux : x ∈ needTo (p.getD u default).frm) (hDn : u ∉ Dn) :
    Kahn p (fun a => if a = u then D ++ [x] else Df a) Dn (lv.set u (max (lv.getD u 0) ((levelsTo p p.length).getD x 0 + 1))) (lf.set u (lf.getD u 0 - 1)) (if cntN p (D ++ [x]) u = 0 then Q ++ [u] else Q) := by
  have hl := hK.lvl
  have hf := hK.lfl
  have hc := cntN_less (p := p) (u := u) hxD hux
  refine ⟨by simp [hl], by simp [hf], fun a ha => ?_, fun a ha => ?_, fun q => ?_, ?_⟩
  · rw [getD_setI (by omega)]
    by_cases hau : a = u
    · subst hau
      rw [if_pos rfl, if_pos rfl, hK.cnt a ha, hDf]; omega
    · rw [if_neg (fun h => hau h.symm), if_neg hau]; exact hK.cnt a ha
  · rw [getD_setI (by omega)]
    by_cases hau : a = u
    · subst hau
      rw [if_pos rfl]
      simp only [if_true]
      refine ((hK.top a ha).add x (levelsTo_getD_nonneg p _ x)).congr fun f => ?_
      rw [hDf, List.mem_append, List.mem_singleton]
      constructor
      · rintro (⟨h1, h2⟩ | rfl)
        · exact ⟨h1, .inl h2⟩
        · exact ⟨hux, .inr rfl⟩
      · rintro ⟨h1, h2 | h2⟩
        · exact .inl ⟨h1, h2⟩
        · exact .inr h2
    · rw [if_neg (show ¬ u = a from fun h => hau h.symm)]
      simp only [if_neg hau]
      exact hK.top a ha
  · have hm := hK.mem q
    by_cases hqu : q = u
    · subst hqu
      simp only [if_true]
      have hnq : q ∉ Q := fun h => by
        have := (hm.1 h).2.2
        rw [hDf] at this
        omega
      split
      · rename_i h0
        simp only [List.mem_append, List.mem_singleton, or_true, true_iff]
        exact ⟨hu, hDn, h0⟩
      · rename_i h0
        constructor
        · exact fun h => absurd h hnq
        · exact fun h => absurd h.2.2 h0
    · simp only [if_neg hqu]
      rw [← hm]
      split <;> simp [hqu]
  · split
    · rw [List.nodup_append]
      refine ⟨hK.nodup, by simp, fun a ha b hb he => ?_⟩
      rw [List.mem_singleton] at hb
      subst hb
      subst he
      have := ((hK.mem a).1 ha).2.2
      rw [hDf] at this
      omega
    · exact hK.nodup
/-- At first. -/
theorem Kahn.start {p : List Nd} {lf : List Int} {Q : List Nat} (hlf : lf = (List.range p.length).map fun (u : Nat) => ((needTo (p.getD u default).frm).length : Int)) (hQ : Q = (List.range p.length).filter fun u => decide ((needTo (p.getD u default).frm).length = 0)) :
    Kahn p (fun _ => []) [] (List.replicate p.length 0) lf Q := by
  subst hlf
  subst hQ
  refine ⟨by simp, by simp, fun u hu => ?_, fun u hu => ?_, fun q => ?_, List.nodup_range.filter _⟩
  · rw [cntN_nil, List.getD_eq_getElem?_getD, List.getElem?_map, List.getElem?_range hu]; rfl
  · rw [show (List.replicate p.length (0 : Int)).getD u 0 = 0 by rw [List.getD_eq_getElem?_getD, List.getElem?_replicate, if_pos hu]; rfl]
    exact Top.none fun f h => by simp at h
  · simp only [List.mem_filter, List.mem_range, decide_eq_true_eq, cntN_nil, List.not_mem_nil, not_false_eq_true, true_and]
/-- At last. -/
theorem Kahn.all {p : List Nd} (hv : planOk p = true) {D : List Nat} {lv lf : List Int} (hK : Kahn p (fun _ => D) D lv lf []) : ∀ u, u < p.length → u ∈ D := by
  intro u
  induction u using Nat.strongRecOn with
  | _ u ih =>
    intro hu
    have hf := frm_pos hv hu
    by_cases h : u ∈ D
    · exact h
    · have := (hK.mem u).2 ⟨hu, h, cntN_zero.2 fun f hm => by
        have h1 := hf _ ((mem_needTo' fun f h => (hf f h).1).1 hm)
        exact ih f (by omega) (by omega)⟩
      simp at this
theorem Kahn.done {p : List Nd} (hv : planOk p = true) {D : List Nat} {lv lf : List Int} (hK : Kahn p (fun _ => D) D lv lf []) (hD : ∀ d ∈ D, d < p.length ∧ cntN p D d = 0) : lv = levelsTo p p.length := by
  have hl := hK.lvl
  refine List.ext_getElem (by rw [hl, levelsTo_len]) fun i h1 h2 => ?_
  have hi : i < p.length := by omega
  have := hK.level hv hi (hD i (hK.all hv i hi)).2
  rw [getD_elem h1, getD_elem h2] at this
  exact this
theorem mem_users_needs {p : List Nd} (hv : planOk p = true) {x u : Nat} (hu : u < p.length) : u ∈ usersTo p p.length x ↔ x ∈ needTo (p.getD u default).frm := by
  rw [mem_usersTo, mem_needTo' fun f h => (frm_pos hv hu f h).1]
  exact ⟨fun h => h.2, fun h => ⟨hu, h⟩⟩
end Go.Proofs.Ytafljegjdanldaa

/- Plain laws: how many different nodes a node needs; rows kept. -/
namespace Go.Proofs.Ytafljegjdanldaa

theorem lastOr_ge {l : List Nat} (h : l.Pairwise (· < ·)) {a : Nat} (ha : a ∈ l) (d : Nat) : a ≤ lastOr l d := by
  have hne : l ≠ [] := List.ne_nil_of_mem ha
  unfold lastOr
  rw [List.getLast?_eq_some_getLast hne, Option.getD_some]
  obtain ⟨i, hi, rfl⟩ := List.mem_iff_getElem.1 ha
  rw [List.getLast_eq_getElem]
  rcases Nat.lt_or_ge i (l.length - 1) with h1 | h1
  · exact Nat.le_of_lt (List.pairwise_iff_getElem.1 h i (l.length - 1) hi (by omega) h1)
  · have : i = l.length - 1 := by omega
    subst this
    exact Nat.le_refl _
theorem usersTo_asc (p : List Nd) (k i : Nat) : (usersTo p k i).Pairwise (· < ·) := List.pairwise_lt_range.filter _
theorem live_eq (E : List Int) (i : Nat) : ∀ j, live E i j = (((List.range j).filter fun a => decide ((i : Int) ≤ E.getD a 0)).length : Int)
  | 0 => rfl
  | j + 1 => by
    rw [live, live_eq E i j, List.range_succ, List.filter_append, List.length_append, List.filter_cons, List.filter_nil]
    by_cases h : (i : Int) ≤ E.getD j 0
    · rw [if_pos h, if_pos (by simpa using h)]; simp
    · rw [if_neg h, if_neg (by simpa using h)]; simp
/-- All that a node needs is still there when it is done. -/
theorem needs_live {p : List Nd} (hv : planOk p = true) {i : Nat} (hi : i < p.length) : ((needTo (p.getD i default).frm).length : Int) ≤ live (endsTo p p.length) i i := by
  rw [live_eq]
  have := (needTo_nodup (p.getD i default).frm).length_le_of_subset (l₂ := (List.range i).filter fun a => decide ((i : Int) ≤ (endsTo p p.length).getD a 0)) fun f hf => by
    have hm := (mem_users_needs hv (x := f) hi).2 hf
    have h1 := usersTo_gt hv (Nat.le_refl _) hm
    rw [List.mem_filter, List.mem_range, decide_eq_true_eq, endsTo_getD hv (Nat.le_refl _) (by omega)]
    have := lastOr_ge (usersTo_asc p p.length f) hm f
    omega
  omega
theorem needs_rows {p : List Nd} (hv : planOk p = true) {i : Nat} (hi : i < p.length) : ((needTo (p.getD i default).frm).length : Int) < rowsTo (endsTo p p.length) p.length := by
  have h1 := needs_live hv hi
  have h2 := le_rowsTo (E := endsTo p p.length) hi
  omega

/-- What of the needs is ahead of a node. -/
def cntK (p : List Nd) (k u : Nat) : Nat := ((needTo (p.getD u default).frm).filter fun f => decide (f < k)).length
theorem cntK_zero (p : List Nd) (u : Nat) : cntK p 0 u = 0 := by
  unfold cntK
  rw [List.filter_eq_nil_iff.2 (by simp)]; rfl
theorem filter_lt_succ {k : Nat} : ∀ {l : List Nat}, l.Nodup → (l.filter fun f => decide (f < k + 1)).length = (l.filter fun f => decide (f < k)).length + (if k ∈ l then 1 else 0)
  | [], _ => by simp
  | a :: l, hn => by
    rw [List.nodup_cons] at hn
    have ih := filter_lt_succ (k := k) hn.2
    simp only [List.filter_cons]
    by_cases ha : a = k
    · subst ha
      rw [if_neg hn.1] at ih
      rw [if_pos (by simp), if_neg (by simp), if_pos (by simp)]
      simp only [List.length_cons]; omega
    · have hm : (k ∈ a :: l) ↔ k ∈ l := by simp [Ne.symm ha]
      simp only [hm]
      by_cases h1 : a < k
      · rw [if_pos (by simp; omega), if_pos (by simpa using h1)]
        simp only [List.length_cons]; omega
      · rw [if_neg (by simp; omega), if_neg (by simpa using h1)]
        exact ih
theorem cntK_succ {p : List Nd} (k u : Nat) : cntK p (k + 1) u = cntK p k u + (if k ∈ needTo (p.getD u default).frm then 1 else 0) := filter_lt_succ (needTo_nodup _)
theorem cntK_all {p : List Nd} (hv : planOk p = true) (u : Nat) : cntK p p.length u = (needTo (p.getD u default).frm).length := by
  unfold cntK
  rw [List.filter_eq_self.2 fun f hf => ?_]
  rcases Nat.lt_or_ge u p.length with hu | hu
  · have := frm_pos hv hu
    have h1 := (mem_needTo' fun f h => (this f h).1).1 hf
    have := (this _ h1).2
    simp; omega
  · rw [getD_default_of hu] at hf
    simp [needTo, default] at hf
theorem cntK_le (p : List Nd) (k u : Nat) : cntK p k u ≤ (needTo (p.getD u default).frm).length := List.length_filter_le _ _
theorem usersTo_lt' {p : List Nd} {k i j : Nat} (h : j ∈ usersTo p k i) : j < k := (mem_usersTo.1 h).1
/-- The table while users are told. -/
def tabK (p : List Nd) (k : Nat) (l : List Nat) : List Int := (List.range 10).map fun (u : Nat) => ((cntK p k u + (if u ∈ l then 1 else 0) : Nat) : Int)
theorem tabK_len (p : List Nd) (k : Nat) (l : List Nat) : (tabK p k l).length = 10 := by simp [tabK]
theorem tabK_get {p : List Nd} {k : Nat} {l : List Nat} {u : Nat} (h : u < (tabK p k l).length) : (tabK p k l)[u] = ((cntK p k u + (if u ∈ l then 1 else 0) : Nat) : Int) := by simp [tabK]
theorem tabK_zero (p : List Nd) : tabK p 0 [] = List.replicate 10 0 := by
  refine List.ext_getElem (by simp [tabK]) fun i h1 h2 => ?_
  rw [tabK_get, cntK_zero, List.getElem_replicate]
  simp
theorem tabK_snoc {p : List Nd} {k : Nat} {l : List Nat} {u : Nat} (_hu : u < 10) (_hl : u ∉ l) : (tabK p k l).set u ((cntK p k u : Int) + 1) = tabK p k (l ++ [u]) := by
  refine List.ext_getElem (by simp [tabK]) fun i h1 h2 => ?_
  rw [List.getElem_set, tabK_get, tabK_get]
  by_cases h : u = i
  · subst h
    simp
  · rw [if_neg h]
    simp [Ne.symm h]
theorem tabK_next {p : List Nd} (hv : planOk p = true) {k : Nat} (_hk : k < p.length) : tabK p k (usersTo p p.length k) = tabK p (k + 1) [] := by
  refine List.ext_getElem (by simp [tabK]) fun i h1 h2 => ?_
  rw [tabK_get, tabK_get, cntK_succ]
  have hm : i ∈ usersTo p p.length k ↔ k ∈ needTo (p.getD i default).frm := by
    rcases Nat.lt_or_ge i p.length with hi | hi
    · exact mem_users_needs hv hi
    · rw [getD_default_of hi]
      constructor
      · intro h; have := usersTo_lt' h; omega
      · intro h; simp [needTo, default] at h
  simp [hm]
/-- The counts of a valid plan. -/
theorem tabK_take {p : List Nd} (hv : planOk p = true) : (tabK p p.length []).take p.length = (List.range p.length).map fun (u : Nat) => ((needTo (p.getD u default).frm).length : Int) := by
  have hlen := PlanOk.len hv
  refine List.ext_getElem (by simp [tabK]; omega) fun i h1 h2 => ?_
  rw [List.getElem_take, tabK_get, cntK_all hv, List.getElem_map, List.getElem_range]
  simp
end Go.Proofs.Ytafljegjdanldaa

/- Walks: how many different nodes each node needs: the program's table. -/
namespace Go.Proofs.Ytafljegjdanldaa
open Go.RowKit

section
variable {h : GH} {Ls : List Heaplet} {w : World}

theorem copyInts_ok (hH : H w h Ls) {av : Value} {xs : List Int} (hA : RdL h Ls av xs) (hl : xs.length ≤ 1000000000) : Rets Try.prog 44 #[av] w fun v w' => ∃ X, IRow X 3 v xs ∧ H w' h (X :: Ls) := by
  refine rets_enter Try.func44 rfl Try.ntmps44 (by simp) ?_
  refine WT_seq ?_
  refine WT_region ?_
  refine WL_v rfl (ov_assign rfl) ?_
  refine WL_nil ?_
  refine WT_seq ?_
  refine WT_region ?_
  refine WL_v rfl (ov_move rfl) ?_
  refine WL_appR (i := 0) (xs := []) rfl hH.nilIn rfl rfl st_sl_int rfl (IRow.nil _) hA.sl (hA.cell hH) (by simp only [List.length_nil]; omega) (by simp only [List.length_nil]; omega) ?_; rintro X v w2 hX hH2
  refine WL_v rfl (ov_assign rfl) ?_
  refine WL_nil ?_
  exact WT_ret1 Try.func44 Try.results44 rfl ⟨X, by simpa using hX, hH2⟩

/-- How many different nodes each node needs. -/
def countsL (p : List Nd) : List Int := (List.range p.length).map fun (u : Nat) => ((needTo (p.getD u default).frm).length : Int)
def countsOf (p : List Nd) : List Int := if planOk p = true then countsL p else []
theorem countsL_len (p : List Nd) : (countsL p).length = p.length := by simp [countsL]
theorem countsL_get {p : List Nd} {k : Nat} (h : k < (countsL p).length) : (countsL p)[k] = ((needTo (p.getD k default).frm).length : Int) := by simp [countsL]

end
end Go.Proofs.Ytafljegjdanldaa

/- Walks: the laws' marks: all of a list or a plan is written over, and read again. -/
namespace Go.Proofs.Ytafljegjdanldaa
open Go.RowKit

/-- Numbers from one on. -/
def marks (k : Int) (n : Nat) : List Int := (List.range n).map fun (j : Nat) => k + (j : Int)
theorem marks_len (k : Int) (n : Nat) : (marks k n).length = n := by simp [marks]
theorem marks_succ (k : Int) (n : Nat) : marks k (n + 1) = marks k n ++ [k + (n : Int)] := by simp [marks, List.range_succ]
theorem marks_get {k : Int} {n j : Nat} (h : j < (marks k n).length) : (marks k n)[j] = k + (j : Int) := by simp [marks]

section
variable {h : GH} {Ls : List Heaplet} {w : World}

/-- A node of a plan of one's own, whatever is in it. -/
def OAtW (Is : List Heaplet) (xs : List Value) (i : Nat) : Prop :=
  ∃ (kv fv rv : Value) (F R : Heaplet) (f r : List Int), xs[i * 3]? = some kv ∧ xs[i * 3 + 1]? = some fv ∧ xs[i * 3 + 2]? = some rv ∧ Is[2 * i]? = some F ∧ Is[2 * i + 1]? = some R ∧ IRow F 3 fv f ∧ IRow R 3 rv r ∧ f.length ≤ 1048576 ∧ r.length ≤ 1048576
theorem OAt.weak {Is : List Heaplet} {xs : List Value} {i : Nat} {x : Nd} (h : OAt Is xs i x) (h1 : x.frm.length ≤ 1048576) (h2 : x.row.length ≤ 1048576) : OAtW Is xs i := by
  obtain ⟨fv, rv, F, R, g1, g2, g3, g4, g5⟩ := h
  exact ⟨_, fv, rv, F, R, _, _, by simpa using g1 0 _ rfl, g1 1 _ rfl, g1 2 _ rfl, g2, g3, g4, g5, h1, h2⟩

end
end Go.Proofs.Ytafljegjdanldaa
