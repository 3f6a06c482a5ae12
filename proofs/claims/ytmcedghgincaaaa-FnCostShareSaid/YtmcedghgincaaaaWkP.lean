/- Walks: who needs a node, and whom nobody needs; the laws' helpers on rows. -/
import Derived.Test.YtmcedghgincaaaaWkG
import Derived.Test.YtmcedghgincaaaaWkX
namespace Go.Proofs.Ytmcedghgincaaaa
open Go.RowKit

/-- Numbers of nodes as numbers of the program. -/
def toI (l : List Nat) : List Int := l.map fun (j : Nat) => (j : Int)
theorem toI_len (l : List Nat) : (toI l).length = l.length := by simp [toI]
theorem toI_snoc (l : List Nat) (a : Nat) : toI (l ++ [a]) = toI l ++ [(a : Int)] := by simp [toI]
theorem mem_toI {l : List Nat} {a : Int} : a ∈ toI l ↔ 0 ≤ a ∧ a.toNat ∈ l := by
  simp only [toI, List.mem_map]
  constructor
  · rintro ⟨j, hj, rfl⟩; exact ⟨by omega, by simpa using hj⟩
  · rintro ⟨h1, h2⟩; exact ⟨_, h2, by omega⟩
theorem mem_toI_nat {l : List Nat} {a : Nat} : (a : Int) ∈ toI l ↔ a ∈ l := by rw [mem_toI]; simp
/-- The users of a node. -/
def usesOf (p : List Nd) (a : Int) : List Int := if planOk p = true ∧ 0 ≤ a ∧ a < (p.length : Int) then toI (usersTo p p.length a.toNat) else []
/-- The ends of a plan. -/
def endsL (p : List Nd) : List Nat := (List.range p.length).filter fun i => decide (usersTo p p.length i = [])
def endsOf (p : List Nd) : List Int := if planOk p = true then toI (endsL p) else []

theorem usersTo_lt {p : List Nd} {k i j : Nat} (h : j ∈ usersTo p k i) : j < k := (mem_usersTo.1 h).1

section
variable {h : GH} {Ls : List Heaplet} {w : World}

theorem Rd.ptrs {v : Value} {g : Nat → Nat} {l : List Nat} (hR : Rd h v (l.map fun j => ptr (g j))) (hH : H w h Ls) {k : Nat} (hk : k < l.length) : w.cell? ((slA v).add (k * 1)) = some (ptr (g l[k])) := by
  rw [Nat.mul_one]
  exact hR.cell hH (by simp [hk])
/-- A node of a shared graph. -/
theorem GraphRd.box {gv : Value} {g : Nat → Nat} {p : List Nd} (hG : GraphRd h gv g p) {i : Nat} (hi : i < p.length) : ∃ nv uv, (∀ {w Ls}, H w h Ls → ∀ (o : Nat) {u}, [Value.int .i64 (i : Int), nv, uv][o]? = some u → w.cell? ⟨g i, o, none⟩ = some u) ∧
    Sl nv (needTo (p.getD i default).frm).length ∧ Rd h nv ((needTo (p.getD i default).frm).map fun j => ptr (g j)) ∧
    Sl uv (usersTo p p.length i).length ∧ Rd h uv ((usersTo p p.length i).map fun j => ptr (g j)) := by
  obtain ⟨nv, uv, ⟨e, fz, hb⟩, h2, h3, h4, h5⟩ := hG.node i hi
  refine ⟨nv, uv, fun hH o u ho => ?_, h2, h3, h4, h5⟩
  rw [cell_of_heap (hH.rd _ _ hb)]
  simpa using ho
theorem GraphRd.num {gv : Value} {g : Nat → Nat} {p : List Nd} (hG : GraphRd h gv g p) (hH : H w h Ls) {i : Nat} (hi : i < p.length) : w.cell? ⟨g i, 0, none⟩ = some (.int .i64 (i : Int)) := by
  obtain ⟨_, _, h1, _⟩ := hG.box hi
  exact h1 hH 0 rfl
theorem GraphRd.elem {gv : Value} {g : Nat → Nat} {p : List Nd} (hG : GraphRd h gv g p) (hH : H w h Ls) {i : Nat} (hi : i < p.length) : w.cell? ((slA gv).add (i * 1)) = some (ptr (g i)) := by
  have := hG.rd.ptrs hH (k := i) (by simpa using hi)
  simpa using this

theorem isNode_ok (hH : H w h Ls) {pv : Value} {n : Nat} (hP : Sl pv n) (a : Int) : Rets Try.prog 70 #[pv, .int .i64 a] w fun v w' => v = .bool (decide (0 ≤ a ∧ a < (n : Int))) ∧ H w' h Ls := by
  refine rets_enter Try.func70 rfl Try.ntmps70 (by simp) ?_
  by_cases h0 : 0 ≤ a
  · skip
    refine WT_seq ?_
    refine WT_region ?_
    refine WL_v rfl (ov_assign rfl) ?_
    refine WL_nil ?_
    refine WT_seq ?_
    refine WT_region ?_
    refine WL_v rfl (ov_move rfl) ?_
    refine WL_v rfl (ov_T (ov_geq rfl rfl) (by first | exact decide_eq_true h0 | exact nb_T h0 | exact mb_T h0 | exact h0 | (simp only [decide_eq_true_eq]; omega) | simpa using h0)) ?_
    refine WL_v rfl (ov_move rfl) ?_
    refine WL_guardOn rfl rfl ?_
    refine WL_v rfl (ov_move rfl) ?_
    refine WL_guardOn rfl rfl ?_
    refine WL_v rfl (ov_move rfl) ?_
    refine WL_guardOn rfl rfl ?_
    refine WL_v rfl (ov_len rfl hP st_sl_impl_Node) ?_
    refine WL_guardOn rfl rfl ?_
    refine WL_v rfl (ov_lss rfl rfl) ?_
    refine WL_v rfl (ov_pickT rfl rfl) ?_
    refine WL_v rfl (ov_assign rfl) ?_
    refine WL_nil ?_
    exact WT_ret1 Try.func70 Try.results70 rfl ⟨by simp [h0], hH⟩
  refine WT_seq ?_
  refine WT_region ?_
  refine WL_v rfl (ov_assign rfl) ?_
  refine WL_nil ?_
  refine WT_seq ?_
  refine WT_region ?_
  refine WL_v rfl (ov_move rfl) ?_
  refine WL_v rfl (ov_F (ov_geq rfl rfl) (by first | exact decide_eq_false h0 | exact nb_F h0 | exact mb_F h0 | exact h0 | (simp only [decide_eq_false_iff_not]; omega) | simpa using h0)) ?_
  refine WL_v rfl (ov_move rfl) ?_
  refine WL_guardOff rfl rfl rfl rfl ?_
  refine WL_guardOff rfl rfl rfl rfl ?_
  refine WL_guardOff rfl rfl rfl rfl ?_
  refine WL_guardOff rfl rfl rfl rfl ?_
  refine WL_v rfl (ov_pickF rfl rfl) ?_
  refine WL_v rfl (ov_assign rfl) ?_
  refine WL_nil ?_
  exact WT_ret1 Try.func70 Try.results70 rfl ⟨by simp [h0], hH⟩

theorem graphOf_no (hH : H w h Ls) {pv : Value} {p : List Nd} (hP : Plan h pv p) (hv : planOk p = false) : Rets Try.prog 93 #[pv] w fun v w' => v = .tuple #[.slice none 0 0, .bool false] ∧ H w' h Ls :=
  (graphOf_ok hH hP).mono fun v w' hh => by
    rcases hh with ⟨_, h1, h2⟩ | ⟨h1, _⟩
    · exact ⟨h1, h2⟩
    · rw [hv] at h1; cases h1
theorem graphOf_yes (hH : H w h Ls) {pv : Value} {p : List Nd} (hP : Plan h pv p) (hv : planOk p = true) : Rets Try.prog 93 #[pv] w fun v w' => ∃ gv g h', v = .tuple #[gv, .bool true] ∧ h.Le h' ∧ H w' h' Ls ∧ GraphRd h' gv g p :=
  (graphOf_ok hH hP).mono fun v w' hh => by
    rcases hh with ⟨h1, _⟩ | ⟨_, h2⟩
    · rw [hv] at h1; cases h1
    · exact h2

theorem planUses_ok (hH : H w h Ls) {pv : Value} {p : List Nd} (hP : Plan h pv p) (a : Int) : Rets Try.prog 46 #[pv, .int .i64 a] w fun v w' => ∃ X, IRow X 3 v (usesOf p a) ∧ H w' h (X :: Ls) := by
  refine rets_enter Try.func46 rfl Try.ntmps46 (by simp) ?_
  by_cases hv : planOk p = true
  case neg =>
    rw [Bool.not_eq_true] at hv
    refine WT_seq ?_
    refine WT_region ?_
    refine WL_v rfl (ov_assign rfl) ?_
    refine WL_nil ?_
    refine WT_seq ?_
    refine WT_region ?_
    refine WL_v rfl (ov_move rfl) ?_
    refine WL_call rfl rfl cf_impl_graphOf (graphOf_no hH hP hv) ?_; rintro _ w1 ⟨rfl, hH1⟩
    refine WL_v rfl (ov_move rfl) ?_
    refine WL_v rfl (ov_extract rfl rfl) ?_
    refine WL_v rfl (ov_extract rfl rfl) ?_
    refine WL_v rfl (ov_assign rfl) ?_
    refine WL_v rfl (ov_assign rfl) ?_
    refine WL_nil ?_
    refine WT_seq ?_
    refine WT_seq ?_
    refine WT_region ?_
    refine WL_v rfl (ov_move rfl) ?_
    refine WL_v rfl (ov_T (ov_not rfl) (by first | exact decide_eq_true rfl | exact nb_T rfl | exact mb_T rfl | exact rfl | (simp only [decide_eq_true_eq]; omega) | simpa using rfl)) ?_
    refine WL_v rfl (ov_move rfl) ?_
    refine WL_guardOff rfl rfl rfl rfl ?_
    refine WL_guardOff rfl rfl rfl rfl ?_
    refine WL_guardOff rfl rfl rfl rfl ?_
    refine WL_guardOff rfl rfl rfl rfl ?_
    refine WL_v rfl (ov_pickT rfl rfl) ?_
    refine WL_nil ?_
    refine WT_condT rfl ?_
    refine WT_seq ?_
    refine WT_region ?_
    refine WL_v rfl (ov_assign rfl) ?_
    refine WL_nil ?_
    exact WT_ret1 Try.func46 Try.results46 rfl ⟨[], by unfold usesOf; rw [if_neg (by simp [hv])]; exact IRow.nil _, hH1.nilIn⟩
  have hlen := PlanOk.len hv
  refine WT_seq ?_
  refine WT_region ?_
  refine WL_v rfl (ov_assign rfl) ?_
  refine WL_nil ?_
  refine WT_seq ?_
  refine WT_region ?_
  refine WL_v rfl (ov_move rfl) ?_
  refine WL_call rfl rfl cf_impl_graphOf (graphOf_yes hH hP hv) ?_; rintro _ w1 ⟨gv, g, h', rfl, hle, hH1, hG⟩
  refine WL_v rfl (ov_move rfl) ?_
  refine WL_v rfl (ov_extract rfl rfl) ?_
  refine WL_v rfl (ov_extract rfl rfl) ?_
  refine WL_v rfl (ov_assign rfl) ?_
  refine WL_v rfl (ov_assign rfl) ?_
  refine WL_nil ?_
  refine WT_seq ?_
  refine WT_seq ?_
  refine WT_region ?_
  refine WL_v rfl (ov_move rfl) ?_
  refine WL_v rfl (ov_F (ov_not rfl) (by first | exact decide_eq_false rfl | exact nb_F rfl | exact mb_F rfl | exact rfl | (simp only [decide_eq_false_iff_not]; omega) | simpa using rfl)) ?_
  refine WL_v rfl (ov_move rfl) ?_
  refine WL_guardOn rfl rfl ?_
  refine WL_v rfl (ov_move rfl) ?_
  refine WL_guardOn rfl rfl ?_
  refine WL_v rfl (ov_move rfl) ?_
  refine WL_guardOn rfl rfl ?_
  refine WL_call rfl rfl cf_impl_isNode (isNode_ok hH1 hP.sl a) ?_; rintro _ w2 ⟨rfl, hH2⟩
  refine WL_guardOn rfl rfl ?_
  refine WL_v rfl (ov_not rfl) ?_
  refine WL_v rfl (ov_pickF rfl rfl) ?_
  refine WL_nil ?_
  refine WT_cond rfl (fun hn => ?_) (fun hn => ?_)
  · skip
    first | with_reducible replace hn := of_decide_eq_true hn | with_reducible replace hn := bn_T hn | with_reducible replace hn := bb_T hn | skip
    refine WT_seq ?_
    refine WT_region ?_
    refine WL_v rfl (ov_assign rfl) ?_
    refine WL_nil ?_
    exact WT_ret1 Try.func46 Try.results46 rfl ⟨[], by unfold usesOf; rw [if_neg (fun hh => hn hh.2)]; exact IRow.nil _, (hH2.weak hle).nilIn⟩
  first | with_reducible replace hn := of_decide_eq_false hn | with_reducible replace hn := bn_F hn | with_reducible replace hn := bb_F hn | skip
  obtain ⟨i, hi⟩ := Int.eq_ofNat_of_zero_le hn.1
  subst hi
  have hin : i < p.length := by omega
  obtain ⟨nv, uv, hbox, hns, hnr, hus, hur⟩ := hG.box hin
  have hul := usersTo_len p p.length i
  refine WT_skip ?_
  refine WT_seq ?_
  refine WT_region ?_
  refine WL_v rfl (ov_assign rfl) ?_
  refine WL_nil ?_
  refine WT_seq ?_
  refine WT_seq ?_
  refine WT_region ?_
  refine WL_v rfl (ov_move rfl) ?_
  refine WL_v rfl (ov_move rfl) ?_
  refine WL_v rfl (ov_index rfl rfl st_sl_p_impl_planNode hG.sl hin) ?_
  refine WL_v rfl (ov_load rfl one_p_impl_planNode (hG.elem hH2 hin)) ?_
  refine WL_v rfl (ov_nilCheck rfl) ?_
  refine WL_v rfl (ov_field rfl fo_impl_planNode_2) ?_
  refine WL_v rfl (ov_load rfl one_sl_p_impl_planNode (hbox hH2 2 rfl)) ?_
  refine WL_v rfl (ov_len rfl hus st_sl_p_impl_planNode) ?_
  refine WL_v rfl (ov_move rfl) ?_
  refine WL_nil ?_
  refine WT_block ?_
  refine WT_while (fun s : Nat × Value => [(7, s.2), (29, uv), (30, .int .i64 ((usersTo p p.length i).length : Int)), (31, .int .i64 (s.1 : Int))]) (fun s w => s.1 ≤ (usersTo p p.length i).length ∧ ∃ X, IRow X 3 s.2 (toI ((usersTo p p.length i).take s.1)) ∧ H w h' (X :: Ls)) (fun s => (usersTo p p.length i).length - s.1) (0, .slice none 0 0) (by repeat (first | exact trivial | refine ⟨rfl, ?_⟩)) ⟨by omega, [], IRow.nil _, hH2.nilIn⟩ ?_
  clear hH hH1 hH2
  rintro ⟨k, sv⟩ w3 ⟨hk, X, hX, hH⟩ again
  simp only at hk hX
  refine WT_seq ?_
  refine WT_region ?_
  refine WL_v rfl (ov_lss rfl rfl) ?_
  refine WL_nil ?_
  refine WT_seq ?_
  refine WT_cond rfl (fun hc => ?_) (fun hc => ?_)
  · skip
    first | with_reducible replace hc := of_decide_eq_true hc | with_reducible replace hc := bn_T hc | with_reducible replace hc := bb_T hc | skip
    simp only at hc
    have hku : k < (usersTo p p.length i).length := by omega
    have hul2 : (usersTo p p.length i)[k] < p.length := usersTo_lt (List.getElem_mem hku)
    refine WT_skip ?_
    refine WT_seq ?_
    refine WT_block ?_
    refine WT_seq ?_
    refine WT_region ?_
    refine WL_v rfl (ov_index rfl rfl st_sl_p_impl_planNode hus hku) ?_
    refine WL_v rfl (ov_load rfl one_p_impl_planNode (hur.ptrs hH hku)) ?_
    refine WL_v rfl (ov_assign rfl) ?_
    refine WL_nil ?_
    refine WT_region ?_
    refine WL_v rfl (ov_move rfl) ?_
    refine WL_v rfl (ov_move rfl) ?_
    refine WL_v rfl (ov_nilCheck rfl) ?_
    refine WL_v rfl (ov_field rfl fo_impl_planNode_0) ?_
    refine WL_v rfl (ov_load rfl one_int (hG.num hH hul2)) ?_
    refine WL_bsI rfl hH rfl (run_bs_int _) ?_; rintro Y yv w4 hY hH4
    refine WL_appI (i := 1) (j := 0) rfl hH4 rfl rfl st_sl_int rfl hX rfl hY (by simp [toI_len]; omega) (by simp [toI_len]; omega) ?_; rintro X2 sv2 w5 hX2 hH5
    refine WL_v rfl (ov_assign rfl) ?_
    refine WL_nil ?_
    refine WT_inBlock ?_
    refine WT_region ?_
    refine WL_v rfl (ov_add rfl rfl (by omega)) ?_
    refine WL_v rfl (ov_move rfl) ?_
    refine WL_nil ?_
    refine again (k + 1, sv2) _ _ (by simp only; omega) (by repeat (first | exact trivial | refine ⟨rfl, ?_⟩)) ⟨by simp only; omega, X2, by rw [List.take_succ_eq_append_getElem hku, toI_snoc]; exact hX2, hH5.drop⟩
  first | with_reducible replace hc := of_decide_eq_false hc | with_reducible replace hc := bn_F hc | with_reducible replace hc := bb_F hc | skip
  simp only at hc
  obtain rfl : k = (usersTo p p.length i).length := by omega
  rw [List.take_length] at hX
  refine WT_exit rfl ?_
  refine WT_seq ?_
  refine WT_region ?_
  refine WL_v rfl (ov_move rfl) ?_
  refine WL_v rfl (ov_assign rfl) ?_
  refine WL_nil ?_
  exact WT_ret1 Try.func46 Try.results46 rfl ⟨X, by unfold usesOf; rw [if_pos ⟨hv, hn.1, hn.2⟩]; simpa using hX, hH.weak hle⟩

theorem sameRow_ok (hH : H w h Ls) {av bv : Value} {xs ys : List Int} (hA : RdL h Ls av xs) (hB : RdL h Ls bv ys) : Rets Try.prog 23 #[av, bv] w fun v w' => v = .bool (decide (xs = ys)) ∧ H w' h Ls := by
  have hal := hA.sl.lim
  refine rets_enter Try.func23 rfl Try.ntmps23 (by simp) ?_
  refine WT_seq ?_
  refine WT_region ?_
  refine WL_v rfl (ov_assign rfl) ?_
  refine WL_nil ?_
  refine WT_seq ?_
  refine WT_seq ?_
  refine WT_region ?_
  refine WL_v rfl (ov_move rfl) ?_
  refine WL_v rfl (ov_len rfl hA.sl st_sl_int) ?_
  refine WL_v rfl (ov_move rfl) ?_
  refine WL_v rfl (ov_len rfl hB.sl st_sl_int) ?_
  refine WL_v rfl (ov_neq rfl rfl) ?_
  refine WL_nil ?_
  refine WT_cond rfl (fun hne => ?_) (fun hne => ?_)
  · skip
    first | with_reducible replace hne := of_decide_eq_true hne | with_reducible replace hne := bn_T hne | with_reducible replace hne := bb_T hne | skip
    refine WT_seq ?_
    refine WT_region ?_
    refine WL_v rfl (ov_assign rfl) ?_
    refine WL_nil ?_
    exact WT_ret1 Try.func23 Try.results23 rfl ⟨congrArg Value.bool (decide_eq_false fun h => by subst h; exact hne rfl).symm, hH⟩
  first | with_reducible replace hne := of_decide_eq_false hne | with_reducible replace hne := bn_F hne | with_reducible replace hne := bb_F hne | skip
  have hlen : xs.length = ys.length := by omega
  refine WT_skip ?_
  refine WT_seq ?_
  refine WT_seq ?_
  refine WT_region ?_
  refine WL_v rfl (ov_assign rfl) ?_
  refine WL_nil ?_
  refine WT_block ?_
  refine WT_while (fun s : Nat => [(0, av), (1, bv), (5, .int .i64 (s : Int))]) (fun k w => k ≤ xs.length ∧ (∀ j (_ : j < k) (h1 : j < xs.length) (h2 : j < ys.length), xs[j] = ys[j]) ∧ H w h Ls) (fun k => xs.length - k) 0 (by repeat (first | exact trivial | refine ⟨rfl, ?_⟩)) ⟨by omega, by omega, hH⟩ ?_
  clear hH
  rintro k w2 ⟨hk, hall, hH1⟩ again
  refine WT_seq ?_
  refine WT_seq ?_
  refine WT_region ?_
  refine WL_v rfl (ov_move rfl) ?_
  refine WL_v rfl (ov_move rfl) ?_
  refine WL_v rfl (ov_len rfl hA.sl st_sl_int) ?_
  refine WL_v rfl (ov_lss rfl rfl) ?_
  refine WL_nil ?_
  refine WT_cond rfl (fun hc => ?_) (fun hc => ?_)
  · skip
    first | with_reducible replace hc := of_decide_eq_true hc | with_reducible replace hc := bn_T hc | with_reducible replace hc := bb_T hc | skip
    have hkx : k < xs.length := by omega
    have hky : k < ys.length := by omega
    refine WT_skip ?_
    refine WT_seq ?_
    refine WT_block ?_
    refine WT_seq ?_
    refine WT_quiet mixed (by kernel_rfl) hH1 ?_
    clear hH1
    refine WQ_v rfl (fun _ _ => ov_move rfl) ?_
    refine WQ_v rfl (fun _ _ => ov_move rfl) ?_
    refine WQ_v rfl (fun _ _ => ov_index rfl rfl st_sl_int hA.sl hkx) ?_
    refine WQ_v rfl (fun _ hH => ov_load rfl one_int (hA.cell hH hkx)) ?_
    refine WQ_v rfl (fun _ _ => ov_move rfl) ?_
    refine WQ_v rfl (fun _ _ => ov_move rfl) ?_
    refine WQ_v rfl (fun _ _ => ov_index rfl rfl st_sl_int hB.sl hky) ?_
    refine WQ_v rfl (fun _ hH => ov_load rfl one_int (hB.cell hH hky)) ?_
    refine WQ_v rfl (fun _ _ => ov_neq rfl rfl) ?_
    refine WQ_nil ?_
    intro w3 hH1
    refine WT_cond rfl (fun hne => ?_) (fun hne => ?_)
    · skip
      first | with_reducible replace hne := of_decide_eq_true hne | with_reducible replace hne := bn_T hne | with_reducible replace hne := bb_T hne | skip
      refine WT_seq ?_
      refine WT_region ?_
      refine WL_v rfl (ov_assign rfl) ?_
      refine WL_nil ?_
      exact WT_ret1 Try.func23 Try.results23 rfl ⟨congrArg Value.bool (decide_eq_false fun h => by subst h; exact hne rfl).symm, hH1⟩
    first | with_reducible replace hne := of_decide_eq_false hne | with_reducible replace hne := bn_F hne | with_reducible replace hne := bb_F hne | skip
    refine WT_skip ?_
    refine WT_inBlock ?_
    refine WT_region ?_
    refine WL_v rfl (ov_move rfl) ?_
    refine WL_v rfl (ov_add rfl rfl (by omega)) ?_
    refine WL_v rfl (ov_assign rfl) ?_
    refine WL_nil ?_
    refine again (k + 1) _ _ (by omega) (by repeat (first | exact trivial | refine ⟨rfl, ?_⟩)) ⟨by omega, fun j hj h1 h2 => ?_, hH1⟩
    rcases Nat.lt_or_ge j k with h3 | h3
    · exact hall j h3 h1 h2
    · obtain rfl : j = k := by omega
      simpa using hne
  first | with_reducible replace hc := of_decide_eq_false hc | with_reducible replace hc := bn_F hc | with_reducible replace hc := bb_F hc | skip
  obtain rfl : k = xs.length := by omega
  refine WT_exit rfl ?_
  refine WT_seq ?_
  refine WT_region ?_
  refine WL_v rfl (ov_assign rfl) ?_
  refine WL_nil ?_
  exact WT_ret1 Try.func23 Try.results23 rfl ⟨congrArg Value.bool (decide_eq_true (List.ext_getElem hlen fun j h1 h2 => hall j h1 h1 h2)).symm, hH1⟩

theorem hasInt_ok (hH : H w h Ls) {av : Value} {xs : List Int} (hA : RdL h Ls av xs) (n : Int) : Rets Try.prog 55 #[av, .int .i64 n] w fun v w' => v = .bool (decide (n ∈ xs)) ∧ H w' h Ls := by
  have hal := hA.sl.lim
  refine rets_enter Try.func55 rfl Try.ntmps55 (by simp) ?_
  refine WT_seq ?_
  refine WT_region ?_
  refine WL_v rfl (ov_assign rfl) ?_
  refine WL_nil ?_
  refine WT_seq ?_
  refine WT_seq ?_
  refine WT_region ?_
  refine WL_v rfl (ov_assign rfl) ?_
  refine WL_nil ?_
  refine WT_block ?_
  refine WT_while (fun s : Nat => [(0, av), (1, .int .i64 n), (5, .int .i64 (s : Int))]) (fun k w => k ≤ xs.length ∧ (∀ j (_ : j < k) (h1 : j < xs.length), xs[j] ≠ n) ∧ H w h Ls) (fun k => xs.length - k) 0 (by repeat (first | exact trivial | refine ⟨rfl, ?_⟩)) ⟨by omega, by omega, hH⟩ ?_
  clear hH
  rintro k w2 ⟨hk, hall, hH1⟩ again
  refine WT_seq ?_
  refine WT_seq ?_
  refine WT_region ?_
  refine WL_v rfl (ov_move rfl) ?_
  refine WL_v rfl (ov_move rfl) ?_
  refine WL_v rfl (ov_len rfl hA.sl st_sl_int) ?_
  refine WL_v rfl (ov_lss rfl rfl) ?_
  refine WL_nil ?_
  refine WT_cond rfl (fun hc => ?_) (fun hc => ?_)
  · skip
    first | with_reducible replace hc := of_decide_eq_true hc | with_reducible replace hc := bn_T hc | with_reducible replace hc := bb_T hc | skip
    have hkx : k < xs.length := by omega
    refine WT_skip ?_
    refine WT_seq ?_
    refine WT_block ?_
    refine WT_seq ?_
    refine WT_region ?_
    refine WL_v rfl (ov_move rfl) ?_
    refine WL_v rfl (ov_move rfl) ?_
    refine WL_v rfl (ov_index rfl rfl st_sl_int hA.sl hkx) ?_
    refine WL_v rfl (ov_load rfl one_int (hA.cell hH1 hkx)) ?_
    refine WL_v rfl (ov_move rfl) ?_
    refine WL_v rfl (ov_eql rfl rfl) ?_
    refine WL_nil ?_
    refine WT_cond rfl (fun heq => ?_) (fun heq => ?_)
    · skip
      first | with_reducible replace heq := of_decide_eq_true heq | with_reducible replace heq := bn_T heq | with_reducible replace heq := bb_T heq | skip
      refine WT_seq ?_
      refine WT_region ?_
      refine WL_v rfl (ov_assign rfl) ?_
      refine WL_nil ?_
      exact WT_ret1 Try.func55 Try.results55 rfl ⟨congrArg Value.bool (decide_eq_true (heq ▸ List.getElem_mem hkx)).symm, hH1⟩
    first | with_reducible replace heq := of_decide_eq_false heq | with_reducible replace heq := bn_F heq | with_reducible replace heq := bb_F heq | skip
    refine WT_skip ?_
    refine WT_inBlock ?_
    refine WT_region ?_
    refine WL_v rfl (ov_move rfl) ?_
    refine WL_v rfl (ov_add rfl rfl (by omega)) ?_
    refine WL_v rfl (ov_assign rfl) ?_
    refine WL_nil ?_
    refine again (k + 1) _ _ (by omega) (by repeat (first | exact trivial | refine ⟨rfl, ?_⟩)) ⟨by omega, fun j hj h1 => ?_, hH1⟩
    rcases Nat.lt_or_ge j k with h3 | h3
    · exact hall j h3 h1
    · obtain rfl : j = k := by omega
      exact heq
  first | with_reducible replace hc := of_decide_eq_false hc | with_reducible replace hc := bn_F hc | with_reducible replace hc := bb_F hc | skip
  obtain rfl : k = xs.length := by omega
  refine WT_exit rfl ?_
  refine WT_seq ?_
  refine WT_region ?_
  refine WL_v rfl (ov_assign rfl) ?_
  refine WL_nil ?_
  exact WT_ret1 Try.func55 Try.results55 rfl ⟨congrArg Value.bool (decide_eq_false fun hm => by obtain ⟨j, hj, he⟩ := List.mem_iff_getElem.1 hm; exact hall j hj hj he).symm, hH1⟩
end
end Go.Proofs.Ytmcedghgincaaaa
