/- Walks: the graph of a plan; a plan is valid. -/
import Derived.Test.YtmcedghgincaaaaWkE
namespace Go.Proofs.Ytmcedghgincaaaa
open Go.RowKit

theorem nodeOk_eq (x : Nd) (i wide : Nat) : nodeOk x i wide = (fitsB x i && (if x.kind = 0 then decide (x.row.length = wide) else true)) := by
  unfold nodeOk fitsB
  by_cases h0 : x.kind = 0
  · simp only [h0, if_true]
    cases decide (kindNeeds 0 = (x.frm.length : Int)) <;> cases rowOk x.row <;> cases x.frm.all (fun f => decide (0 ≤ f ∧ f ≤ (i : Int) - 1)) <;> simp
  · simp only [h0, if_false, Bool.and_true]
    by_cases h1 : x.row.length = 0
    · have : x.row = [] := List.eq_nil_of_length_eq_zero h1
      rw [this]
      have : rowOk [] = true := by decide
      rw [this]; simp
    · rw [decide_eq_false h1]; simp

theorem wideOf_first : ∀ {p : List Nd} {k : Nat} (hk : k < p.length), p[k].kind = 0 → (∀ j (_ : j < k) (hj : j < p.length), p[j].kind ≠ 0) → wideOf p = p[k].row.length
  | x :: r, 0, _, h0, _ => by simp only [List.getElem_cons_zero] at h0; simp [wideOf, h0]
  | x :: r, k + 1, hk, h0, hn => by
    have := hn 0 (by omega) (by simp)
    simp only [List.getElem_cons_zero] at this
    rw [wideOf, if_neg this]
    exact wideOf_first (p := r) (k := k) (by simpa using hk) (by simpa using h0) (fun j hj hjl => by have := hn (j + 1) (by omega) (by simpa using hjl); simpa only [List.getElem_cons_succ] using this)

/-- The width so far: none, or that of the plan. -/
def WdOk (p : List Nd) (k : Nat) (wd : Int) : Prop := (wd = -1 ∧ ∀ j (_ : j < k) (hj : j < p.length), p[j].kind ≠ 0) ∨ wd = (wideOf p : Int)

theorem planOk_of {p : List Nd} (hl : p.length ≤ 10) (h : ∀ j (hj : j < p.length), nodeOk p[j] j (wideOf p) = true) : planOk p = true := (planOk_iff p).2 ⟨hl, h⟩
theorem planOk_long {p : List Nd} (hl : 10 < p.length) : planOk p = false := by
  cases hp : planOk p with
  | false => rfl
  | true => have := PlanOk.len hp; omega

theorem PlanNodeLt {p : List Nd} {k : Nat} (hall : ∀ j (_ : j < k) (hj : j < p.length), nodeOk p[j] j (wideOf p) = true) {j : Nat} (hjp : j < p.length) (hj : j < k) : ∀ f ∈ p[j].frm, f < (j : Int) := fun f hf =>
  ((nodeOk_spec (hall j hj hjp)).frm f hf).2

/-- A graph that is shared. -/
structure GraphRd (h : GH) (gv : Value) (g : Nat → Nat) (p : List Nd) : Prop where
  sl : Sl gv p.length
  rd : Rd h gv ((List.range p.length).map fun j => ptr (g j))
  node : ∀ i, i < p.length → ∃ nv uv, (∃ e fz, h.blk (g i) = some (.cells #[.int .i64 (i : Int), nv, uv] e fz)) ∧
    Sl nv (needTo (p.getD i default).frm).length ∧ Rd h nv ((needTo (p.getD i default).frm).map fun j => ptr (g j)) ∧
    Sl uv (usersTo p p.length i).length ∧ Rd h uv ((usersTo p p.length i).map fun j => ptr (g j))

section
variable {h : GH} {Ls : List Heaplet} {w : World}

theorem H.addNode {B X GX : Heaplet} {Gs : List Heaplet} (hH : H w h (B :: X :: GX :: (Gs ++ Ls))) : H w h ((Gs ++ [B, [], []]) ++ (X :: GX :: Ls)) := by
  refine HF.perm hH ?_
  simp only [List.flatten_cons, List.flatten_append, List.flatten_nil, List.append_nil]
  have h1 : (B ++ (X ++ (GX ++ (Gs.flatten ++ Ls.flatten)))).Perm (X ++ (GX ++ (Gs.flatten ++ (B ++ Ls.flatten)))) := by
    have : (B ++ (X ++ GX ++ Gs.flatten)).Perm (X ++ GX ++ Gs.flatten ++ B) := List.perm_append_comm
    simpa [List.append_assoc] using this.append_right Ls.flatten
  have h2 : (X ++ (GX ++ (Gs.flatten ++ (B ++ Ls.flatten)))).Perm (Gs.flatten ++ B ++ (X ++ (GX ++ Ls.flatten))) := by
    have : (X ++ GX ++ (Gs.flatten ++ B)).Perm (Gs.flatten ++ B ++ (X ++ GX)) := List.perm_append_comm
    simpa [List.append_assoc] using this.append_right Ls.flatten
  exact h1.trans h2
theorem H.backG {X GX : Heaplet} {Gs : List Heaplet} (hH : H w h (Gs ++ (X :: GX :: Ls))) : H w h (X :: GX :: (Gs ++ Ls)) :=
  hH.perm (List.perm_middle.trans (List.Perm.cons _ List.perm_middle))

theorem run_build_pn (n : Int) (W : World) : (Instr.build 101 #[(0, .int .i64 n)]).run Try.prog W = .ok (.agg #[.int .i64 n, .slice none 0 0, .slice none 0 0]) W := by kernel_rfl

/-- The graph, shared. -/
theorem Gr.freeze {GX : Heaplet} {Gs : List Heaplet} {g : Nat → Nat} {p : List Nd} {gv : Value} (hX : Row GX 102 1 gv p.length ((List.range p.length).map fun j => ptr (g j)))
    (hG : Gr Gs g (fun i => needTo (p.getD i default).frm) (fun i => usersTo p p.length i) p.length) (hH : H w h (GX :: (Gs ++ Ls))) :
    ∃ h', h.Le h' ∧ H w h' Ls ∧ GraphRd h' gv g p := by
  have hH' : H w h ((GX :: Gs).flatten :: Ls) := by simpa [H] using hH
  obtain ⟨h', hle, hH2, hX2, _, _⟩ := hH'.freeze
  have hin : ∀ {X : Heaplet} {i : Nat}, Gs[i]? = some X → ∀ q ∈ X, h'.blk q.1 = some q.2 := fun hi q hq => (hX2 q (by
    simp only [List.flatten_cons]
    exact List.mem_append_right _ (List.mem_flatten.2 ⟨_, List.mem_of_getElem? hi, hq⟩))).1
  refine ⟨h', hle, hH2, hX.sl, hX.rd (fun q hq => (hX2 q (by simp [hq])).1), fun i hi => ?_⟩
  obtain ⟨nv, uv, NX, UX, h1, h2, h3, h4, h5⟩ := hG.node i hi
  exact ⟨nv, uv, ⟨_, _, hin h1 _ (List.mem_singleton.2 rfl)⟩, h4.sl, h4.rd (hin h2), h5.sl, h5.rd (hin h3)⟩

set_option maxHeartbeats 1000000 in
theorem graphOf_ok (hH : H w h Ls) {pv : Value} {p : List Nd} (hP : Plan h pv p) : Rets Try.prog 93 #[pv] w fun v w' =>
    (planOk p = false ∧ v = .tuple #[.slice none 0 0, .bool false] ∧ H w' h Ls) ∨ (planOk p = true ∧ ∃ gv g h', v = .tuple #[gv, .bool true] ∧ h.Le h' ∧ H w' h' Ls ∧ GraphRd h' gv g p) := by
  refine rets_enter Try.func93 rfl Try.ntmps93 (by simp) ?_
  refine WT_seq ?_
  refine WT_region ?_
  refine WL_v rfl (ov_assign rfl) ?_
  refine WL_v rfl (ov_assign rfl) ?_
  refine WL_nil ?_
  refine WT_seq ?_
  refine WT_seq ?_
  refine WT_region ?_
  refine WL_v rfl (ov_move rfl) ?_
  refine WL_v rfl (ov_len rfl hP.sl st_sl_impl_Node) ?_
  refine WL_v rfl (ov_gtr rfl rfl) ?_
  refine WL_nil ?_
  refine WT_cond rfl (fun hl => ?_) (fun hl => ?_)
  · skip
    first | with_reducible replace hl := of_decide_eq_true hl | with_reducible replace hl := bn_T hl | with_reducible replace hl := bb_T hl | skip
    refine WT_seq ?_
    refine WT_region ?_
    refine WL_v rfl (ov_assign rfl) ?_
    refine WL_v rfl (ov_assign rfl) ?_
    refine WL_nil ?_
    exact WT_ret2 Try.func93 Try.results93 rfl rfl (.inl ⟨planOk_long (by omega), rfl, hH⟩)
  first | with_reducible replace hl := of_decide_eq_false hl | with_reducible replace hl := bn_F hl | with_reducible replace hl := bb_F hl | skip
  refine WT_skip ?_
  refine WT_seq ?_
  refine WT_region ?_
  refine WL_v rfl (ov_move rfl) ?_
  refine WL_v rfl (ov_len rfl hP.sl st_sl_impl_Node) ?_
  refine WL_make (n := 0) (c := p.length) rfl hH rfl rfl st_sl_p_impl_planNode (by omega) (by omega) (by omega) (by omega) ?_; rintro GX0 gv0 w1 hGX0 hH1
  refine WL_v rfl (ov_assign rfl) ?_
  refine WL_nil ?_
  refine WT_seq ?_
  refine WT_region ?_
  refine WL_v rfl (ov_assign rfl) ?_
  refine WL_nil ?_
  refine WT_seq ?_
  refine WT_seq ?_
  refine WT_region ?_
  refine WL_v rfl (ov_move rfl) ?_
  refine WL_v rfl (ov_len rfl hP.sl st_sl_impl_Node) ?_
  refine WL_v rfl (ov_move rfl) ?_
  refine WL_nil ?_
  refine WT_block ?_
  refine WT_while (fun s : Nat × Value × Int => [(0, pv), (4, s.2.1), (5, .int .i64 s.2.2), (17, pv), (18, .int .i64 (p.length : Int)), (19, .int .i64 (s.1 : Int))])
    (fun s w => s.1 ≤ p.length ∧ (∀ j (_ : j < s.1) (hj : j < p.length), nodeOk p[j] j (wideOf p) = true) ∧ WdOk p s.1 s.2.2 ∧ ∃ GX Gs g, Row GX 102 1 s.2.1 s.1 ((List.range s.1).map fun j => ptr (g j)) ∧
      Gr Gs g (fun i => needTo (p.getD i default).frm) (fun i => usersTo p s.1 i) s.1 ∧ H w h (GX :: (Gs ++ Ls)))
    (fun s => p.length - s.1) (0, gv0, -1) (by repeat (first | exact trivial | refine ⟨rfl, ?_⟩)) ⟨by omega, by omega, .inl ⟨rfl, by omega⟩, GX0, [], fun _ => 0, by simpa using hGX0, ⟨rfl, by omega, by omega, by omega⟩, hH1⟩ ?_
  clear hH hH1 hGX0
  rintro ⟨k, gv, wd⟩ w2 ⟨hk, hall, hwd, GX, Gs, g, hGX, hG, hH⟩ again
  simp only at hk hall hwd hGX hG
  refine WT_seq ?_
  refine WT_region ?_
  refine WL_v rfl (ov_lss rfl rfl) ?_
  refine WL_nil ?_
  refine WT_seq ?_
  refine WT_cond rfl (fun hc => ?_) (fun hc => ?_)
  · skip
    first | with_reducible replace hc := of_decide_eq_true hc | with_reducible replace hc := bn_T hc | with_reducible replace hc := bb_T hc | skip
    have hkp : k < p.length := by omega
    have hgk := getD_of hkp
    obtain ⟨fv, rv, hf, hr, hcell⟩ := hP.node hkp
    refine WT_skip ?_
    refine WT_seq ?_
    refine WT_block ?_
    refine WT_seq ?_
    refine WT_region ?_
    refine WL_v rfl (ov_move rfl) ?_
    refine WL_v rfl (ov_index rfl rfl st_sl_impl_Node hP.sl hkp) ?_
    refine WL_v rfl (ov_loadN [.int .i64 p[k].kind, fv, rv] rfl agg_impl_Node rfl ((hcell _ _ hH))) ?_
    refine WL_alloc _ rfl hH zero_impl_Node rfl ?_; rintro gx w3 hH3
    refine WL_v rfl (ov_assign rfl) ?_
    refine WL_storeN hH3 rfl rfl (i := 0) rfl rfl rfl (ones_cons rfl (ones_cons hf.sl.one (ones_cons hr.sl.one ones_nil))) sz_impl_Node ?_; rintro w4 hH4
    refine WL_nil ?_
    refine WT_seq ?_
    refine WT_seq ?_
    refine WT_region ?_
    refine WL_v rfl (ov_loadN [.int .i64 p[k].kind, fv, rv] rfl agg_impl_Node rfl ((fun j u hj => by rw [add_of rfl, hH4.cb 0 rfl]; simpa using hj))) ?_
    refine WL_v rfl (ov_move rfl) ?_
    refine WL_call rfl rfl cf_impl_nodeFits (nodeFits_ok hH4 ⟨fv, rv, rfl, hf, hr⟩ k) ?_; rintro _ w5 ⟨rfl, hH5⟩
    refine WL_v rfl (ov_not rfl) ?_
    refine WL_nil ?_
    clear hH hH3 hH4
    refine WT_cond rfl (fun hfit => ?_) (fun hfit => ?_)
    · skip
      first | with_reducible replace hfit := of_decide_eq_true hfit | with_reducible replace hfit := bn_T hfit | with_reducible replace hfit := bb_T hfit | skip
      refine WT_seq ?_
      refine WT_region ?_
      refine WL_v rfl (ov_assign rfl) ?_
      refine WL_v rfl (ov_assign rfl) ?_
      refine WL_nil ?_
      exact WT_ret2 Try.func93 Try.results93 rfl rfl (.inl ⟨planOk_bad hkp (by rw [nodeOk_eq, hfit, Bool.false_and]), rfl, H.drops (_ :: GX :: Gs) hH5⟩)
    first | with_reducible replace hfit := of_decide_eq_false hfit | with_reducible replace hfit := bn_F hfit | with_reducible replace hfit := bb_F hfit | skip
    refine WT_skip ?_
    refine WT_seq ?_
    refine WT_seq ?_
    refine WT_region ?_
    refine WL_v rfl (ov_field rfl fo_impl_Node_0) ?_
    refine WL_v rfl (ov_load rfl one_int (hH5.cb 0 rfl 0)) ?_
    refine WL_v rfl (ov_eql rfl rfl) ?_
    refine WL_nil ?_
    have hfrm : ∀ f ∈ p[k].frm, 0 ≤ f ∧ f < (k : Int) := by
      have h1 := hfit
      simp only [fitsB, Bool.and_eq_true, List.all_eq_true, decide_eq_true_eq] at h1
      intro f hf
      have := h1.1.2 f hf
      omega
    have hfl : p[k].frm.length ≤ 2 := by
      have h1 := hfit
      simp only [fitsB, Bool.and_eq_true, decide_eq_true_eq] at h1
      have := kindNeeds_le p[k].kind
      have := h1.1.1
      omega
    refine WT_join (ι := Int) (fun wd => [(0, pv), (4, gv), (5, .int .i64 wd), (6, .int .i64 (k : Int)), (7, .pointer (some ⟨gx, 0, none⟩)), (17, pv), (18, .int .i64 (p.length : Int)), (19, .int .i64 (k : Int))])
      (fun wd w => WdOk p (k + 1) wd ∧ nodeOk p[k] k (wideOf p) = true ∧ H w h ([(gx, .cells #[.int .i64 p[k].kind, fv, rv] 58 (0, 0))] :: GX :: (Gs ++ Ls))) (fun joined => ?_) ?_
    · skip
      refine WT_cond rfl (fun h0 => ?_) (fun h0 => ?_)
      · skip
        first | with_reducible replace h0 := of_decide_eq_true h0 | with_reducible replace h0 := bn_T h0 | with_reducible replace h0 := bb_T h0 | skip
        by_cases hw : 0 ≤ wd
        · have hwd' : wd = (wideOf p : Int) := hwd.elim (fun h1 => by have := h1.1; omega) id
          refine WT_seq ?_
          refine WT_seq ?_
          refine WT_region ?_
          refine WL_v rfl (ov_move rfl) ?_
          refine WL_v rfl (ov_T (ov_geq rfl rfl) (by first | exact decide_eq_true hw | exact nb_T hw | exact mb_T hw | exact hw | (simp only [decide_eq_true_eq]; omega) | simpa using hw)) ?_
          refine WL_v rfl (ov_move rfl) ?_
          refine WL_guardOn rfl rfl ?_
          refine WL_v rfl (ov_field rfl fo_impl_Node_2) ?_
          refine WL_guardOn rfl rfl ?_
          refine WL_v rfl (ov_load rfl one_sl_int (hH5.cb 0 rfl 2)) ?_
          refine WL_guardOn rfl rfl ?_
          refine WL_v rfl (ov_len rfl hr.sl st_sl_int) ?_
          refine WL_guardOn rfl rfl ?_
          refine WL_v rfl (ov_move rfl) ?_
          refine WL_guardOn rfl rfl ?_
          refine WL_v rfl (ov_neq rfl rfl) ?_
          refine WL_v rfl (ov_pickT rfl rfl) ?_
          refine WL_nil ?_
          refine WT_cond rfl (fun hne => ?_) (fun hne => ?_)
          · skip
            first | with_reducible replace hne := of_decide_eq_true hne | with_reducible replace hne := bn_T hne | with_reducible replace hne := bb_T hne | skip
            dsimp only at hne
            refine WT_seq ?_
            refine WT_region ?_
            refine WL_v rfl (ov_assign rfl) ?_
            refine WL_v rfl (ov_assign rfl) ?_
            refine WL_nil ?_
            exact WT_ret2 Try.func93 Try.results93 rfl rfl (.inl ⟨planOk_bad hkp (by rw [nodeOk_eq, if_pos h0, decide_eq_false (by omega), Bool.and_false]), rfl, H.drops (_ :: GX :: Gs) hH5⟩)
          first | with_reducible replace hne := of_decide_eq_false hne | with_reducible replace hne := bn_F hne | with_reducible replace hne := bb_F hne | skip
          dsimp only at hne
          refine WT_skip ?_
          refine WT_region ?_
          refine WL_v rfl (ov_field rfl fo_impl_Node_2) ?_
          refine WL_v rfl (ov_load rfl one_sl_int (hH5.cb 0 rfl 2)) ?_
          refine WL_v rfl (ov_len rfl hr.sl st_sl_int) ?_
          refine WL_v rfl (ov_assign rfl) ?_
          refine WL_nil ?_
          exact joined (p[k].row.length : Int) _ _ (by repeat (first | exact trivial | refine ⟨rfl, ?_⟩)) ⟨.inr (by omega), by rw [nodeOk_eq, hfit, if_pos h0, decide_eq_true (by omega)]; rfl, hH5⟩
        have hwd' : ∀ j (_ : j < k) (hj : j < p.length), p[j].kind ≠ 0 := hwd.elim (·.2) (fun h1 => by omega)
        have hwo := wideOf_first hkp h0 hwd'
        refine WT_seq ?_
        refine WT_seq ?_
        refine WT_region ?_
        refine WL_v rfl (ov_move rfl) ?_
        refine WL_v rfl (ov_F (ov_geq rfl rfl) (by first | exact decide_eq_false hw | exact nb_F hw | exact mb_F hw | exact hw | (simp only [decide_eq_false_iff_not]; omega) | simpa using hw)) ?_
        refine WL_v rfl (ov_move rfl) ?_
        refine WL_guardOff rfl rfl rfl rfl ?_
        refine WL_guardOff rfl rfl rfl rfl ?_
        refine WL_guardOff rfl rfl rfl rfl ?_
        refine WL_guardOff rfl rfl rfl rfl ?_
        refine WL_guardOff rfl rfl rfl rfl ?_
        refine WL_v rfl (ov_pickF rfl rfl) ?_
        refine WL_nil ?_
        refine WT_condF rfl ?_
        refine WT_skip ?_
        refine WT_region ?_
        refine WL_v rfl (ov_field rfl fo_impl_Node_2) ?_
        refine WL_v rfl (ov_load rfl one_sl_int (hH5.cb 0 rfl 2)) ?_
        refine WL_v rfl (ov_len rfl hr.sl st_sl_int) ?_
        refine WL_v rfl (ov_assign rfl) ?_
        refine WL_nil ?_
        exact joined (p[k].row.length : Int) _ _ (by repeat (first | exact trivial | refine ⟨rfl, ?_⟩)) ⟨.inr (by omega), by rw [nodeOk_eq, hfit, if_pos h0, decide_eq_true (by omega)]; rfl, hH5⟩
      first | with_reducible replace h0 := of_decide_eq_false h0 | with_reducible replace h0 := bn_F h0 | with_reducible replace h0 := bb_F h0 | skip
      refine WT_skip ?_
      refine joined wd _ _ (by repeat (first | exact trivial | refine ⟨rfl, ?_⟩)) ⟨?_, by rw [nodeOk_eq, hfit, if_neg h0]; rfl, hH5⟩
      rcases hwd with ⟨h1, h2⟩ | h1
      · refine .inl ⟨h1, fun j hj hjl => ?_⟩
        rcases Nat.lt_or_ge j k with h3 | h3
        · exact h2 j h3 hjl
        · obtain rfl : j = k := by omega
          exact h0
      · exact .inr h1
    clear hH5 hwd
    rintro wd2 w6 ⟨hwd, hnode, hH5⟩
    refine WT_seq ?_
    refine WT_region ?_
    refine WL_v rfl (ov_move rfl) ?_
    refine WL_v rfl (ov_build rfl (run_build_pn _)) ?_
    refine WL_box _ rfl hH5 rfl rfl ?_; rintro gn w7 hH6
    refine WL_v rfl (ov_assign rfl) ?_
    refine WL_nil ?_
    refine WT_seq ?_
    refine WT_seq ?_
    refine WT_region ?_
    refine WL_v rfl (ov_field rfl fo_impl_Node_1) ?_
    refine WL_v rfl (ov_load rfl one_sl_int (hH6.cb 1 rfl 1)) ?_
    refine WL_v rfl (ov_len rfl hf.sl st_sl_int) ?_
    refine WL_v rfl (ov_move rfl) ?_
    refine WL_nil ?_
    refine WT_block ?_
    have hG1 := hG.new (gn := gn)
    have hH7 := hH6.addNode
    clear hH5 hH6
    refine WT_while (fun s : Nat => [(0, pv), (4, gv), (5, .int .i64 wd2), (8, ptr gn), (17, pv), (18, .int .i64 (p.length : Int)), (19, .int .i64 (k : Int)), (47, fv), (48, .int .i64 (p[k].frm.length : Int)), (49, .int .i64 (s : Int))])
      (fun j w => j ≤ p[k].frm.length ∧ ∃ Gs', Gr Gs' (fun a => if a = k then gn else g a) (fun a => if a = k then needTo (p[k].frm.take j) else needTo (p.getD a default).frm) (fun a => if a = k then [] else usersTo p k a ++ (if a ∈ needTo (p[k].frm.take j) then [k] else [])) (k + 1) ∧
        H w h (Gs' ++ ([(gx, .cells #[.int .i64 p[k].kind, fv, rv] 58 (0, 0))] :: GX :: Ls)))
      (fun j => p[k].frm.length - j) 0 (by repeat (first | exact trivial | refine ⟨rfl, ?_⟩)) ⟨by omega, _, hG1.congr (fun a _ => by by_cases ha : a = k <;> simp [ha, needTo]) (fun a _ => by by_cases ha : a = k <;> simp [ha, needTo]), hH7⟩ ?_
    clear hG1 hH7
    rintro j w8 ⟨hj, Gs', hG', hH8⟩ again2
    refine WT_seq ?_
    refine WT_region ?_
    refine WL_v rfl (ov_lss rfl rfl) ?_
    refine WL_nil ?_
    refine WT_seq ?_
    refine WT_cond rfl (fun hc2 => ?_) (fun hc2 => ?_)
    · skip
      first | with_reducible replace hc2 := of_decide_eq_true hc2 | with_reducible replace hc2 := bn_T hc2 | with_reducible replace hc2 := bb_T hc2 | skip
      have hjl : j < p[k].frm.length := by omega
      have hfb := hfrm p[k].frm[j] (List.getElem_mem hjl)
      obtain ⟨fn, hfn⟩ := Int.eq_ofNat_of_zero_le hfb.1
      have hfk : fn < k := by omega
      have hgl := hG'.len
      have hcellG : w8.cell? ((slA gv).add (fn * 1)) = some (ptr (g fn)) := by
        rw [Nat.mul_one]
        exact hGX.cell hH8 (i := Gs'.length + 1) (by rw [List.getElem?_append_right (by omega)]; simp) (by simp [hfk])
      have hlink := link_ok hG' hH8 (i := k) (f := fn) (by omega) (by omega) (by
        simp only [if_true]
        have := needTo_len (p[k].frm.take j)
        rw [List.length_take] at this; omega) (by
        simp only [show ¬ fn = k by omega, if_false, List.length_append]
        have := usersTo_len p k fn
        split <;> simp <;> omega)
      simp only [if_true, show ¬ fn = k by omega, if_false] at hlink
      refine WT_skip ?_
      refine WT_seq ?_
      refine WT_block ?_
      refine WT_seq ?_
      refine WT_region ?_
      refine WL_v rfl (ov_index rfl rfl st_sl_int hf.sl hjl) ?_
      refine WL_v rfl (ov_load rfl one_int (hf.cell hH8 hjl)) ?_; rw [hfn]
      refine WL_v rfl (ov_assign rfl) ?_
      refine WL_nil ?_
      refine WT_region ?_
      refine WL_v rfl (ov_move rfl) ?_
      refine WL_v rfl (ov_move rfl) ?_
      refine WL_v rfl (ov_move rfl) ?_
      refine WL_v rfl (ov_index rfl rfl st_sl_p_impl_planNode hGX.sl hfk) ?_
      refine WL_v rfl (ov_load rfl one_p_impl_planNode (hcellG)) ?_
      refine WL_call rfl rfl cf_p_impl_planNode_link (hlink) ?_; rintro _ w9 ⟨Gs2, hG2, hH9⟩
      refine WL_nil ?_
      refine WT_inBlock ?_
      refine WT_region ?_
      refine WL_v rfl (ov_add rfl rfl (by omega)) ?_
      refine WL_v rfl (ov_move rfl) ?_
      refine WL_nil ?_
      refine again2 (j + 1) _ _ (by omega) (by repeat (first | exact trivial | refine ⟨rfl, ?_⟩)) ⟨by omega, Gs2, hG2.congr (fun a _ => ?_) (fun a _ => ?_), hH9⟩
      · by_cases ha : a = k
        · subst ha
          simp only [if_true]
          rw [List.take_succ_eq_append_getElem hjl, needTo_snoc, hfn]
          simp
        · simp [ha]
      · rw [List.take_succ_eq_append_getElem hjl, needTo_snoc, hfn]
        simp only [Int.toNat_natCast, mem_addN]
        by_cases ha : a = k
        · subst ha
          simp only [if_true]
          rw [if_neg (by omega)]
        · simp only [ha, if_false]
          by_cases haf : a = fn
          · subst haf
            by_cases hm : a ∈ needTo (List.take j p[k].frm) <;> simp [hm]
          · simp [haf]
    first | with_reducible replace hc2 := of_decide_eq_false hc2 | with_reducible replace hc2 := bn_F hc2 | with_reducible replace hc2 := bb_F hc2 | skip
    obtain rfl : j = p[k].frm.length := by omega
    have hH9 := hH8.backG.drop
    rw [List.take_length] at hG'
    clear hH8
    refine WT_exit rfl ?_
    refine WT_region ?_
    refine WL_v rfl (ov_move rfl) ?_
    refine WL_v rfl (ov_move rfl) ?_
    refine WL_buildSlice (sz := 1) [ptr gn] rfl hH9 rfl (run_bs_ptr _) rfl (by omega) ?_; rintro Y yv w9 hY hH10
    refine WL_append1 (i := 1) (j := 0) rfl hH10 rfl rfl st_sl_p_impl_planNode (by omega) rfl hGX rfl hY (ones_cons rfl ones_nil) (by omega) (by omega) ?_; rintro GX2 gv2 w10 hGX2 hH11
    refine WL_v rfl (ov_assign rfl) ?_
    refine WL_nil ?_
    refine WT_inBlock ?_
    refine WT_region ?_
    refine WL_v rfl (ov_add rfl rfl (by omega)) ?_
    refine WL_v rfl (ov_move rfl) ?_
    refine WL_nil ?_
    refine again (k + 1, gv2, wd2) _ _ (by simp only; omega) (by repeat (first | exact trivial | refine ⟨rfl, ?_⟩)) ⟨by simp only; omega, fun j hj hjl => ?_, hwd, GX2, Gs', _, ?_, hG'.congr (fun a _ => ?_) (fun a ha => ?_), hH11.drop⟩
    · rcases Nat.lt_or_ge j k with h1 | h1
      · exact hall j h1 hjl
      · obtain rfl : j = k := by simp only at hj; omega
        exact hnode
    · rw [List.range_succ, List.map_append]
      have hm : ((List.range k).map fun j => ptr (if j = k then gn else g j)) = (List.range k).map fun j => ptr (g j) :=
        List.map_congr_left fun j hj => by rw [if_neg (by have := List.mem_range.1 hj; omega)]
      rw [hm]
      simpa using hGX2
    · by_cases ha : a = k
      · subst ha; rw [hgk, if_pos rfl]
      · simp [ha]
    · rw [usersTo_succ hkp (fun f hf => (hfrm f hf).1)]
      by_cases hak : a = k
      · subst hak
        have h1 : usersTo p a a = [] := by
          apply List.eq_nil_iff_forall_not_mem.2
          intro j hj
          obtain ⟨h2, h3⟩ := mem_usersTo.1 hj
          rw [getD_of (by omega)] at h3
          have := PlanNodeLt hall (by omega) h2 _ h3
          omega
        have h2 : ¬ a ∈ needTo p[a].frm := by
          rw [mem_needTo' (fun f hf => (hfrm f hf).1)]
          intro h3
          have := (hfrm _ h3).2
          omega
        simp [h1, h2]
      · simp [hak]
  first | with_reducible replace hc := of_decide_eq_false hc | with_reducible replace hc := bn_F hc | with_reducible replace hc := bb_F hc | skip
  obtain rfl : k = p.length := by omega
  obtain ⟨h', hle, hH2, hGr⟩ := hG.freeze hGX hH
  refine WT_exit rfl ?_
  refine WT_seq ?_
  refine WT_region ?_
  refine WL_v rfl (ov_move rfl) ?_
  refine WL_v rfl (ov_assign rfl) ?_
  refine WL_v rfl (ov_assign rfl) ?_
  refine WL_nil ?_
  exact WT_ret2 Try.func93 Try.results93 rfl rfl (.inr ⟨planOk_of (by omega) (fun j hj => hall j hj hj), gv, g, h', rfl, hle, hH2, hGr⟩)
end
end Go.Proofs.Ytmcedghgincaaaa
