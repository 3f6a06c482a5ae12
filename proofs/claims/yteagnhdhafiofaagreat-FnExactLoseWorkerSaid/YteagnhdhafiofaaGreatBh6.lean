/- Crews that come in, opened. -/
import Derived.Test.YteagnhdhafiofaaGreatBh5
import Derived.Test.YteagnhdhafiofaaGreatSlE
import Derived.Test.YteagnhdhafiofaaGreatSlO
namespace Go.Proofs.YteagnhdhafiofaaGreat
open Go.ChangeShapes Go.WideShapes Go.ChangeAt Go.RowKit Go.Deep

/-- A crew that came in. -/
def CrIn (h : GH) (v : Value) (c : Cr) : Prop := ∃ dv cv nv rv, v = crV dv cv nv rv ∧ Lists h dv c.dq ∧ Ints h cv c.ct ∧ Ints h nv c.dn ∧ Lists h rv c.rw

section
variable {H0 : Type} {enc : TypeId × Value → H0} {P : Program} {W : World} {base : Nat}

theorem open_lists {t e eI : TypeId} {fuel : Nat} {v : Value} {x : DataW H0 × List MemPlace} (ht : P.underlying t = some (.slice e)) (he : P.underlying e = some (.slice eI)) (hI : P.underlying eI = some (.int .i64)) (hc : P.cellsOf eI = 1) (hC : P.cellsOf e = 1)
    (h : DataW.trod enc P W 0 (fun _ => true) true fuel t [v] = some x) : ∃ ls, Lists (GH.full W) v ls := by
  rcases open_slice ht h with ⟨hcs, _⟩ | ⟨a, len, cap, m, n, D, Pl, hcs, _, hl, hm, hmm, _, hi⟩
  · simp only [List.cons.injEq, and_true] at hcs
    subst hcs
    exact ⟨[], ⟨by simp, none, 0, rfl, by simp, by simp, by simp⟩, fun hi => by simp at hi⟩
  · simp only [List.cons.injEq, and_true] at hcs
    subst hcs
    simp only [if_true] at hmm
    subst hmm
    rw [hC] at hi
    have hm' : m ≤ 9223372036854775807 := by unfold maxLen at hm; omega
    have key : ∀ i, i < m → ∃ (l : List Int) (u : Value), Ints (GH.full W) u l ∧ W.cell? (a.add i) = some u := fun i him => by
      obtain ⟨cs', hcell, htr⟩ := hi i him
      obtain ⟨_, hlen, hat⟩ := World.cells?_some hcell
      match cs', hlen with
      | [c0], _ =>
        obtain ⟨fs, hf1, hf2, _⟩ := open_num (v := c0) he hI hc htr
        refine ⟨fs, c0, ⟨hf1, hf2⟩, ?_⟩
        have := hat 0 (by simp)
        rw [Nat.mul_one, add_add, Nat.add_zero] at this
        simpa using this
    have hg : ∃ g : Nat → List Int, ∀ i, i < m → ∃ u, Ints (GH.full W) u (g i) ∧ W.cell? (a.add i) = some u :=
      ⟨fun i => if him : i < m then Classical.choose (key i him) else [], fun i him => by simp only [dif_pos him]; exact Classical.choose_spec (key i him)⟩
    obtain ⟨g, hg⟩ := hg
    have hsp : 0 < m → a.spot = none := fun h0 => by
      obtain ⟨_, _, h3⟩ := hg 0 h0
      exact spot_of h3 rfl
    refine ⟨(List.range len).map g, ⟨by simp; omega, some a, m, by simp, by simpa using hl, fun _ => rfl, fun h0 b hb => by cases hb; exact hsp (by simp at h0; omega)⟩, fun {i} hil => ?_⟩
    have hil' : i < len := by simpa using hil
    obtain ⟨u, h3, h5⟩ := hg i (by omega)
    have hgi : ((List.range len).map g)[i] = g i := by simp
    rw [hgi]
    have h7 := hsp (by omega)
    rw [add_of h7] at h5
    obtain ⟨_, cs, e', fz, h8, h9⟩ := full_of_cell h5
    exact ⟨u, h3, h7, cs, e', fz, h8, h9⟩

theorem open_crew {t tL tI : TypeId} {f0 f1 f2 f3 : Field} {r : Reach} {v : Value} {d : DataW H0} {p : List MemPlace} (ht : P.underlying t = some (.struct #[f0, f1, f2, f3])) (hone : oneCellFields P #[f0, f1, f2, f3] = true) (hC : P.cellsOf t = 4)
    (h0 : P.underlying f0.type = some (.slice tL)) (h1 : P.underlying f1.type = some (.slice tI)) (h2 : P.underlying f2.type = some (.slice tI)) (h3 : P.underlying f3.type = some (.slice tL))
    (hL : P.underlying tL = some (.slice tI)) (hI : P.underlying tI = some (.int .i64)) (hc : P.cellsOf tI = 1) (hcL : P.cellsOf tL = 1)
    (hv : Value.okWide P W r base t v) (h : DataW.Trod enc P W 0 (fun _ => true) true t v d p) : ∃ c, CrIn (GH.full W) v c := by
  obtain ⟨cs, rfl, hsz⟩ := okWide_struct ht hv
  obtain ⟨fuel, hf⟩ := h
  obtain ⟨ys, n', _, _, _, hyl, hfd⟩ := DataW.trod_struct ht hf
  rw [hC] at hsz
  obtain ⟨l⟩ := cs
  match l, hsz with
  | [c0, c1, c2, c3], _ =>
    match ys, hyl with
    | [y0, y1, y2, y3], _ =>
      obtain ⟨o0, k0⟩ := hone_of hone 0 f0 rfl
      obtain ⟨o1, k1⟩ := hone_of hone 1 f1 rfl
      obtain ⟨o2, k2⟩ := hone_of hone 2 f2 rfl
      obtain ⟨o3, k3⟩ := hone_of hone 3 f3 rfl
      have g0 := hfd 0 f0 rfl
      have g1 := hfd 1 f1 rfl
      have g2 := hfd 2 f2 rfl
      have g3 := hfd 3 f3 rfl
      rw [o0, k0] at g0
      rw [o1, k1] at g1
      rw [o2, k2] at g2
      rw [o3, k3] at g3
      obtain ⟨dq, e0⟩ := open_lists (v := c0) h0 hL hI hc hcL g0
      obtain ⟨ct, e1, e1', _⟩ := open_num (v := c1) h1 hI hc g1
      obtain ⟨dn, e2, e2', _⟩ := open_num (v := c2) h2 hI hc g2
      obtain ⟨rw_, e3⟩ := open_lists (v := c3) h3 hL hI hc hcL g3
      exact ⟨⟨dq, ct, dn, rw_⟩, c0, c1, c2, c3, rfl, e0, ⟨e1, e1'⟩, ⟨e2, e2'⟩, e3⟩
end
end Go.Proofs.YteagnhdhafiofaaGreat

/- Walks: crews that come in: sized, copied, compared. -/
namespace Go.Proofs.YteagnhdhafiofaaGreat
open Go.RowKit

abbrev lcbox (b : Nat) (dv cv nv rv : Value) : Heaplet := [(b, .cells #[dv, cv, nv, rv] 38 (0, 0))]
/-- What a crew that came in is at most. -/
structure CrSz (c : Cr) : Prop where
  dq : c.dq.length ≤ 1048576
  dd : c.dq.flatten.length ≤ 1048576
  ct : c.ct.length ≤ 1048576
  dn : c.dn.length ≤ 1048576
  rw : c.rw.length ≤ 1048576
  rd : c.rw.flatten.length ≤ 1048576
theorem CrSz.lim {c : Cr} (h : CrSz c) : CrLim c := ⟨by have := h.dq; omega, by have := h.dd; omega, by have := h.ct; omega, by have := h.dn; omega, by have := h.rw; omega, fun i hi => by
  have h1 := h.rd
  have h2 := len_flat hi
  omega⟩

section
variable {h : GH} {Ls : List Heaplet} {w : World}

theorem loadLC {i b : Nat} {dv cv nv rv : Value} (hi : Ls[i]? = some (lcbox b dv cv nv rv)) (hH : H w h Ls) : ∀ j v, [dv, cv, nv, rv][j]? = some v → w.cell? (Addr.add ⟨b, 0, none⟩ j) = some v := fun j v hj => by
  rw [show Addr.add ⟨b, 0, none⟩ j = ⟨b, j, none⟩ by simp [add_of]]
  exact (hH.cb i hi j).trans (by simpa using hj)
theorem take_flat_snoc {ls : List (List Int)} {k : Nat} (hk : k < ls.length) : (ls.take (k + 1)).flatten.length = (ls.take k).flatten.length + ls[k].length := by
  rw [take_flat hk, List.length_append]

theorem szIntS_ok2 (hH : H w h Ls) {av : Value} {xs : List Int} (hA : Ints h av xs) {r : Int} (hr : 0 ≤ r ∧ r ≤ 1048576) : Rets Tryz.prog 51 #[av, .int .i64 r] w fun v w' => ∃ s : Int, v = .int .i64 s ∧ s ≤ r ∧ (s = -1 ∨ (0 ≤ s ∧ s + (xs.length : Int) ≤ r)) ∧ H w' h Ls := by
  have hal := hA.sl.lim
  refine rets_enter Tryz.func51 rfl Tryz.ntmps51 (by simp) ?_
  refine WT_seq ?_
  refine WT_region ?_
  refine WL_v rfl (ov_assign rfl) ?_
  refine WL_nil ?_
  refine WT_seq ?_
  refine WT_region ?_
  refine WL_v rfl (ov_move rfl) ?_
  refine WL_v rfl (ov_move rfl) ?_
  refine WL_v rfl (ov_len rfl hA.sl st_sl_int) ?_
  refine WL_v rfl (ov_sub rfl rfl (by omega)) ?_
  refine WL_v rfl (ov_assign rfl) ?_
  refine WL_nil ?_
  refine WT_seq ?_
  refine WT_seq ?_
  refine WT_region ?_
  refine WL_v rfl (ov_move rfl) ?_
  refine WL_v rfl (ov_lss rfl rfl) ?_
  refine WL_nil ?_
  refine WT_cond rfl (fun hne => ?_) (fun hne => ?_)
  · skip
    first | with_reducible replace hne := of_decide_eq_true hne | with_reducible replace hne := bn_T hne | with_reducible replace hne := bb_T hne | skip
    refine WT_seq ?_
    refine WT_region ?_
    refine WL_v rfl (ov_assign rfl) ?_
    refine WL_nil ?_
    exact WT_ret1 Tryz.func51 Tryz.results51 rfl ⟨_, rfl, by omega, .inl rfl, hH⟩
  first | with_reducible replace hne := of_decide_eq_false hne | with_reducible replace hne := bn_F hne | with_reducible replace hne := bb_F hne | skip
  refine WT_skip ?_
  refine WT_seq ?_
  refine WT_region ?_
  refine WL_v rfl (ov_move rfl) ?_
  refine WL_v rfl (ov_assign rfl) ?_
  refine WL_nil ?_
  exact WT_ret1 Tryz.func51 Tryz.results51 rfl ⟨_, rfl, by omega, .inr ⟨by omega, by omega⟩, hH⟩

theorem szNodeS_ok2 (hH : H w h Ls) {pv : Value} {p : List Nd} (hP : Plan h pv p) : Rets Tryz.prog 18 #[pv, .int .i64 1048576] w fun v w' => ∃ s : Int, v = .int .i64 s ∧ s ≤ 1048576 ∧ (s = -1 ∨ (0 ≤ s ∧ p.length ≤ 1048576 ∧ ∀ i (hi : i < p.length), p[i].frm.length ≤ 1048576 ∧ p[i].row.length ≤ 1048576)) ∧ H w' h Ls := by
  have hal := hP.sl.lim
  refine rets_enter Tryz.func18 rfl Tryz.ntmps18 (by simp) ?_
  refine WT_seq ?_
  refine WT_region ?_
  refine WL_v rfl (ov_assign rfl) ?_
  refine WL_nil ?_
  refine WT_seq ?_
  refine WT_region ?_
  refine WL_v rfl (ov_move rfl) ?_
  refine WL_v rfl (ov_move rfl) ?_
  refine WL_v rfl (ov_len rfl hP.sl st_sl_laws_Node) ?_
  refine WL_v rfl (ov_sub rfl rfl (by omega)) ?_
  refine WL_v rfl (ov_assign rfl) ?_
  refine WL_nil ?_
  refine WT_seq ?_
  refine WT_seq ?_
  refine WT_region ?_
  refine WL_v rfl (ov_move rfl) ?_
  refine WL_v rfl (ov_lss rfl rfl) ?_
  refine WL_nil ?_
  refine WT_cond rfl (fun hne => ?_) (fun hne => ?_)
  · skip
    first | with_reducible replace hne := of_decide_eq_true hne | with_reducible replace hne := bn_T hne | with_reducible replace hne := bb_T hne | skip
    refine WT_seq ?_
    refine WT_region ?_
    refine WL_v rfl (ov_assign rfl) ?_
    refine WL_nil ?_
    exact WT_ret1 Tryz.func18 Tryz.results18 rfl ⟨_, rfl, by omega, .inl rfl, hH⟩
  first | with_reducible replace hne := of_decide_eq_false hne | with_reducible replace hne := bn_F hne | with_reducible replace hne := bb_F hne | skip
  refine WT_skip ?_
  refine WT_seq ?_
  refine WT_seq ?_
  refine WT_region ?_
  refine WL_v rfl (ov_assign rfl) ?_
  refine WL_nil ?_
  refine WT_block ?_
  refine WT_while (fun s : Nat × Int => [(0, pv), (1, .int .i64 s.2), (5, .int .i64 (s.1 : Int))]) (fun s w => s.1 ≤ p.length ∧ 0 ≤ s.2 ∧ s.2 ≤ 1048576 ∧ (∀ i (_ : i < s.1) (hi : i < p.length), p[i].frm.length ≤ 1048576 ∧ p[i].row.length ≤ 1048576) ∧ H w h Ls) (fun s => p.length - s.1) (0, 1048576 - (p.length : Int)) (by repeat (first | exact trivial | refine ⟨rfl, ?_⟩)) ⟨by omega, by simp only; omega, by simp only; omega, by omega, hH⟩ ?_
  clear hH
  rintro ⟨k, r⟩ w2 ⟨hk, hr1, hr2, hall, hH⟩ again
  simp only at hk hr1 hr2 hall
  refine WT_seq ?_
  refine WT_seq ?_
  refine WT_region ?_
  refine WL_v rfl (ov_move rfl) ?_
  refine WL_v rfl (ov_move rfl) ?_
  refine WL_v rfl (ov_len rfl hP.sl st_sl_laws_Node) ?_
  refine WL_v rfl (ov_lss rfl rfl) ?_
  refine WL_nil ?_
  refine WT_cond rfl (fun hc => ?_) (fun hc => ?_)
  · skip
    first | with_reducible replace hc := of_decide_eq_true hc | with_reducible replace hc := bn_T hc | with_reducible replace hc := bb_T hc | skip
    simp only at hc
    have hkp : k < p.length := by omega
    obtain ⟨fv, rv, hx, hcell⟩ := hP.ndV' hkp
    refine WT_skip ?_
    refine WT_seq ?_
    refine WT_block ?_
    refine WT_seq ?_
    refine WT_region ?_
    refine WL_v rfl (ov_move rfl) ?_
    refine WL_v rfl (ov_move rfl) ?_
    refine WL_v rfl (ov_index rfl rfl st_sl_laws_Node hP.sl hkp) ?_
    refine WL_v rfl (ov_loadN [.int .i64 p[k].kind, fv, rv] rfl agg_laws_Node rfl ((hcell _ _ hH))) ?_
    refine WL_v rfl (ov_move rfl) ?_
    refine WL_call rfl rfl cf_laws_szNode (szNode_ok hH hx (show 0 ≤ r ∧ r ≤ 1048576 from ⟨hr1, hr2⟩)) ?_; rintro _ w3 ⟨s, rfl, hs1, hs2, hH3⟩
    refine WL_v rfl (ov_assign rfl) ?_
    refine WL_nil ?_
    refine WT_seq ?_
    refine WT_region ?_
    refine WL_v rfl (ov_move rfl) ?_
    refine WL_v rfl (ov_lss rfl rfl) ?_
    refine WL_nil ?_
    refine WT_cond rfl (fun hne2 => ?_) (fun hne2 => ?_)
    · skip
      first | with_reducible replace hne2 := of_decide_eq_true hne2 | with_reducible replace hne2 := bn_T hne2 | with_reducible replace hne2 := bb_T hne2 | skip
      refine WT_seq ?_
      refine WT_region ?_
      refine WL_v rfl (ov_assign rfl) ?_
      refine WL_nil ?_
      exact WT_ret1 Tryz.func18 Tryz.results18 rfl ⟨_, rfl, by omega, .inl rfl, hH3⟩
    first | with_reducible replace hne2 := of_decide_eq_false hne2 | with_reducible replace hne2 := bn_F hne2 | with_reducible replace hne2 := bb_F hne2 | skip
    refine WT_skip ?_
    refine WT_inBlock ?_
    refine WT_region ?_
    refine WL_v rfl (ov_move rfl) ?_
    refine WL_v rfl (ov_add rfl rfl (by omega)) ?_
    refine WL_v rfl (ov_assign rfl) ?_
    refine WL_nil ?_
    refine again (k + 1, s) _ _ (by simp only; omega) (by repeat (first | exact trivial | refine ⟨rfl, ?_⟩)) ⟨by simp only; omega, by simp only; omega, by simp only; omega, fun i hi hil => ?_, hH3⟩
    simp only at hi
    rcases Nat.lt_or_ge i k with h3 | h3
    · exact hall i h3 hil
    · obtain rfl : i = k := by omega
      omega
  first | with_reducible replace hc := of_decide_eq_false hc | with_reducible replace hc := bn_F hc | with_reducible replace hc := bb_F hc | skip
  simp only at hc
  obtain rfl : k = p.length := by omega
  refine WT_exit rfl ?_
  refine WT_seq ?_
  refine WT_region ?_
  refine WL_v rfl (ov_move rfl) ?_
  refine WL_v rfl (ov_assign rfl) ?_
  refine WL_nil ?_
  exact WT_ret1 Tryz.func18 Tryz.results18 rfl ⟨_, rfl, by omega, .inr ⟨hr1, by omega, fun i hi => hall i hi hi⟩, hH⟩

theorem szIntSS_ok (hH : H w h Ls) {av : Value} {ls : List (List Int)} (hA : Lists h av ls) {r : Int} (hr : 0 ≤ r ∧ r ≤ 1048576) : Rets Tryz.prog 50 #[av, .int .i64 r] w fun v w' => ∃ s : Int, v = .int .i64 s ∧ s ≤ r ∧ (s = -1 ∨ (0 ≤ s ∧ (ls.length : Int) ≤ r ∧ (ls.flatten.length : Int) ≤ r)) ∧ H w' h Ls := by
  have hal := hA.sl.lim
  refine rets_enter Tryz.func50 rfl Tryz.ntmps50 (by simp) ?_
  refine WT_seq ?_
  refine WT_region ?_
  refine WL_v rfl (ov_assign rfl) ?_
  refine WL_nil ?_
  refine WT_seq ?_
  refine WT_region ?_
  refine WL_v rfl (ov_move rfl) ?_
  refine WL_v rfl (ov_move rfl) ?_
  refine WL_v rfl (ov_len rfl hA.sl st_sl_sl_int) ?_
  refine WL_v rfl (ov_sub rfl rfl (by omega)) ?_
  refine WL_v rfl (ov_assign rfl) ?_
  refine WL_nil ?_
  refine WT_seq ?_
  refine WT_seq ?_
  refine WT_region ?_
  refine WL_v rfl (ov_move rfl) ?_
  refine WL_v rfl (ov_lss rfl rfl) ?_
  refine WL_nil ?_
  refine WT_cond rfl (fun hne => ?_) (fun hne => ?_)
  · skip
    first | with_reducible replace hne := of_decide_eq_true hne | with_reducible replace hne := bn_T hne | with_reducible replace hne := bb_T hne | skip
    refine WT_seq ?_
    refine WT_region ?_
    refine WL_v rfl (ov_assign rfl) ?_
    refine WL_nil ?_
    exact WT_ret1 Tryz.func50 Tryz.results50 rfl ⟨_, rfl, by omega, .inl rfl, hH⟩
  first | with_reducible replace hne := of_decide_eq_false hne | with_reducible replace hne := bn_F hne | with_reducible replace hne := bb_F hne | skip
  refine WT_skip ?_
  refine WT_seq ?_
  refine WT_seq ?_
  refine WT_region ?_
  refine WL_v rfl (ov_assign rfl) ?_
  refine WL_nil ?_
  refine WT_block ?_
  refine WT_while (fun s : Nat × Int => [(0, av), (1, .int .i64 s.2), (5, .int .i64 (s.1 : Int))]) (fun s w => s.1 ≤ ls.length ∧ 0 ≤ s.2 ∧ s.2 + ((ls.take s.1).flatten.length : Int) ≤ r - (ls.length : Int) ∧ H w h Ls) (fun s => ls.length - s.1) (0, r - (ls.length : Int)) (by repeat (first | exact trivial | refine ⟨rfl, ?_⟩)) ⟨by omega, by simp only; omega, by simp, hH⟩ ?_
  clear hH
  rintro ⟨k, r'⟩ w2 ⟨hk, hr1, hr2, hH⟩ again
  simp only at hk hr1 hr2
  refine WT_seq ?_
  refine WT_seq ?_
  refine WT_region ?_
  refine WL_v rfl (ov_move rfl) ?_
  refine WL_v rfl (ov_move rfl) ?_
  refine WL_v rfl (ov_len rfl hA.sl st_sl_sl_int) ?_
  refine WL_v rfl (ov_lss rfl rfl) ?_
  refine WL_nil ?_
  refine WT_cond rfl (fun hc => ?_) (fun hc => ?_)
  · skip
    first | with_reducible replace hc := of_decide_eq_true hc | with_reducible replace hc := bn_T hc | with_reducible replace hc := bb_T hc | skip
    simp only at hc
    have hkp : k < ls.length := by omega
    obtain ⟨u, hu, hcell⟩ := hA.elem hkp
    have hts := take_flat_snoc hkp
    refine WT_skip ?_
    refine WT_seq ?_
    refine WT_block ?_
    refine WT_seq ?_
    refine WT_region ?_
    refine WL_v rfl (ov_move rfl) ?_
    refine WL_v rfl (ov_move rfl) ?_
    refine WL_v rfl (ov_index rfl rfl st_sl_sl_int hA.sl hkp) ?_
    refine WL_v rfl (ov_load rfl one_sl_int (hcell hH)) ?_
    refine WL_v rfl (ov_move rfl) ?_
    refine WL_call rfl rfl cf_laws_szIntS (szIntS_ok2 hH hu (show 0 ≤ r' ∧ r' ≤ 1048576 by omega)) ?_; rintro _ w3 ⟨s, rfl, hs1, hs2, hH3⟩
    refine WL_v rfl (ov_assign rfl) ?_
    refine WL_nil ?_
    refine WT_seq ?_
    refine WT_region ?_
    refine WL_v rfl (ov_move rfl) ?_
    refine WL_v rfl (ov_lss rfl rfl) ?_
    refine WL_nil ?_
    refine WT_cond rfl (fun hne2 => ?_) (fun hne2 => ?_)
    · skip
      first | with_reducible replace hne2 := of_decide_eq_true hne2 | with_reducible replace hne2 := bn_T hne2 | with_reducible replace hne2 := bb_T hne2 | skip
      refine WT_seq ?_
      refine WT_region ?_
      refine WL_v rfl (ov_assign rfl) ?_
      refine WL_nil ?_
      exact WT_ret1 Tryz.func50 Tryz.results50 rfl ⟨_, rfl, by omega, .inl rfl, hH3⟩
    first | with_reducible replace hne2 := of_decide_eq_false hne2 | with_reducible replace hne2 := bn_F hne2 | with_reducible replace hne2 := bb_F hne2 | skip
    refine WT_skip ?_
    refine WT_inBlock ?_
    refine WT_region ?_
    refine WL_v rfl (ov_move rfl) ?_
    refine WL_v rfl (ov_add rfl rfl (by omega)) ?_
    refine WL_v rfl (ov_assign rfl) ?_
    refine WL_nil ?_
    refine again (k + 1, s) _ _ (by simp only; omega) (by repeat (first | exact trivial | refine ⟨rfl, ?_⟩)) ⟨by simp only; omega, by simp only; omega, by simp only; omega, hH3⟩
  first | with_reducible replace hc := of_decide_eq_false hc | with_reducible replace hc := bn_F hc | with_reducible replace hc := bb_F hc | skip
  simp only at hc
  obtain rfl : k = ls.length := by omega
  rw [List.take_length] at hr2
  refine WT_exit rfl ?_
  refine WT_seq ?_
  refine WT_region ?_
  refine WL_v rfl (ov_move rfl) ?_
  refine WL_v rfl (ov_assign rfl) ?_
  refine WL_nil ?_
  exact WT_ret1 Tryz.func50 Tryz.results50 rfl ⟨_, rfl, by omega, .inr ⟨hr1, by omega, by omega⟩, hH⟩

theorem szCrew_ok (hH : H w h Ls) {v : Value} {c : Cr} (hC : CrIn h v c) {r : Int} (hr : 0 ≤ r ∧ r ≤ 1048576) : Rets Tryz.prog 19 #[v, .int .i64 r] w fun u w' => ∃ s : Int, u = .int .i64 s ∧ (s = -1 ∨ CrSz c) ∧ H w' h Ls := by
  obtain ⟨dv, cv, nv, rv, rfl, h1, h2, h3, h4⟩ := hC
  obtain ⟨A2, c2, rfl, _⟩ := h1.sl.form
  obtain ⟨A3, c3, rfl, _⟩ := h2.sl.form
  obtain ⟨A4, c4, rfl, _⟩ := h3.sl.form
  obtain ⟨A5, c5, rfl, _⟩ := h4.sl.form
  refine rets_enter Tryz.func19 rfl Tryz.ntmps19 (by simp) ?_
  refine WT_seq ?_
  refine WT_region ?_
  refine WL_box _ rfl hH rfl rfl ?_; rintro b w1 hH1; replace hH1 : H w1 h (lcbox b (.slice A2 c.dq.length c2) (.slice A3 c.ct.length c3) (.slice A4 c.dn.length c4) (.slice A5 c.rw.length c5) :: Ls) := hH1
  refine WL_v rfl (ov_assign rfl) ?_
  refine WL_nil ?_
  refine WT_seq ?_
  refine WT_region ?_
  refine WL_v rfl (ov_field rfl fo_laws_Crew_0) ?_
  refine WL_v rfl (ov_load rfl one_sl_sl_int (hH1.cb 0 rfl 0)) ?_
  refine WL_v rfl (ov_move rfl) ?_
  refine WL_call rfl rfl cf_laws_szIntSS (szIntSS_ok hH1 h1 hr) ?_; rintro _ w2 ⟨s1, rfl, hs1, hs1', hH2⟩
  refine WL_v rfl (ov_assign rfl) ?_
  refine WL_nil ?_
  refine WT_seq ?_
  refine WT_seq ?_
  refine WT_region ?_
  refine WL_v rfl (ov_move rfl) ?_
  refine WL_v rfl (ov_lss rfl rfl) ?_
  refine WL_nil ?_
  refine WT_cond rfl (fun hn1 => ?_) (fun hn1 => ?_)
  · skip
    first | with_reducible replace hn1 := of_decide_eq_true hn1 | with_reducible replace hn1 := bn_T hn1 | with_reducible replace hn1 := bb_T hn1 | skip
    refine WT_seq ?_
    refine WT_region ?_
    refine WL_v rfl (ov_assign rfl) ?_
    refine WL_nil ?_
    exact WT_ret1 Tryz.func19 Tryz.results19 rfl ⟨_, rfl, .inl rfl, hH2.drop⟩
  first | with_reducible replace hn1 := of_decide_eq_false hn1 | with_reducible replace hn1 := bn_F hn1 | with_reducible replace hn1 := bb_F hn1 | skip
  refine WT_skip ?_
  refine WT_seq ?_
  refine WT_region ?_
  refine WL_v rfl (ov_field rfl fo_laws_Crew_1) ?_
  refine WL_v rfl (ov_load rfl one_sl_int (hH2.cb 0 rfl 1)) ?_
  refine WL_v rfl (ov_move rfl) ?_
  refine WL_call rfl rfl cf_laws_szIntS (szIntS_ok2 hH2 h2 (show 0 ≤ s1 ∧ s1 ≤ 1048576 by omega)) ?_; rintro _ w3 ⟨s2, rfl, hs2, hs2', hH3⟩
  refine WL_v rfl (ov_assign rfl) ?_
  refine WL_nil ?_
  refine WT_seq ?_
  refine WT_seq ?_
  refine WT_region ?_
  refine WL_v rfl (ov_move rfl) ?_
  refine WL_v rfl (ov_lss rfl rfl) ?_
  refine WL_nil ?_
  refine WT_cond rfl (fun hn2 => ?_) (fun hn2 => ?_)
  · skip
    first | with_reducible replace hn2 := of_decide_eq_true hn2 | with_reducible replace hn2 := bn_T hn2 | with_reducible replace hn2 := bb_T hn2 | skip
    refine WT_seq ?_
    refine WT_region ?_
    refine WL_v rfl (ov_assign rfl) ?_
    refine WL_nil ?_
    exact WT_ret1 Tryz.func19 Tryz.results19 rfl ⟨_, rfl, .inl rfl, hH3.drop⟩
  first | with_reducible replace hn2 := of_decide_eq_false hn2 | with_reducible replace hn2 := bn_F hn2 | with_reducible replace hn2 := bb_F hn2 | skip
  refine WT_skip ?_
  refine WT_seq ?_
  refine WT_region ?_
  refine WL_v rfl (ov_field rfl fo_laws_Crew_2) ?_
  refine WL_v rfl (ov_load rfl one_sl_int (hH3.cb 0 rfl 2)) ?_
  refine WL_v rfl (ov_move rfl) ?_
  refine WL_call rfl rfl cf_laws_szIntS (szIntS_ok2 hH3 h3 (show 0 ≤ s2 ∧ s2 ≤ 1048576 by omega)) ?_; rintro _ w4 ⟨s3, rfl, hs3, hs3', hH4⟩
  refine WL_v rfl (ov_assign rfl) ?_
  refine WL_nil ?_
  refine WT_seq ?_
  refine WT_seq ?_
  refine WT_region ?_
  refine WL_v rfl (ov_move rfl) ?_
  refine WL_v rfl (ov_lss rfl rfl) ?_
  refine WL_nil ?_
  refine WT_cond rfl (fun hn3 => ?_) (fun hn3 => ?_)
  · skip
    first | with_reducible replace hn3 := of_decide_eq_true hn3 | with_reducible replace hn3 := bn_T hn3 | with_reducible replace hn3 := bb_T hn3 | skip
    refine WT_seq ?_
    refine WT_region ?_
    refine WL_v rfl (ov_assign rfl) ?_
    refine WL_nil ?_
    exact WT_ret1 Tryz.func19 Tryz.results19 rfl ⟨_, rfl, .inl rfl, hH4.drop⟩
  first | with_reducible replace hn3 := of_decide_eq_false hn3 | with_reducible replace hn3 := bn_F hn3 | with_reducible replace hn3 := bb_F hn3 | skip
  refine WT_skip ?_
  refine WT_seq ?_
  refine WT_region ?_
  refine WL_v rfl (ov_field rfl fo_laws_Crew_3) ?_
  refine WL_v rfl (ov_load rfl one_sl_sl_int (hH4.cb 0 rfl 3)) ?_
  refine WL_v rfl (ov_move rfl) ?_
  refine WL_call rfl rfl cf_laws_szIntSS (szIntSS_ok hH4 h4 (show 0 ≤ s3 ∧ s3 ≤ 1048576 by omega)) ?_; rintro _ w5 ⟨s4, rfl, hs4, hs4', hH5⟩
  refine WL_v rfl (ov_assign rfl) ?_
  refine WL_nil ?_
  refine WT_seq ?_
  refine WT_seq ?_
  refine WT_region ?_
  refine WL_v rfl (ov_move rfl) ?_
  refine WL_v rfl (ov_lss rfl rfl) ?_
  refine WL_nil ?_
  refine WT_cond rfl (fun hn4 => ?_) (fun hn4 => ?_)
  · skip
    first | with_reducible replace hn4 := of_decide_eq_true hn4 | with_reducible replace hn4 := bn_T hn4 | with_reducible replace hn4 := bb_T hn4 | skip
    refine WT_seq ?_
    refine WT_region ?_
    refine WL_v rfl (ov_assign rfl) ?_
    refine WL_nil ?_
    exact WT_ret1 Tryz.func19 Tryz.results19 rfl ⟨_, rfl, .inl rfl, hH5.drop⟩
  first | with_reducible replace hn4 := of_decide_eq_false hn4 | with_reducible replace hn4 := bn_F hn4 | with_reducible replace hn4 := bb_F hn4 | skip
  refine WT_skip ?_
  refine WT_seq ?_
  refine WT_region ?_
  refine WL_v rfl (ov_move rfl) ?_
  refine WL_v rfl (ov_assign rfl) ?_
  refine WL_nil ?_
  exact WT_ret1 Tryz.func19 Tryz.results19 rfl ⟨_, rfl, .inr ⟨by omega, by omega, by omega, by omega, by omega, by omega⟩, hH5.drop⟩

theorem toIntSS_ok (hH : H w h Ls) {av : Value} {ls : List (List Int)} (hA : Lists h av ls) (hl : ls.length ≤ 1048576) (hd : ls.flatten.length ≤ 1048576) : Rets Tryz.prog 53 #[av] w fun v w' => ∃ O Is, OLists O Is v ls ∧ H w' h (O :: (Is ++ Ls)) := by
  refine rets_enter Tryz.func53 rfl Tryz.ntmps53 (by simp) ?_
  refine WT_seq ?_
  refine WT_region ?_
  refine WL_v rfl (ov_assign rfl) ?_
  refine WL_nil ?_
  refine WT_seq ?_
  refine WT_region ?_
  refine WL_v rfl (ov_move rfl) ?_
  refine WL_v rfl (ov_len rfl hA.sl st_sl_sl_int) ?_
  refine WL_make (sz := 1) (n := ls.length) (c := ls.length) rfl hH rfl rfl st_sl_sl_int (by omega) (by omega) (by omega) (by omega) ?_; rintro O0 ov w1 hO0 hH1
  refine WL_v rfl (ov_assign rfl) ?_
  refine WL_nil ?_
  refine WT_seq ?_
  refine WT_seq ?_
  refine WT_region ?_
  refine WL_v rfl (ov_assign rfl) ?_
  refine WL_nil ?_
  refine WT_block ?_
  refine WT_while (fun s : Nat => [(0, av), (3, ov), (4, .int .i64 (s : Int))]) (fun k w => k ≤ ls.length ∧ ∃ O Is xs, Row O 25 1 ov ls.length xs ∧ Is.length = k ∧ (∀ i (_ : i < k) (hi : i < ls.length), OLAt Is xs i ls[i]) ∧ H w h (O :: (Is ++ Ls))) (fun k => ls.length - k) 0 (by repeat (first | exact trivial | refine ⟨rfl, ?_⟩)) ⟨by omega, O0, [], _, hO0, rfl, fun i hi => by omega, hH1⟩ ?_
  clear hH hH1 hO0
  rintro k w2 ⟨hk, O, Is, xs, hO, hil, hat, hH⟩ again
  refine WT_seq ?_
  refine WT_seq ?_
  refine WT_region ?_
  refine WL_v rfl (ov_move rfl) ?_
  refine WL_v rfl (ov_move rfl) ?_
  refine WL_v rfl (ov_len rfl hA.sl st_sl_sl_int) ?_
  refine WL_v rfl (ov_lss rfl rfl) ?_
  refine WL_nil ?_
  refine WT_cond rfl (fun hc => ?_) (fun hc => ?_)
  · skip
    first | with_reducible replace hc := of_decide_eq_true hc | with_reducible replace hc := bn_T hc | with_reducible replace hc := bb_T hc | skip
    have hkp : k < ls.length := by omega
    obtain ⟨u, hu, hcell⟩ := hA.elem hkp
    have hxl := hO.len
    have hkl := len_flat hkp
    refine WT_skip ?_
    refine WT_seq ?_
    refine WT_block ?_
    refine WT_region ?_
    refine WL_v rfl (ov_move rfl) ?_
    refine WL_v rfl (ov_move rfl) ?_
    refine WL_v rfl (ov_move rfl) ?_
    refine WL_v rfl (ov_move rfl) ?_
    refine WL_v rfl (ov_index rfl rfl st_sl_sl_int hA.sl hkp) ?_
    refine WL_v rfl (ov_load rfl one_sl_int (hcell hH)) ?_
    refine WL_call rfl rfl cf_laws_toIntS (toIntS_ok hH hu (by omega)) ?_; rintro fv w3 ⟨F, hF, hH3⟩
    refine WL_v rfl (ov_index rfl rfl st_sl_sl_int hO.sl hkp) ?_
    refine WL_storeRow (j := k * 1) hH3 rfl rfl (i := 1) rfl hO (by omega) hF.sl.one sz_sl_int ?_; rintro O2 w4 hO2 hH4; rw [Nat.mul_one] at hO2
    refine WL_nil ?_
    refine WT_inBlock ?_
    refine WT_region ?_
    refine WL_v rfl (ov_move rfl) ?_
    refine WL_v rfl (ov_add rfl rfl (by omega)) ?_
    refine WL_v rfl (ov_assign rfl) ?_
    refine WL_nil ?_
    refine again (k + 1) _ _ (by omega) (by repeat (first | exact trivial | refine ⟨rfl, ?_⟩)) ⟨by omega, O2, Is ++ [F], _, hO2, by simp [hil], fun i hi hil2 => ?_, H.snocG (A := [O2]) hH4⟩
    rcases Nat.lt_or_ge i k with h3 | h3
    · obtain ⟨v, G, e1, e2, e3⟩ := hat i h3 hil2
      refine ⟨v, G, ?_, ?_, e3⟩
      · rw [List.getElem?_set, if_neg (by omega)]; exact e1
      · rw [List.getElem?_append_left (by omega)]; exact e2
    · obtain rfl : i = k := by omega
      refine ⟨fv, F, ?_, ?_, hF⟩
      · rw [List.getElem?_set, if_pos rfl, if_pos (by omega)]
      · rw [List.getElem?_append_right (by omega), hil, Nat.sub_self]; rfl
  first | with_reducible replace hc := of_decide_eq_false hc | with_reducible replace hc := bn_F hc | with_reducible replace hc := bb_F hc | skip
  obtain rfl : k = ls.length := by omega
  refine WT_exit rfl ?_
  refine WT_seq ?_
  refine WT_region ?_
  refine WL_v rfl (ov_move rfl) ?_
  refine WL_v rfl (ov_assign rfl) ?_
  refine WL_nil ?_
  exact WT_ret1 Tryz.func53 Tryz.results53 rfl ⟨O, Is, ⟨hil, xs, hO, fun i hi => hat i hi hi⟩, hH⟩

theorem H.front3 {A B C : Heaplet} {T Ms : List Heaplet} (hH : H w h (T ++ A :: B :: C :: Ms)) : H w h (A :: B :: C :: (T ++ Ms)) := by
  refine hH.perm ?_
  have : (([A, B, C] ++ T) ++ Ms).Perm ((T ++ [A, B, C]) ++ Ms) := List.perm_append_comm.append_right Ms
  simpa using this.symm
theorem H.crewOrd {D C N R : Heaplet} {Ds Rs Ms : List Heaplet} (hH : H w h (R :: (Rs ++ N :: C :: D :: (Ds ++ Ms)))) : H w h (C :: N :: D :: R :: (Ds ++ (Rs ++ Ms))) := by
  refine hH.perm ?_
  have h1 : (R :: (Rs ++ ([N, C, D] ++ (Ds ++ Ms)))).Perm (R :: ([N, C, D] ++ (Rs ++ (Ds ++ Ms)))) := by
    refine .cons _ ?_
    have : ((Rs ++ [N, C, D]) ++ (Ds ++ Ms)).Perm (([N, C, D] ++ Rs) ++ (Ds ++ Ms)) := List.perm_append_comm.append_right _
    simpa using this
  have h2 : (Rs ++ (Ds ++ Ms)).Perm (Ds ++ (Rs ++ Ms)) := by
    have : ((Rs ++ Ds) ++ Ms).Perm ((Ds ++ Rs) ++ Ms) := List.perm_append_comm.append_right _
    simpa using this
  have h3 : ([R, N, C, D] ++ (Rs ++ (Ds ++ Ms))).Perm ([C, N, D, R] ++ (Ds ++ (Rs ++ Ms))) := by
    refine List.Perm.append ?_ h2
    have e1 : [R, N, C, D].Perm [N, C, D, R] := (List.perm_append_comm (l₁ := [R]) (l₂ := [N, C, D]))
    exact e1.trans (.swap _ _ _)
  simpa using h1.trans h3

theorem toCrew_ok (hH : H w h Ls) {v : Value} {c : Cr} (hC : CrIn h v c) (hs : CrSz c) : Rets Tryz.prog 21 #[v] w (CpV h Ls c) := by
  obtain ⟨dv, cv, nv, rv, rfl, h1, h2, h3, h4⟩ := hC
  obtain ⟨A2, c2, rfl, _⟩ := h1.sl.form
  obtain ⟨A3, c3, rfl, _⟩ := h2.sl.form
  obtain ⟨A4, c4, rfl, _⟩ := h3.sl.form
  obtain ⟨A5, c5, rfl, _⟩ := h4.sl.form
  refine rets_enter Tryz.func21 rfl Tryz.ntmps21 (by simp) ?_
  refine WT_seq ?_
  refine WT_region ?_
  refine WL_box _ rfl hH rfl rfl ?_; rintro b w1 hH1; replace hH1 : H w1 h (lcbox b (.slice A2 c.dq.length c2) (.slice A3 c.ct.length c3) (.slice A4 c.dn.length c4) (.slice A5 c.rw.length c5) :: Ls) := hH1
  refine WL_alloc _ rfl hH1 zero_crew rfl ?_; rintro g2 w2 hH2
  refine WL_nil ?_
  refine WT_seq ?_
  refine WT_region ?_
  refine WL_alloc _ rfl hH2 zero_crew rfl ?_; rintro g3 w3 hH3; replace hH3 : H w3 h (crbox g3 nilV nilV nilV nilV :: cz9 g2 :: lcbox b (.slice A2 c.dq.length c2) (.slice A3 c.ct.length c3) (.slice A4 c.dn.length c4) (.slice A5 c.rw.length c5) :: Ls) := hH3
  refine WL_nil ?_
  refine WT_seq ?_
  refine WT_region ?_
  refine WL_v rfl (ov_field rfl fo_laws_Crew_0) ?_
  refine WL_v rfl (ov_load rfl one_sl_sl_int (hH3.cb 2 rfl 0)) ?_
  refine WL_call rfl rfl cf_laws_toIntSS (toIntSS_ok hH3 h1 hs.dq hs.dd) ?_; rintro ov1 w4 ⟨D, Ds, hD, hH4⟩; replace hH4 := H.front3 (T := D :: Ds) hH4
  refine WL_v rfl (ov_field rfl fo_impl_Crew_0) ?_
  refine WL_store hH4 rfl rfl (i := 0) (off := 0) rfl rfl (by simp) hD.sl.one sz_sl_sl_int ?_; rintro w5 hH5; replace hH5 : H w5 h (crbox g3 ov1 nilV nilV nilV :: cz9 g2 :: lcbox b (.slice A2 c.dq.length c2) (.slice A3 c.ct.length c3) (.slice A4 c.dn.length c4) (.slice A5 c.rw.length c5) :: (D :: (Ds ++ Ls))) := hH5
  refine WL_nil ?_
  refine WT_seq ?_
  refine WT_region ?_
  refine WL_v rfl (ov_field rfl fo_laws_Crew_1) ?_
  refine WL_v rfl (ov_load rfl one_sl_int (hH5.cb 2 rfl 1)) ?_
  refine WL_call rfl rfl cf_laws_toIntS (toIntS_ok hH5 h2 hs.ct) ?_; rintro ov2 w6 ⟨C, hCr, hH6⟩; replace hH6 := H.front3 (T := [C]) hH6
  refine WL_v rfl (ov_field rfl fo_impl_Crew_1) ?_
  refine WL_store hH6 rfl rfl (i := 0) (off := 1) rfl rfl (by simp) hCr.sl.one sz_sl_int ?_; rintro w7 hH7; replace hH7 : H w7 h (crbox g3 ov1 ov2 nilV nilV :: cz9 g2 :: lcbox b (.slice A2 c.dq.length c2) (.slice A3 c.ct.length c3) (.slice A4 c.dn.length c4) (.slice A5 c.rw.length c5) :: (C :: D :: (Ds ++ Ls))) := hH7
  refine WL_nil ?_
  refine WT_seq ?_
  refine WT_region ?_
  refine WL_v rfl (ov_field rfl fo_laws_Crew_2) ?_
  refine WL_v rfl (ov_load rfl one_sl_int (hH7.cb 2 rfl 2)) ?_
  refine WL_call rfl rfl cf_laws_toIntS (toIntS_ok hH7 h3 hs.dn) ?_; rintro ov3 w8 ⟨N, hN, hH8⟩; replace hH8 := H.front3 (T := [N]) hH8
  refine WL_v rfl (ov_field rfl fo_impl_Crew_2) ?_
  refine WL_store hH8 rfl rfl (i := 0) (off := 2) rfl rfl (by simp) hN.sl.one sz_sl_int ?_; rintro w9 hH9; replace hH9 : H w9 h (crbox g3 ov1 ov2 ov3 nilV :: cz9 g2 :: lcbox b (.slice A2 c.dq.length c2) (.slice A3 c.ct.length c3) (.slice A4 c.dn.length c4) (.slice A5 c.rw.length c5) :: (N :: C :: D :: (Ds ++ Ls))) := hH9
  refine WL_nil ?_
  refine WT_seq ?_
  refine WT_region ?_
  refine WL_v rfl (ov_field rfl fo_laws_Crew_3) ?_
  refine WL_v rfl (ov_load rfl one_sl_sl_int (hH9.cb 2 rfl 3)) ?_
  refine WL_call rfl rfl cf_laws_toIntSS (toIntSS_ok hH9 h4 hs.rw hs.rd) ?_; rintro ov4 w10 ⟨R, Rs, hR, hH10⟩; replace hH10 := H.front3 (T := R :: Rs) hH10
  refine WL_v rfl (ov_field rfl fo_impl_Crew_3) ?_
  refine WL_store hH10 rfl rfl (i := 0) (off := 3) rfl rfl (by simp) hR.sl.one sz_sl_sl_int ?_; rintro w11 hH11; replace hH11 : H w11 h (crbox g3 ov1 ov2 ov3 ov4 :: cz9 g2 :: lcbox b (.slice A2 c.dq.length c2) (.slice A3 c.ct.length c3) (.slice A4 c.dn.length c4) (.slice A5 c.rw.length c5) :: (R :: (Rs ++ N :: C :: D :: (Ds ++ Ls)))) := hH11
  refine WL_nil ?_
  refine WT_seq ?_
  refine WT_region ?_
  refine WL_v rfl (ov_loadN [ov1, ov2, ov3, ov4] rfl agg_impl_Crew rfl ((loadCrew (i := 0) rfl hH11))) ?_
  refine WL_storeN hH11 rfl rfl (i := 1) rfl rfl rfl (ones_cons hD.sl.one (ones_cons hCr.sl.one (ones_cons hN.sl.one (ones_cons hR.sl.one ones_nil)))) sz_impl_Crew ?_; rintro w12 hH12
  refine WL_nil ?_
  have hl : (loadVar 27 ⟨g2, 0, none⟩).run Tryz.prog w12 = .ok (.agg [ov1, ov2, ov3, ov4].toArray) w12 := lvCrew (i := 1) rfl hH12
  exact WT_retC Tryz.func21 Tryz.results21 rfl hl ⟨C, N, D, R, Ds, Rs, ov1, ov2, ov3, ov4, rfl, ⟨hCr, hN, hD, hR⟩, H.crewOrd hH12.drop.drop.drop⟩

theorem eqCrew_same (hH : H w h Ls) {dv cv nv rv dv2 cv2 nv2 rv2 : Value} {c : Cr} (hA : ∀ Ms, RdCr h (Ms ++ Ls) dv cv nv rv c) (hB : ∀ Ms, RdCr h (Ms ++ Ls) dv2 cv2 nv2 rv2 c) : Rets Tryz.prog 22 #[crV dv cv nv rv, crV dv2 cv2 nv2 rv2] w fun v w' => v = .bool true ∧ H w' h Ls := by
  obtain ⟨A2, c2, rfl, _⟩ := (hA []).dq.sl.form
  obtain ⟨A3, c3, rfl, _⟩ := (hA []).ct.sl.form
  obtain ⟨A4, c4, rfl, _⟩ := (hA []).dn.sl.form
  obtain ⟨A5, c5, rfl, _⟩ := (hA []).rw.sl.form
  obtain ⟨B2, d2, rfl, _⟩ := (hB []).dq.sl.form
  obtain ⟨B3, d3, rfl, _⟩ := (hB []).ct.sl.form
  obtain ⟨B4, d4, rfl, _⟩ := (hB []).dn.sl.form
  obtain ⟨B5, d5, rfl, _⟩ := (hB []).rw.sl.form
  refine rets_enter Tryz.func22 rfl Tryz.ntmps22 (by simp) ?_
  refine WT_seq ?_
  refine WT_region ?_
  refine WL_box _ rfl hH rfl rfl ?_; rintro b1 w1 hH1
  refine WL_box _ rfl hH1 rfl rfl ?_; rintro b2 w2 hH2; replace hH2 : H w2 h ([crbox b2 (.slice B2 c.dq.length d2) (.slice B3 c.ct.length d3) (.slice B4 c.dn.length d4) (.slice B5 c.rw.length d5), crbox b1 (.slice A2 c.dq.length c2) (.slice A3 c.ct.length c3) (.slice A4 c.dn.length c4) (.slice A5 c.rw.length c5)] ++ Ls) := hH2
  refine WL_v rfl (ov_assign rfl) ?_
  refine WL_nil ?_
  refine WT_seq ?_
  refine WT_seq ?_
  refine WT_region ?_
  refine WL_v rfl (ov_field rfl fo_impl_Crew_0) ?_
  refine WL_v rfl (ov_load rfl one_sl_sl_int (hH2.cb 1 rfl 0)) ?_
  refine WL_v rfl (ov_field rfl fo_impl_Crew_0) ?_
  refine WL_v rfl (ov_load rfl one_sl_sl_int (hH2.cb 0 rfl 0)) ?_
  refine WL_call rfl rfl cf_laws_eqIntSS (eqIntSS_ok hH2 (hA _).dq (hB _).dq) ?_; rintro _ w3 ⟨rfl, hH3⟩
  refine WL_v rfl (ov_F (ov_not rfl) (by simp)) ?_
  refine WL_nil ?_
  refine WT_condF rfl ?_
  refine WT_skip ?_
  refine WT_seq ?_
  refine WT_seq ?_
  refine WT_region ?_
  refine WL_v rfl (ov_field rfl fo_impl_Crew_1) ?_
  refine WL_v rfl (ov_load rfl one_sl_int (hH3.cb 1 rfl 1)) ?_
  refine WL_v rfl (ov_field rfl fo_impl_Crew_1) ?_
  refine WL_v rfl (ov_load rfl one_sl_int (hH3.cb 0 rfl 1)) ?_
  refine WL_call rfl rfl cf_laws_eqIntS (eqIntS_ok hH3 (hA _).ct (hB _).ct) ?_; rintro _ w4 ⟨rfl, hH4⟩
  refine WL_v rfl (ov_F (ov_not rfl) (by simp)) ?_
  refine WL_nil ?_
  refine WT_condF rfl ?_
  refine WT_skip ?_
  refine WT_seq ?_
  refine WT_seq ?_
  refine WT_region ?_
  refine WL_v rfl (ov_field rfl fo_impl_Crew_2) ?_
  refine WL_v rfl (ov_load rfl one_sl_int (hH4.cb 1 rfl 2)) ?_
  refine WL_v rfl (ov_field rfl fo_impl_Crew_2) ?_
  refine WL_v rfl (ov_load rfl one_sl_int (hH4.cb 0 rfl 2)) ?_
  refine WL_call rfl rfl cf_laws_eqIntS (eqIntS_ok hH4 (hA _).dn (hB _).dn) ?_; rintro _ w5 ⟨rfl, hH5⟩
  refine WL_v rfl (ov_F (ov_not rfl) (by simp)) ?_
  refine WL_nil ?_
  refine WT_condF rfl ?_
  refine WT_skip ?_
  refine WT_seq ?_
  refine WT_seq ?_
  refine WT_region ?_
  refine WL_v rfl (ov_field rfl fo_impl_Crew_3) ?_
  refine WL_v rfl (ov_load rfl one_sl_sl_int (hH5.cb 1 rfl 3)) ?_
  refine WL_v rfl (ov_field rfl fo_impl_Crew_3) ?_
  refine WL_v rfl (ov_load rfl one_sl_sl_int (hH5.cb 0 rfl 3)) ?_
  refine WL_call rfl rfl cf_laws_eqIntSS (eqIntSS_ok hH5 (hA _).rw (hB _).rw) ?_; rintro _ w6 ⟨rfl, hH6⟩
  refine WL_v rfl (ov_F (ov_not rfl) (by simp)) ?_
  refine WL_nil ?_
  refine WT_condF rfl ?_
  refine WT_skip ?_
  refine WT_seq ?_
  refine WT_region ?_
  refine WL_v rfl (ov_assign rfl) ?_
  refine WL_nil ?_
  exact WT_ret1 Tryz.func22 Tryz.results22 rfl ⟨rfl, hH6.drop.drop⟩
end
end Go.Proofs.YteagnhdhafiofaaGreat

/- Walks: a node is done: the reference. -/
namespace Go.Proofs.YteagnhdhafiofaaGreat
open Go.RowKit

section
variable {h : GH} {Ls : List Heaplet} {w : World}

theorem H.behindCr {C N D R X Y : Heaplet} {Ds Rs Ms : List Heaplet} (hH : H w h (C :: N :: D :: R :: (Ds ++ (Rs ++ X :: Y :: Ms)))) : H w h (X :: Y :: C :: N :: D :: R :: (Ds ++ (Rs ++ Ms))) := by
  have h1 : H w h (C :: ((N :: D :: R :: (Ds ++ Rs)) ++ X :: Y :: Ms)) := by simpa using hH
  have := H.behind2 h1
  simpa using this
theorem H.behindCr1 {C N D R X : Heaplet} {Ds Rs Ms : List Heaplet} (hH : H w h (C :: N :: D :: R :: (Ds ++ (Rs ++ X :: Ms)))) : H w h (X :: C :: N :: D :: R :: (Ds ++ (Rs ++ Ms))) := by
  have h1 : H w h (C :: ((N :: D :: R :: (Ds ++ Rs)) ++ X :: Ms)) := by simpa using hH
  have := H.behind h1
  simpa using this
theorem H.swapIn {T : Heaplet} {A Rs Ms : List Heaplet} {m : Nat} (hm : m < Rs.length) (hH : H w h (T :: (A ++ (Rs ++ Ms)))) : H w h (A ++ (Rs.set m T ++ Ms)) :=
  (hH.inPlace (A.length + m) (at_mid (List.getElem?_eq_getElem hm))).setMid hm
theorem H.dropMid {A B Ms : List Heaplet} (hH : H w h (A ++ (B ++ Ms))) : H w h (A ++ Ms) := by
  have h1 : H w h (B ++ (A ++ Ms)) := hH.perm (by
    rw [← List.append_assoc, ← List.append_assoc]
    exact List.Perm.append_right Ms List.perm_append_comm)
  exact h1.drops B
theorem OwnCr.less {B : List Heaplet} {c : Cr} {dv cv nv rv : Value} (hO : OwnCr h (B ++ Ls) c dv cv nv rv w) : OwnCr h Ls c dv cv nv rv w := by
  obtain ⟨C, N, D, R, Ds, Rs, h1, h2⟩ := hO
  refine ⟨C, N, D, R, Ds, Rs, h1, ?_⟩
  have h3 : H w h ((C :: N :: D :: R :: (Ds ++ Rs)) ++ (B ++ Ls)) := by simpa using h2
  have := H.dropMid h3
  simpa using this

set_option maxHeartbeats 2000000 in
theorem l14Do_ok (hH : H w h Ls) {pv dv0 cv0 nv0 rv0 : Value} {p : List Nd} {c : Cr} (hP : Plan h pv p) (hv : planOk p = true) (hl : CrLim c) (hC : RdCr h Ls dv0 cv0 nv0 rv0 c) {wk a : Nat} (hwk : wk < c.dq.length) (ha : a < p.length)
    (hct : c.ct.length = p.length) (hrw : c.rw.length = p.length) (hcv : ∀ u, -1000000 ≤ c.ct.getD u 0 ∧ c.ct.getD u 0 ≤ 1000000) :
    Rets Tryz.prog 142 #[pv, crV dv0 cv0 nv0 rv0, .int .i64 (wk : Int), .int .i64 (a : Int)] w fun v w' => ∃ dv cv nv rv, v = crV dv cv nv rv ∧ OwnCr h Ls (doCr p c wk a) dv cv nv rv w' := by
  have hlen := PlanOk.len hv
  have hln := hl.dn
  have hld := hl.dd
  have hwf := len_flat hwk
  have hdr := doneR_len p c.ct (a : Int)
  obtain ⟨A2, c2, rfl, _⟩ := hC.dq.sl.form
  obtain ⟨A3, c3, rfl, _⟩ := hC.ct.sl.form
  obtain ⟨A4, c4, rfl, _⟩ := hC.dn.sl.form
  obtain ⟨A5, c5, rfl, _⟩ := hC.rw.sl.form
  obtain ⟨fv, rv1, hf, hrr, hcell⟩ := hP.node ha
  have hN := PlanOk.node hv ha
  have hCr := hC
  refine rets_enter Tryz.func142 rfl Tryz.ntmps142 (by simp) ?_
  refine WT_seq ?_
  refine WT_region ?_
  refine WL_box _ rfl hH rfl rfl ?_; rintro b w1 hH1; replace hH1 : H w1 h (crbox b (.slice A2 c.dq.length c2) (.slice A3 c.ct.length c3) (.slice A4 c.dn.length c4) (.slice A5 c.rw.length c5) :: Ls) := hH1
  refine WL_alloc _ rfl hH1 zero_crew rfl ?_; rintro g8 w2 hH2
  refine WL_nil ?_
  refine WT_seq ?_
  refine WT_region ?_
  refine WL_v rfl (ov_loadN [.slice A2 c.dq.length c2, .slice A3 c.ct.length c3, .slice A4 c.dn.length c4, .slice A5 c.rw.length c5] rfl agg_impl_Crew rfl ((loadCrew (i := 1) rfl hH2))) ?_
  refine WL_call rfl rfl cf_spec_l14Copy (l14Copy_ok hH2 hl hC.up.up) ?_; rintro _ w3 ⟨C, N, D, R, Ds, Rs, dv, cv, nv, rv, rfl, hO, hH3⟩; replace hH3 := H.behindCr hH3
  refine WL_alloc _ rfl hH3 zero_crew rfl ?_; rintro g w4 hH4
  refine WL_storeN hH4 rfl rfl (i := 0) rfl rfl rfl (ones_cons hO.dq.sl.one (ones_cons hO.ct.sl.one (ones_cons hO.dn.sl.one (ones_cons hO.rw.sl.one ones_nil)))) sz_impl_Crew ?_; rintro w5 hH5
  refine WL_nil ?_
  refine WT_seq ?_
  have hU : ∀ A : List Heaplet, RdCr h (A ++ (Ds ++ (Rs ++ Ls))) (.slice A2 c.dq.length c2) (.slice A3 c.ct.length c3) (.slice A4 c.dn.length c4) (.slice A5 c.rw.length c5) c := fun A => by
    have := hC.ups (A ++ (Ds ++ Rs))
    simpa using this
  have hdql := hO.dq.len
  have hrwl := hO.rw.len
  obtain ⟨hilR, xsR, hRR, hatR⟩ := hO.rw
  have hxlR := hRR.len
  have hxa : ∀ A : List Heaplet, RdLL h (A ++ (Ds ++ (Rs ++ Ls))) (.slice A5 c.rw.length c5) c.rw := fun A => (hU A).rw
  have har : a < c.rw.length := by omega
  refine WT_mixL [(0, 1), (1, 0), (2, 1), (3, 1), (4, 1), (5, 1), (6, 0), (7, 1), (8, 0), (9, 2), (10, 1), (11, 3)] mixed (by kernel_rfl) hH5 ?_
  clear hH5
  intro w6 hH5 hC
  refine WM_p rfl rfl (fun _ => ov_field rfl fo_impl_Crew_3) ?_
  refine WM_v rfl rfl hC (fun _ ⟨_, hH⟩ => ov_load rfl one_sl_sl_int (hH.cb 1 rfl 3)) ?_
  refine WM_p rfl rfl (fun _ => ov_move rfl) ?_
  refine WM_p rfl rfl (fun _ => ov_move rfl) ?_
  refine WM_p rfl rfl (fun _ => ov_move rfl) ?_
  refine WM_p rfl rfl (fun _ => ov_index rfl rfl st_sl_impl_Node hP.sl ha) ?_
  refine WM_v rfl rfl hC (fun _ ⟨_, hH⟩ => ov_loadN [.int .i64 p[a].kind, fv, rv1] rfl agg_impl_Node rfl ((hcell _ _ hH))) ?_
  refine WM_p rfl rfl (fun _ => ov_field rfl fo_impl_Crew_3) ?_
  refine WM_v rfl rfl hC (fun _ ⟨_, hH⟩ => ov_load rfl one_sl_sl_int (hH.cb 3 rfl 3)) ?_
  refine WM_e rfl ?_
  refine WL_call rfl rfl cf_spec_l4Step (l4Step_ok hH5 (hf.rdl _) (hrr.rdl _) (hxa [_, _, _, _, _, _, _]) hN.kind (NodeOk.len2 hN) (rowOk_six' hN.row) (fun x hx => by have := hN.frm x hx; omega)) ?_; rintro tv w7 ⟨T, hT, hH7⟩
  replace hC : Cl _ _ _ := Cl.many [T] hH7
  refine WL_mix (fun _ => hC) ?_
  refine WM_p rfl rfl (fun _ => ov_index rfl rfl st_sl_sl_int hRR.sl har) ?_
  refine WM_e rfl ?_
  refine WL_storeRow hH7 rfl rfl (i := 7) rfl hRR (j := a * 1) (by omega) hT.sl.one sz_sl_int ?_; rintro R2 w8 hR2 hH8; rw [Nat.mul_one] at hR2
  refine WL_mix (fun h => absurd rfl h) ?_
  refine WM_nil ?_
  refine WT_seq ?_
  refine WT_region ?_
  refine WL_v rfl (ov_field rfl fo_impl_Crew_2) ?_
  have hRW : OLists R2 (Rs.set a T) rv (c.rw.set a (stepL (p.getD a default) c.rw)) := by
    rw [getD_of ha]
    exact OLists.set har hilR (by omega) hatR hR2 hT
  have hH9 : H w8 h ([crbox g dv cv nv rv, cz9 g8, crbox b (.slice A2 c.dq.length c2) (.slice A3 c.ct.length c3) (.slice A4 c.dn.length c4) (.slice A5 c.rw.length c5), C, N, D, R2] ++ (Ds ++ (Rs.set a T ++ Ls))) := by
    have h9 : H w8 h (T :: (([crbox g dv cv nv rv, cz9 g8, crbox b (.slice A2 c.dq.length c2) (.slice A3 c.ct.length c3) (.slice A4 c.dn.length c4) (.slice A5 c.rw.length c5), C, N, D, R2] ++ Ds) ++ (Rs ++ Ls))) := by
      rw [List.append_assoc]; exact hH8
    have := H.swapIn (m := a) (Rs := Rs) (by omega) h9
    rw [List.append_assoc] at this
    exact this
  have hNl := hO.dn.sl.lim
  clear hH hH1 hH2 hH3 hH4 hH5 hH7 hH8 hRR hatR hxa
  refine WL_v rfl (ov_load rfl one_sl_int (hH9.cb 0 rfl 2)) ?_
  refine WL_v rfl (ov_move rfl) ?_
  refine WL_bsI rfl hH9 rfl (run_bs_int _) ?_; rintro Z zv w9 hZ hH10
  refine WL_appI (i := 5) (j := 0) rfl hH10 rfl rfl st_sl_int rfl hO.dn rfl hZ (by simp; omega) (by simp; omega) ?_; rintro N2 nv2 w10 hN2 hH11; replace hH11 := hH11.drop
  refine WL_v rfl (ov_field rfl fo_impl_Crew_2) ?_
  refine WL_store hH11 rfl rfl (i := 0) (off := 2) rfl rfl (by exact Nat.lt_succ_of_lt (Nat.lt_succ_self _)) hN2.sl.one sz_sl_int ?_; rintro w11 hH12
  refine WL_nil ?_
  refine WT_seq ?_
  refine WT_region ?_
  refine WL_v rfl (ov_move rfl) ?_
  refine WL_v rfl (ov_field rfl fo_impl_Crew_1) ?_
  have hH13 : H w11 h ([crbox g dv cv nv2 rv, cz9 g8, crbox b (.slice A2 c.dq.length c2) (.slice A3 c.ct.length c3) (.slice A4 c.dn.length c4) (.slice A5 c.rw.length c5), C, N2, D, R2] ++ (Ds ++ (Rs.set a T ++ Ls))) := hH12
  have hU2 : ∀ A : List Heaplet, RdCr h (A ++ (Ds ++ (Rs.set a T ++ Ls))) (.slice A2 c.dq.length c2) (.slice A3 c.ct.length c3) (.slice A4 c.dn.length c4) (.slice A5 c.rw.length c5) c := fun A => by
    have := hCr.ups (A ++ (Ds ++ Rs.set a T))
    simpa using this
  clear hH9 hH10 hH11 hH12
  refine WL_v rfl (ov_load rfl one_sl_int (hH13.cb 2 rfl 1)) ?_
  refine WL_v rfl (ov_move rfl) ?_
  refine WL_call rfl rfl cf_spec_l11Done (l11Done_ok hH13 hP hv (hU2 _).ct hct hcv _) ?_; rintro _ w12 ⟨C2, Y2, cv2, yv2, rfl, hC2, hY2, hH14⟩
  refine WL_v rfl (ov_move rfl) ?_
  refine WL_v rfl (ov_extract rfl rfl) ?_
  refine WL_v rfl (ov_extract rfl rfl) ?_
  refine WL_v rfl (ov_assign rfl) ?_
  refine WL_v rfl (ov_assign rfl) ?_
  refine WL_nil ?_
  refine WT_seq ?_
  refine WT_region ?_
  refine WL_v rfl (ov_move rfl) ?_
  refine WL_v rfl (ov_field rfl fo_impl_Crew_1) ?_
  refine WL_store hH14 rfl rfl (i := 2) (off := 1) rfl rfl (by exact Nat.succ_lt_succ (Nat.zero_lt_succ _)) hC2.sl.one sz_sl_int ?_; rintro w13 hH15
  refine WL_nil ?_
  refine WT_seq ?_
  have hH16 : H w13 h ([C2, Y2, crbox g dv cv2 nv2 rv, cz9 g8, crbox b (.slice A2 c.dq.length c2) (.slice A3 c.ct.length c3) (.slice A4 c.dn.length c4) (.slice A5 c.rw.length c5), C, N2, D, R2] ++ (Ds ++ (Rs.set a T ++ Ls))) := hH15
  obtain ⟨hilD, xsD, hRD, hatD⟩ := hO.dq
  have hxlD := hRD.len
  obtain ⟨u, F, e1, e2, e3⟩ := hatD _ hwk
  have hul := e3.sl.one
  have hcu : ∀ {w' : World} {L : Heaplet}, H w' h (L :: [Y2, crbox g dv cv2 nv2 rv, D]) → w'.cell? ((slA dv).add (wk * 1)) = some u := fun hH => by
    rw [Nat.mul_one]; exact hRD.cell hH (i := 3) rfl e1
  have hsub : ∀ {w' : World} {Dx : List Heaplet}, H w' h ([C2, Y2, crbox g dv cv2 nv2 rv, cz9 g8, crbox b (.slice A2 c.dq.length c2) (.slice A3 c.ct.length c3) (.slice A4 c.dn.length c4) (.slice A5 c.rw.length c5), C, N2, D, R2] ++ (Dx ++ (Rs.set a T ++ Ls))) → Cl h [Y2, crbox g dv cv2 nv2 rv, D] w' := fun {w'} {Dx} hh => by
    have h1 := hh.del 8 rfl
    have h2 := ((h1.del 6 rfl).del 5 rfl).del 4 rfl
    have h3 := (h2.del 3 rfl).drop
    exact Cl.sub [] [Y2, crbox g dv cv2 nv2 rv, D] _ h3
  clear hH14 hH15 hH13
  refine WT_mixS [(0, 1), (1, 0), (2, 1), (3, 1), (4, 0), (5, 1), (6, 1), (7, 0), (8, 1), (9, 2), (10, 1), (11, 3)] [Y2, crbox g dv cv2 nv2 rv, D] (fun w' hh => hsub hh) mixed (by kernel_rfl) hH16 ?_
  clear hH16
  intro w14 hH16 hC
  refine WM_p rfl rfl (fun _ => ov_field rfl fo_impl_Crew_0) ?_
  refine WM_v rfl rfl hC (fun _ ⟨_, hH⟩ => ov_load rfl one_sl_sl_int (hH.cb 2 rfl 0)) ?_
  refine WM_p rfl rfl (fun _ => ov_move rfl) ?_
  refine WM_p rfl rfl (fun _ => ov_field rfl fo_impl_Crew_0) ?_
  refine WM_v rfl rfl hC (fun _ ⟨_, hH⟩ => ov_load rfl one_sl_sl_int (hH.cb 2 rfl 0)) ?_
  refine WM_p rfl rfl (fun _ => ov_move rfl) ?_
  refine WM_p rfl rfl (fun _ => ov_index rfl rfl st_sl_sl_int hRD.sl hwk) ?_
  refine WM_v rfl rfl hC (fun _ ⟨_, hH⟩ => ov_load rfl one_sl_int (hcu hH)) ?_
  refine WM_p rfl rfl (fun _ => ov_move rfl) ?_
  refine WM_e rfl ?_
  refine WL_appI (i := 9 + wk) (j := 1) rfl hH16 rfl rfl st_sl_int (at_mid (A := [C2, Y2, crbox g dv cv2 nv2 rv, cz9 g8, crbox b (.slice A2 c.dq.length c2) (.slice A3 c.ct.length c3) (.slice A4 c.dn.length c4) (.slice A5 c.rw.length c5), C, N2, D, R2]) e2) e3 rfl hY2 (by rw [toI_len]; omega) (by rw [toI_len]; omega) ?_; rintro F2 u2 w15 hF2 hH17; replace hH17 := hH17.setMid (A := [C2, Y2, crbox g dv cv2 nv2 rv, cz9 g8, crbox b (.slice A2 c.dq.length c2) (.slice A3 c.ct.length c3) (.slice A4 c.dn.length c4) (.slice A5 c.rw.length c5), C, N2, D, R2]) (by omega)
  replace hC : Cl _ _ _ := hsub hH17
  refine WL_mix (fun _ => hC) ?_
  refine WM_p rfl rfl (fun _ => ov_index rfl rfl st_sl_sl_int hRD.sl hwk) ?_
  refine WM_e rfl ?_
  refine WL_storeRow hH17 rfl rfl (i := 7) rfl hRD (j := wk * 1) (by omega) hF2.sl.one sz_sl_int ?_; rintro D2 w16 hD2 hH18; rw [Nat.mul_one] at hD2
  refine WL_mix (fun h => absurd rfl h) ?_
  refine WM_nil ?_
  refine WT_seq ?_
  refine WT_region ?_
  have hDQ : OLists D2 (Ds.set wk F2) dv (c.dq.set wk (c.dq.getD wk [] ++ (doneR p c.ct (a : Int)).map fun (j : Nat) => (j : Int))) := by
    rw [getLD hwk]
    exact OLists.set hwk hilD (by omega) hatD hD2 hF2
  refine WL_v rfl (ov_loadN [dv, cv2, nv2, rv] rfl agg_impl_Crew rfl ((loadCrew (i := 2) rfl hH18))) ?_
  refine WL_storeN hH18 rfl rfl (i := 3) rfl rfl rfl (ones_cons hDQ.sl.one (ones_cons hC2.sl.one (ones_cons hN2.sl.one (ones_cons hRW.sl.one ones_nil)))) sz_impl_Crew ?_; rintro w17 hH19
  refine WL_nil ?_
  exact WT_retC Tryz.func142 Tryz.results142 rfl (lvCrew (i := 3) (dv := dv) (cv := cv2) (nv := nv2) (rv := rv) rfl hH19) ⟨dv, cv2, nv2, rv, rfl, C2, N2, D2, R2, Ds.set wk F2, Rs.set a T, ⟨hC2, hN2, hDQ, hRW⟩, ((((hH19.del 5 rfl).del 4 rfl).del 3 rfl).del 2 rfl).del 1 rfl⟩
end
end Go.Proofs.YteagnhdhafiofaaGreat

/- Plain: laws of valid crews. No program in sight. -/
namespace Go.Proofs.YteagnhdhafiofaaGreat

theorem CrewOk.dn_le {p : List Nd} {c : Cr} (h : CrewOk p c) : c.dn.length ≤ p.length := nodup_lenI (order_nodup h.ord) (fun _ ha => order_mem h.ord ha)
theorem CrewOk.both {p : List Nd} {c : Cr} (h : CrewOk p c) : (c.dn ++ readyI p c.dn).Nodup := by
  refine List.nodup_append.2 ⟨order_nodup h.ord, readyI_nodup p c.dn, fun a ha b hb he => ?_⟩
  subst he
  exact (mem_readyI.1 hb).2.1 ha
theorem CrewOk.sum_le {p : List Nd} {c : Cr} (h : CrewOk p c) : c.dn.length + (readyI p c.dn).length ≤ p.length := by
  have := nodup_lenI h.both (n := p.length) fun a ha => by
    rcases List.mem_append.1 ha with ha | ha
    · exact order_mem h.ord ha
    · exact (mem_readyI.1 ha).1
  rw [List.length_append] at this
  exact this
/-- If nothing is ready all is done. -/
theorem CrewOk.all {p : List Nd} {c : Cr} (h : CrewOk p c) : readyI p c.dn = [] ↔ c.dn.length = p.length := by
  constructor
  · intro hr
    have hall : ∀ n, ∀ i, i < n → i < p.length → (i : Int) ∈ c.dn := by
      intro n
      induction n with
      | zero => intro i hi; omega
      | succ n ih =>
        intro i hi hip
        by_cases hm : (i : Int) ∈ c.dn
        · exact hm
        · have : (i : Int) ∈ readyI p c.dn := mem_readyI.2 ⟨by omega, hm, fun f hf => by
            rw [Int.toNat_natCast] at hf
            have hfp := frm_pos h.plan hip f hf
            have := ih f.toNat (by omega) (by omega)
            rw [Int.toNat_of_nonneg hfp.1] at this
            exact this⟩
          rw [hr] at this
          simp at this
    have h1 : ((List.range p.length).map fun (j : Nat) => (j : Int)).Nodup := List.pairwise_map.2 (List.nodup_range.imp fun hab => by omega)
    have h2 := h1.length_le_of_subset (l₂ := c.dn) fun a ha => by
      obtain ⟨i, hi, rfl⟩ := List.mem_map.1 ha
      exact hall p.length i (List.mem_range.1 hi) (List.mem_range.1 hi)
    rw [List.length_map, List.length_range] at h2
    have := h.dn_le
    omega
  · intro hl
    have := h.sum_le
    exact List.eq_nil_of_length_eq_zero (by omega)
theorem lastW_spec (dq : List (List Int)) (a : Int) : ∀ n, (lastW dq a n = -1 ∧ ∀ w, w < n → a ∉ dq.getD w []) ∨ ∃ w, w < n ∧ lastW dq a n = (w : Int) ∧ a ∈ dq.getD w []
  | 0 => .inl ⟨rfl, fun w hw => by omega⟩
  | n + 1 => by
    rw [lastW]
    by_cases hm : a ∈ dq.getD n []
    · rw [if_pos hm]
      exact .inr ⟨n, by omega, rfl, hm⟩
    · rw [if_neg hm]
      rcases lastW_spec dq a n with ⟨h1, h2⟩ | ⟨w, h1, h2, h3⟩
      · refine .inl ⟨h1, fun w hw => ?_⟩
        rcases Nat.lt_or_ge w n with h | h
        · exact h2 w h
        · obtain rfl : w = n := by omega
          exact hm
      · exact .inr ⟨w, by omega, h2, h3⟩
theorem lastW_neg {dq : List (List Int)} {a : Int} : lastW dq a dq.length = -1 ↔ a ∉ dq.flatten := by
  rw [mem_flatD]
  rcases lastW_spec dq a dq.length with ⟨h1, h2⟩ | ⟨w, h1, h2, h3⟩
  · rw [h1]
    exact ⟨fun _ ⟨w, hw, ha⟩ => h2 w hw ha, fun _ => rfl⟩
  · rw [h2]
    exact ⟨fun h => by omega, fun h => absurd ⟨w, h1, h3⟩ h⟩
/-- Every deque is come to. -/
theorem turn_all {dq : List (List Int)} {k : Nat} (hk : k < dq.length) (h : ∀ j, j < dq.length → dq.getD ((k + j) % dq.length) [] = []) : dq.flatten = [] := by
  have h1 : ∀ i, i < dq.length → dq.getD i [] = [] := fun i hi => by
    rcases Nat.lt_or_ge i k with h2 | h2
    · have := h (i + dq.length - k) (by omega)
      rw [show k + (i + dq.length - k) = i + dq.length by omega, Nat.add_mod_right, Nat.mod_eq_of_lt hi] at this
      exact this
    · have := h (i - k) (by omega)
      rw [show k + (i - k) = i by omega, Nat.mod_eq_of_lt hi] at this
      exact this
  refine List.eq_nil_iff_forall_not_mem.2 fun a ha => ?_
  obtain ⟨w, hw, hm⟩ := mem_flatD.1 ha
  rw [h1 w hw] at hm
  simp at hm
theorem zeros_all {p : List Nd} {c : Cr} (h : CrewOk p c) {z : Int} : z ∈ ((List.range c.ct.length).filter fun i => decide (c.ct.getD i 0 = 0)).map (fun (j : Nat) => (j : Int)) ↔ z ∈ c.dn ∨ z ∈ readyI p c.dn := by
  rw [← h.ct, cntL_len]
  constructor
  · intro hz
    obtain ⟨i, hi, rfl⟩ := List.mem_map.1 hz
    obtain ⟨h1, h2⟩ := List.mem_filter.1 hi
    have hip := List.mem_range.1 h1
    have h3 := of_decide_eq_true h2
    rw [cntL_getD hip] at h3
    have h4 := (cntB_zero h.plan (D := c.dn) hip).1 (by omega)
    by_cases hm : (i : Int) ∈ c.dn
    · exact .inl hm
    · exact .inr (mem_readyI.2 ⟨by omega, hm, by rw [Int.toNat_natCast]; exact h4⟩)
  · intro hz
    have hrg : 0 ≤ z ∧ z < (p.length : Int) := by
      rcases hz with hz | hz
      · exact order_mem h.ord hz
      · exact (mem_readyI.1 hz).1
    have hnd : ∀ f ∈ (p.getD z.toNat default).frm, f ∈ c.dn := by
      rcases hz with hz | hz
      · exact order_needs h.ord hz
      · exact (mem_readyI.1 hz).2.2
    obtain ⟨i, hi⟩ := Int.eq_ofNat_of_zero_le hrg.1
    subst hi
    rw [Int.toNat_natCast] at hnd
    have hip : i < p.length := by omega
    refine List.mem_map.2 ⟨i, List.mem_filter.2 ⟨List.mem_range.2 hip, decide_eq_true ?_⟩, rfl⟩
    rw [cntL_getD hip, (cntB_zero h.plan hip).2 hnd]
    rfl
theorem zeros_len {p : List Nd} {c : Cr} (h : CrewOk p c) : ((List.range c.ct.length).filter fun i => decide (c.ct.getD i 0 = 0)).length = c.dn.length + (readyI p c.dn).length := by
  have h1 : (((List.range c.ct.length).filter fun i => decide (c.ct.getD i 0 = 0)).map (fun (j : Nat) => (j : Int))).Nodup := List.pairwise_map.2 ((List.nodup_range.filter _).imp fun hab => by omega)
  have h2 := (List.perm_ext_iff_of_nodup h1 h.both).2 fun a => by rw [List.mem_append]; exact zeros_all h
  have := h2.length_eq
  rw [List.length_map, List.length_append] at this
  exact this
/-- Whoever has which deque. -/
theorem CrewOk.deal {p : List Nd} {c : Cr} (h : CrewOk p c) {dq : List (List Int)} (hp : dq.flatten.Perm c.dq.flatten) (hl : dq.length = c.dq.length) : CrewOk p ⟨dq, c.ct, c.dn, c.rw⟩ :=
  ⟨h.plan, by rw [hl]; exact h.dq, h.ord, h.ct, h.rl, (isort_eq (readyI_le p c.dn)).2 (hp.trans h.perm), h.rows⟩
end Go.Proofs.YteagnhdhafiofaaGreat

/- Plain: a worker is lost. -/
namespace Go.Proofs.YteagnhdhafiofaaGreat

/-- One list goes to the front of the next one, and away. -/
def loseL (dq : List (List Int)) (k : Nat) : List (List Int) :=
  let d := dq.set ((k + 1) % dq.length) (dq.getD k [] ++ dq.getD ((k + 1) % dq.length) [])
  d.take k ++ d.drop (k + 1)
def loseCr (c : Cr) (k : Nat) : Cr := ⟨loseL c.dq k, c.ct, c.dn, c.rw⟩
theorem loseL_len {dq : List (List Int)} {k : Nat} (hk : k < dq.length) : (loseL dq k).length = dq.length - 1 := by
  simp only [loseL, List.length_append, List.length_take, List.length_drop, List.length_set]
  omega
theorem flat_split {ls : List (List Int)} {k : Nat} (hk : k < ls.length) : ls.flatten.Perm (ls[k] ++ (ls.take k ++ ls.drop (k + 1)).flatten) := by
  have e : ls = ls.take k ++ ls[k] :: ls.drop (k + 1) := by rw [List.getElem_cons_drop, List.take_append_drop]
  have e2 : ls.flatten = (ls.take k).flatten ++ (ls[k] ++ (ls.drop (k + 1)).flatten) := by
    have := congrArg List.flatten e
    rwa [List.flatten_append, List.flatten_cons] at this
  rw [e2, List.flatten_append, ← List.append_assoc, ← List.append_assoc]
  exact List.perm_append_comm.append_right _
theorem flat_put : ∀ {ls : List (List Int)} {i : Nat} {x : List Int} (hi : i < ls.length), (ls.set i (x ++ ls[i])).flatten.Perm (x ++ ls.flatten)
  | l :: ls, 0, x, _ => by simp
  | l :: ls, i + 1, x, hi => by
    have := flat_put (ls := ls) (i := i) (x := x) (by simpa using hi)
    simp only [List.set_cons_succ, List.flatten_cons, List.getElem_cons_succ]
    refine (this.append_left l).trans ?_
    rw [← List.append_assoc, ← List.append_assoc]
    exact List.perm_append_comm.append_right _
theorem next_ne {k n : Nat} (hk : k < n) (hn : 2 ≤ n) : (k + 1) % n ≠ k := by
  rcases Nat.lt_or_ge (k + 1) n with h | h
  · rw [Nat.mod_eq_of_lt h]; omega
  · have : k + 1 = n := by omega
    rw [this, Nat.mod_self]; omega
theorem lose_flat {dq : List (List Int)} {k : Nat} (hk : k < dq.length) (hn : 2 ≤ dq.length) : (loseL dq k).flatten.Perm dq.flatten := by
  have hm : (k + 1) % dq.length < dq.length := Nat.mod_lt _ (by omega)
  have hne := next_ne hk hn
  generalize hx : (k + 1) % dq.length = x at hm hne
  have h1 : dq.getD k [] = dq[k] := by simp [List.getD_eq_getElem?_getD, List.getElem?_eq_getElem hk]
  have h2 : dq.getD x [] = dq[x] := by simp [List.getD_eq_getElem?_getD, List.getElem?_eq_getElem hm]
  have h3 := flat_put (x := dq[k]) hm
  have h4 := flat_split (ls := dq.set x (dq[k] ++ dq[x])) (k := k) (by simpa using hk)
  rw [List.getElem_set, if_neg hne] at h4
  have h5 : loseL dq k = (dq.set x (dq[k] ++ dq[x])).take k ++ (dq.set x (dq[k] ++ dq[x])).drop (k + 1) := by
    unfold loseL
    simp only [hx, h1, h2]
  rw [h5]
  exact (List.perm_append_left_iff dq[k]).1 (h4.symm.trans h3)
theorem lose_ok {p : List Nd} {c : Cr} (h : CrewOk p c) {k : Nat} (hk : k < c.dq.length) (hn : c.dq.length ≠ 1) : CrewOk p (loseCr c k) := by
  have h4 := h.dq
  have h5 := loseL_len hk
  exact ⟨h.plan, by show 1 ≤ (loseL c.dq k).length ∧ _; rw [show (loseCr c k).dq.length = (loseL c.dq k).length from rfl]; omega, h.ord, h.ct, h.rl, (isort_eq (readyI_le p c.dn)).2 ((lose_flat hk (by omega)).trans h.perm), h.rows⟩
/-- Where the next one is then. -/
theorem lose_at {dq : List (List Int)} {k : Nat} (hk : k < dq.length) (hn : 2 ≤ dq.length) : (loseL dq k).getD (if k < (k + 1) % dq.length then (k + 1) % dq.length - 1 else (k + 1) % dq.length) [] = dq.getD k [] ++ dq.getD ((k + 1) % dq.length) [] := by
  have hm : (k + 1) % dq.length < dq.length := Nat.mod_lt _ (by omega)
  have hne := next_ne hk hn
  unfold loseL
  simp only []
  generalize (k + 1) % dq.length = x at hm hne
  split
  · rename_i h1
    rw [List.getD_eq_getElem?_getD, List.getElem?_append_right (by rw [List.length_take, List.length_set]; omega), List.length_take, List.length_set, Nat.min_eq_left (by omega), List.getElem?_drop, show k + 1 + (x - 1 - k) = x by omega, List.getElem?_set, if_pos rfl, if_pos hm]
    rfl
  · rename_i h1
    rw [List.getD_eq_getElem?_getD, List.getElem?_append_left (by rw [List.length_take, List.length_set]; omega), List.getElem?_take_of_lt (by omega), List.getElem?_set, if_pos rfl, if_pos hm]
    rfl
end Go.Proofs.YteagnhdhafiofaaGreat

/- Walks: a worker is lost (impl). -/
namespace Go.Proofs.YteagnhdhafiofaaGreat
open Go.RowKit

theorem run_build_crew4' (a b c d : Option Addr) (n m n2 m2 n3 m3 n4 m4 : Nat) (W : World) : (Instr.build 27 #[(0, .slice a n m), (1, .slice b n2 m2), (2, .slice c n3 m3), (3, .slice d n4 m4)]).run Tryz.prog W = .ok (.agg #[.slice a n m, .slice b n2 m2, .slice c n3 m3, .slice d n4 m4]) W := by kernel_rfl
theorem run_build_crew4 {u1 u2 u3 u4 : Value} {n1 n2 n3 n4 : Nat} (h1 : Sl u1 n1) (h2 : Sl u2 n2) (h3 : Sl u3 n3) (h4 : Sl u4 n4) (W : World) : (Instr.build 27 #[(0, u1), (1, u2), (2, u3), (3, u4)]).run Tryz.prog W = .ok (.agg #[u1, u2, u3, u4]) W := by
  obtain ⟨_, _, rfl, _⟩ := h1.form
  obtain ⟨_, _, rfl, _⟩ := h2.form
  obtain ⟨_, _, rfl, _⟩ := h3.form
  obtain ⟨_, _, rfl, _⟩ := h4.form
  exact run_build_crew4' _ _ _ _ _ _ _ _ _ _ _ _ W
theorem zero_ints (W : World) : (zeroValue 25).run Tryz.prog W = .ok (.slice none 0 0) W := by kernel_rfl

section
variable {h : GH} {Ls : List Heaplet} {w : World}

theorem H.front2 {A B : Heaplet} {T Ms : List Heaplet} (hH : H w h (T ++ A :: B :: Ms)) : H w h (A :: B :: (T ++ Ms)) := by
  refine hH.perm ?_
  have : (([A, B] ++ T) ++ Ms).Perm ((T ++ [A, B]) ++ Ms) := List.perm_append_comm.append_right Ms
  simpa using this.symm
theorem Cl.pick (T A : List Heaplet) {X : Heaplet} {B : List Heaplet} (hH : H w h (T ++ X :: (A ++ B))) : Cl h (X :: B) w :=
  Cl.many (T ++ A) (hH.perm (by
    have : (T ++ ([X] ++ A ++ B)).Perm (T ++ (A ++ [X] ++ B)) := (List.perm_append_comm.append_right B).append_left T
    simpa using this))
theorem RdLL.valsQ {v : Value} {ls : List (List Int)} (hA : RdLL h Ls v ls) : ∃ xs : List Value, xs.length = ls.length ∧ ∀ i (hi : i < ls.length), ∃ u, xs[i]? = some u ∧ RdL h Ls u ls[i] ∧ ∀ {w}, H w h Ls → w.cell? ((slA v).add (i * 1)) = some u := by
  refine ⟨(List.range ls.length).map fun i => if hi : i < ls.length then Classical.choose (hA.at_ hi) else .bool true, by simp, fun i hi => ?_⟩
  have := Classical.choose_spec (hA.at_ hi)
  exact ⟨_, by simp [hi], this.1, this.2⟩

theorem copyLists_ok (hH : H w h Ls) {av : Value} {ls : List (List Int)} (hA : RdLL h Ls av ls) (hl : ls.length ≤ 10000000) (hr : ∀ i (hi : i < ls.length), ls[i].length ≤ 1000000000) : Rets Tryz.prog 73 #[av] w fun v w' => ∃ O Is, OLists O Is v ls ∧ H w' h (O :: (Is ++ Ls)) := by
  refine rets_enter Tryz.func73 rfl Tryz.ntmps73 (by simp) ?_
  refine WT_seq ?_
  refine WT_region ?_
  refine WL_v rfl (ov_assign rfl) ?_
  refine WL_nil ?_
  refine WT_seq ?_
  refine WT_region ?_
  refine WL_v rfl (ov_move rfl) ?_
  refine WL_v rfl (ov_len rfl hA.sl st_sl_sl_int) ?_
  refine WL_make (sz := 1) (n := ls.length) (c := ls.length) rfl hH rfl rfl st_sl_sl_int (by omega) (by omega) (by omega) (by omega) ?_; rintro O0 ov w1 hO0 hH1
  refine WL_v rfl (ov_assign rfl) ?_
  refine WL_nil ?_
  refine WT_seq ?_
  refine WT_seq ?_
  refine WT_region ?_
  refine WL_v rfl (ov_move rfl) ?_
  refine WL_v rfl (ov_len rfl hA.sl st_sl_sl_int) ?_
  refine WL_v rfl (ov_move rfl) ?_
  refine WL_nil ?_
  refine WT_block ?_
  refine WT_while (fun s : Nat => [(3, ov), (9, av), (10, .int .i64 (ls.length : Int)), (11, .int .i64 (s : Int))]) (fun k w => k ≤ ls.length ∧ ∃ O Is xs, Row O 25 1 ov ls.length xs ∧ Is.length = k ∧ (∀ i (_ : i < k) (hi : i < ls.length), OLAt Is xs i ls[i]) ∧ H w h (O :: (Is ++ Ls))) (fun k => ls.length - k) 0 (by repeat (first | exact trivial | refine ⟨rfl, ?_⟩)) ⟨by omega, O0, [], _, hO0, rfl, fun i hi => by omega, hH1⟩ ?_
  clear hH hH1 hO0
  rintro k w2 ⟨hk, O, Is, xs, hO, hil, hat, hH⟩ again
  refine WT_seq ?_
  refine WT_region ?_
  refine WL_v rfl (ov_lss rfl rfl) ?_
  refine WL_nil ?_
  refine WT_seq ?_
  refine WT_cond rfl (fun hc => ?_) (fun hc => ?_)
  · skip
    first | with_reducible replace hc := of_decide_eq_true hc | with_reducible replace hc := bn_T hc | with_reducible replace hc := bb_T hc | skip
    have hkp : k < ls.length := by omega
    obtain ⟨u, hu, hcell⟩ := (hA.ups (O :: Is)).at_ hkp
    have hxl := hO.len
    have hkl := hr k hkp
    refine WT_skip ?_
    refine WT_seq ?_
    refine WT_block ?_
    refine WT_seq ?_
    refine WT_region ?_
    refine WL_v rfl (ov_move rfl) ?_
    refine WL_v rfl (ov_index rfl rfl st_sl_sl_int hA.sl hkp) ?_
    refine WL_v rfl (ov_load rfl one_sl_int (hcell hH)) ?_
    refine WL_v rfl (ov_assign rfl) ?_
    refine WL_v rfl (ov_assign rfl) ?_
    refine WL_nil ?_
    refine WT_region ?_
    refine WL_v rfl (ov_move rfl) ?_
    refine WL_v rfl (ov_move rfl) ?_
    refine WL_v rfl (ov_move rfl) ?_
    refine WL_call rfl rfl cf_impl_copyInts (copyInts_ok hH hu hkl) ?_; rintro fv w3 ⟨F, hF, hH3⟩
    refine WL_v rfl (ov_index rfl rfl st_sl_sl_int hO.sl hkp) ?_
    refine WL_storeRow (j := k * 1) hH3 rfl rfl (i := 1) rfl hO (by omega) hF.sl.one sz_sl_int ?_; rintro O2 w4 hO2 hH4; rw [Nat.mul_one] at hO2
    refine WL_nil ?_
    refine WT_inBlock ?_
    refine WT_region ?_
    refine WL_v rfl (ov_add rfl rfl (by omega)) ?_
    refine WL_v rfl (ov_move rfl) ?_
    refine WL_nil ?_
    refine again (k + 1) _ _ (by omega) (by repeat (first | exact trivial | refine ⟨rfl, ?_⟩)) ⟨by omega, O2, Is ++ [F], _, hO2, by simp [hil], fun i hi hil2 => ?_, H.snocG (A := [O2]) hH4⟩
    rcases Nat.lt_or_ge i k with h3 | h3
    · obtain ⟨v, G, e1, e2, e3⟩ := hat i h3 hil2
      refine ⟨v, G, ?_, ?_, e3⟩
      · rw [List.getElem?_set, if_neg (by omega)]; exact e1
      · rw [List.getElem?_append_left (by omega)]; exact e2
    · obtain rfl : i = k := by omega
      refine ⟨fv, F, ?_, ?_, hF⟩
      · rw [List.getElem?_set, if_pos rfl, if_pos (by omega)]
      · rw [List.getElem?_append_right (by omega), hil, Nat.sub_self]; rfl
  first | with_reducible replace hc := of_decide_eq_false hc | with_reducible replace hc := bn_F hc | with_reducible replace hc := bb_F hc | skip
  obtain rfl : k = ls.length := by omega
  refine WT_exit rfl ?_
  refine WT_seq ?_
  refine WT_region ?_
  refine WL_v rfl (ov_move rfl) ?_
  refine WL_v rfl (ov_assign rfl) ?_
  refine WL_nil ?_
  exact WT_ret1 Tryz.func73 Tryz.results73 rfl ⟨O, Is, ⟨hil, xs, hO, fun i hi => hat i hi hi⟩, hH⟩

theorem copyCrew_ok (hH : H w h Ls) {dv cv nv rv : Value} {c : Cr} (hl : CrLim c) (hCr : RdCr h Ls dv cv nv rv c) : Rets Tryz.prog 38 #[crV dv cv nv rv] w (CpV h Ls c) := by
  have hlq := hl.dq
  have hlc := hl.ct
  have hln := hl.dn
  have hlr := hl.rw
  have hld := hl.dd
  have hlw := hl.rr
  have hqr : ∀ i (hi : i < c.dq.length), c.dq[i].length ≤ 1000000000 := fun i hi => by have := len_flat hi; omega
  have hrr : ∀ i (hi : i < c.rw.length), c.rw[i].length ≤ 1000000000 := fun i hi => by have := hlw i hi; omega
  obtain ⟨A2, c2, rfl, _⟩ := hCr.dq.sl.form
  obtain ⟨A3, c3, rfl, _⟩ := hCr.ct.sl.form
  obtain ⟨A4, c4, rfl, _⟩ := hCr.dn.sl.form
  obtain ⟨A5, c5, rfl, _⟩ := hCr.rw.sl.form
  refine rets_enter Tryz.func38 rfl Tryz.ntmps38 (by simp) ?_
  refine WT_seq ?_
  refine WT_region ?_
  refine WL_box _ rfl hH rfl rfl ?_; rintro b w1 hH1; replace hH1 : H w1 h (crbox b (.slice A2 c.dq.length c2) (.slice A3 c.ct.length c3) (.slice A4 c.dn.length c4) (.slice A5 c.rw.length c5) :: Ls) := hH1
  refine WL_alloc _ rfl hH1 zero_crew rfl ?_; rintro g w2 hH2
  refine WL_nil ?_
  refine WT_seq ?_
  refine WT_mixS [(0, 1), (1, 0), (3, 1), (4, 0), (6, 1), (7, 0), (9, 1), (10, 0), (2, 2), (5, 2), (8, 2), (11, 3), (12, 1), (13, 3)] [crbox b (.slice A2 c.dq.length c2) (.slice A3 c.ct.length c3) (.slice A4 c.dn.length c4) (.slice A5 c.rw.length c5)] (fun w' hh => Cl.sub [cz9 g] [crbox b (.slice A2 c.dq.length c2) (.slice A3 c.ct.length c3) (.slice A4 c.dn.length c4) (.slice A5 c.rw.length c5)] _ hh) mixed (by kernel_rfl) hH2 ?_
  clear hH2
  intro w3 hH2 hC
  refine WM_p rfl rfl (fun _ => ov_field rfl fo_impl_Crew_0) ?_
  refine WM_v rfl rfl hC (fun _ ⟨_, hH⟩ => ov_load rfl one_sl_sl_int (hH.cb 1 rfl 0)) ?_
  refine WM_p rfl rfl (fun _ => ov_field rfl fo_impl_Crew_1) ?_
  refine WM_v rfl rfl hC (fun _ ⟨_, hH⟩ => ov_load rfl one_sl_int (hH.cb 1 rfl 1)) ?_
  refine WM_p rfl rfl (fun _ => ov_field rfl fo_impl_Crew_2) ?_
  refine WM_v rfl rfl hC (fun _ ⟨_, hH⟩ => ov_load rfl one_sl_int (hH.cb 1 rfl 2)) ?_
  refine WM_p rfl rfl (fun _ => ov_field rfl fo_impl_Crew_3) ?_
  refine WM_v rfl rfl hC (fun _ ⟨_, hH⟩ => ov_load rfl one_sl_sl_int (hH.cb 1 rfl 3)) ?_
  refine WM_e rfl ?_
  refine WL_call rfl rfl cf_impl_copyLists (copyLists_ok hH2 hCr.dq.up.up (by omega) hqr) ?_; rintro ov1 w4 ⟨D, Ds, hD, hH4⟩
  replace hC : Cl _ _ _ := (Cl.sub (D :: (Ds ++ [cz9 g])) [crbox b (.slice A2 c.dq.length c2) (.slice A3 c.ct.length c3) (.slice A4 c.dn.length c4) (.slice A5 c.rw.length c5)] Ls (by simpa using hH4))
  refine WL_mix (fun _ => hC) ?_
  refine WM_e rfl ?_
  refine WL_call rfl rfl cf_impl_copyInts (copyInts_ok hH4 (hCr.ct.up.up.ups (D :: Ds)) (by omega)) ?_; rintro ov2 w5 ⟨C, hCt, hH5⟩
  replace hC : Cl _ _ _ := (Cl.sub (C :: D :: (Ds ++ [cz9 g])) [crbox b (.slice A2 c.dq.length c2) (.slice A3 c.ct.length c3) (.slice A4 c.dn.length c4) (.slice A5 c.rw.length c5)] Ls (by simpa using hH5))
  refine WL_mix (fun _ => hC) ?_
  refine WM_e rfl ?_
  refine WL_call rfl rfl cf_impl_copyInts (copyInts_ok hH5 (hCr.dn.up.up.ups (C :: D :: Ds)) (by omega)) ?_; rintro ov3 w6 ⟨N, hN, hH6⟩
  replace hC : Cl _ _ _ := (Cl.sub (N :: C :: D :: (Ds ++ [cz9 g])) [crbox b (.slice A2 c.dq.length c2) (.slice A3 c.ct.length c3) (.slice A4 c.dn.length c4) (.slice A5 c.rw.length c5)] Ls (by simpa using hH6))
  refine WL_mix (fun _ => hC) ?_
  refine WM_e rfl ?_
  refine WL_call rfl rfl cf_impl_copyLists (copyLists_ok hH6 (hCr.rw.up.up.ups (N :: C :: D :: Ds)) (by omega) hrr) ?_; rintro ov4 w7 ⟨R, Rs, hR, hH7⟩; replace hH7 : H w7 h (cz9 g :: crbox b (.slice A2 c.dq.length c2) (.slice A3 c.ct.length c3) (.slice A4 c.dn.length c4) (.slice A5 c.rw.length c5) :: (R :: (Rs ++ N :: C :: D :: Ds) ++ Ls)) := H.front2 (T := R :: (Rs ++ N :: C :: D :: Ds)) (by simpa using hH7)
  refine WL_mix (fun h => absurd rfl h) ?_
  refine WM_p rfl rfl (fun _ => ov_build rfl (run_build_crew4 hD.sl hCt.sl hN.sl hR.sl)) ?_
  refine WM_e rfl ?_
  refine WL_storeN hH7 rfl rfl (i := 0) rfl rfl rfl (ones_cons hD.sl.one (ones_cons hCt.sl.one (ones_cons hN.sl.one (ones_cons hR.sl.one ones_nil)))) sz_impl_Crew ?_; rintro w8 hH8
  refine WL_mix (fun h => absurd rfl h) ?_
  refine WM_nil ?_
  exact WT_retC Tryz.func38 Tryz.results38 rfl (lvCrew (i := 0) (dv := ov1) (cv := ov2) (nv := ov3) (rv := ov4) rfl hH8) ⟨C, N, D, R, Ds, Rs, ov1, ov2, ov3, ov4, rfl, ⟨hCt, hN, hD, hR⟩, H.crewOrd (by simpa using hH8.drop.drop)⟩

theorem reslice_zero {a : Addr} {n cap k : Nat} (hc : 0 < cap) : reslice (.slice (some a) n cap) 0 k 1 = .slice (some a) k cap := by
  have : ¬ cap = 0 := by omega
  simp [reslice, this, Addr.add]
theorem delete_ok (hH : H w h Ls) {i k m : Nat} {O : Heaplet} {ov : Value} {xs : List Value} (hi : Ls[i]? = some O) (hO : Row O 25 1 ov (k + m + 1) xs) (hx1 : ∀ u ∈ xs, u.oneCell' = true) :
    Rets Tryz.prog 40 #[ov, .int .i64 (k : Int), .int .i64 ((k + 1 : Nat) : Int)] w fun v w' => ∃ O', Row O' 25 1 v (k + m) (xs.take k ++ xs.drop (k + 1)) ∧ H w' h (Ls.set i O') := by
  have hxl := hO.len
  have hlim := hO.lim
  have hil := (List.getElem?_eq_some_iff.1 hi).1
  have hR2 : Row O 25 1 (reslice ov (k + 1) (k + m + 1) 1) m (xs.drop (k + 1)) := by
    have := Row.reslice hO (lo := k + 1) (hi := k + m + 1) (by omega) (Nat.le_refl _)
    rw [Nat.mul_one, Nat.mul_one, show k + m + 1 - (k + 1) = m by omega, List.take_of_length_le (by simp; omega)] at this
    exact this
  rcases hO.form with ⟨_, h0, _⟩ | ⟨g, off, cap, cs, rfl, rfl, hnc, hfit, hcs⟩
  · omega
  rw [Nat.mul_one] at hfit
  have hsO := hO.sl
  refine rets_enter Tryz.func40 rfl Tryz.ntmps40 (by simp) ?_
  refine WT_seq ?_
  refine WT_region ?_
  refine WL_v rfl (ov_assign rfl) ?_
  refine WL_nil ?_
  refine WT_seq ?_
  refine WT_region ?_
  refine WL_v rfl (ov_move rfl) ?_
  refine WL_v rfl (ov_move rfl) ?_
  refine WL_v rfl (ov_move rfl) ?_
  refine WL_v rfl (ov_move rfl) ?_
  refine WL_v rfl (ov_len rfl hsO st_sl_sl_int) ?_
  refine WL_v rfl (ov_slice3 rfl rfl rfl rfl st_sl_sl_int (by omega) (by omega) hnc) ?_
  refine WL_nil ?_
  refine WT_seq ?_
  refine WT_seq ?_
  refine WT_region ?_
  refine WL_v rfl (ov_move rfl) ?_
  refine WL_v rfl (ov_move rfl) ?_
  refine WL_v rfl (ov_F (ov_eql rfl rfl) (decide_eq_false (by omega))) ?_
  refine WL_nil ?_
  refine WT_condF rfl ?_
  refine WT_skip ?_
  refine WT_seq ?_
  refine WT_region ?_
  refine WL_v rfl (ov_move rfl) ?_
  refine WL_v rfl (ov_len rfl hsO st_sl_sl_int) ?_
  refine WL_v rfl (ov_assign rfl) ?_
  refine WL_nil ?_
  refine WT_seq ?_
  refine WT_mixL [(0, 1), (1, 1), (2, 1), (3, 1), (4, 1), (5, 1), (6, 3), (7, 1)] mixed (by kernel_rfl) hH ?_
  clear hH
  intro w1 hH hC
  refine WM_p rfl rfl (fun _ => ov_move rfl) ?_
  refine WM_p rfl rfl (fun _ => ov_move rfl) ?_
  refine WM_p rfl rfl (fun _ => ov_as (ov_sliceHi rfl rfl st_sl_sl_int hsO (by omega)) (reslice_zero (by omega))) ?_
  refine WM_p rfl rfl (fun _ => ov_move rfl) ?_
  refine WM_p rfl rfl (fun _ => ov_move rfl) ?_
  refine WM_p rfl rfl (fun _ => ov_sliceLo rfl rfl st_sl_sl_int hsO (by omega)) ?_
  refine WM_e rfl ?_
  refine WL_appendIn (m := m) (ys := xs.drop (k + 1)) rfl hH rfl rfl st_sl_sl_int hi hR2.sl (by simp; omega) (fun j u hj => hR2.cell hH hi hj) (fun u hu => hx1 u (List.mem_of_mem_drop hu)) (by omega) hfit ?_; rintro w2 hH2
  refine WL_mix (fun h => absurd rfl h) ?_
  refine WM_p rfl rfl (fun _ => ov_assign rfl) ?_
  refine WM_nil ?_
  refine WT_seq ?_
  refine WT_region ?_
  refine WL_v rfl (ov_move rfl) ?_
  refine WL_v rfl (ov_move rfl) ?_
  have hyl : (xs.drop (k + 1)).length = m := by simp; omega
  have hcl : cs.toList.length = cs.size := by simp
  rw [hyl] at hH2
  generalize hcs1 : (cs.toList.take (off + k) ++ xs.drop (k + 1) ++ cs.toList.drop (off + k + m)).toArray = cs1 at hH2
  have hs1 : cs1.size = cs.size := by
    subst hcs1
    simp only [List.size_toArray, List.length_append, List.length_take, List.length_drop, hcl, hxl]
    omega
  have hi2 : (Ls.set i [(g, .cells cs1 25 (0, 0))])[i]? = some [(g, .cells cs1 25 (0, 0))] := by rw [List.getElem?_set, if_pos rfl, if_pos hil]
  have hs2 : Sl (.slice (some ⟨g, off, none⟩) (k + m) cap) (k + m) := ⟨by omega, some ⟨g, off, none⟩, cap, rfl, by omega, fun _ => rfl, fun _ a ha => by cases ha; rfl⟩
  have hup : Value.slice (some (Addr.add ⟨g, off, none⟩ ((k + m) * 1))) (k + m + 1 - (k + m)) (cap - (k + m)) = .slice (some ⟨g, off + (k + m), none⟩) 1 (cap - (k + m)) := by
    rw [Addr.add_lit, Nat.mul_one, show k + m + 1 - (k + m) = 1 by omega]
  refine WL_v rfl (ov_len rfl hs2 st_sl_sl_int) ?_
  refine WL_v rfl (ov_move rfl) ?_
  refine WL_v rfl (ov_as (ov_sliceUp (lo := k + m) (hi := k + m + 1) rfl rfl rfl st_sl_sl_int (by omega) hnc (by omega)) hup) ?_
  refine WL_clear (g := g) (off := off + (k + m)) (n := 1) hH2 rfl st_sl_sl_int zero_ints rfl rfl hi2 (by omega) (by omega) ?_; rintro w3 hH3
  refine WL_nil ?_
  refine WT_seq ?_
  refine WT_region ?_
  refine WL_v rfl (ov_move rfl) ?_
  refine WL_v rfl (ov_assign rfl) ?_
  refine WL_nil ?_
  have hc2 : (cs1.toList.take (off + (k + m))).length = off + (k + m) := by
    rw [List.length_take, Array.length_toList, hs1]; omega
  have hc1 : (cs.toList.take (off + k)).length = off + k := by rw [List.length_take, hcl]; omega
  rw [List.set_set] at hH3
  exact WT_ret1 Tryz.func40 Tryz.results40 rfl ⟨_, ⟨by simp; omega, by omega, .inr ⟨g, off, cap, _, rfl, rfl, by omega, by
    simp only [List.size_toArray, List.length_append, hc2, List.length_replicate, List.length_drop, Array.length_toList, hs1]; omega, fun j u hj => by
    have hjl : j < k + m := by
      have := (List.getElem?_eq_some_iff.1 hj).1
      simp at this; omega
    rw [List.getElem?_toArray, List.append_assoc, List.getElem?_append_left (by omega), List.getElem?_take_of_lt (by omega)]
    subst hcs1
    show (cs.toList.take (off + k) ++ xs.drop (k + 1) ++ cs.toList.drop (off + k + m))[off + j]? = some u
    rcases Nat.lt_or_ge j k with h3 | h3
    · rw [List.getElem?_append_left (by rw [List.length_take]; omega), List.getElem?_take_of_lt h3] at hj
      rw [List.append_assoc, List.getElem?_append_left (by omega), List.getElem?_take_of_lt (by omega)]
      simpa using hcs j u hj
    · rw [List.getElem?_append_right (by rw [List.length_take]; omega), List.length_take, Nat.min_eq_left (by omega)] at hj
      rw [List.append_assoc, List.getElem?_append_right (by omega), hc1, List.getElem?_append_left (by rw [hyl]; omega), show off + j - (off + k) = j - k by omega]
      exact hj⟩⟩, hH3⟩
end
end Go.Proofs.YteagnhdhafiofaaGreat

/- Walks: LoseWorker, both. -/
namespace Go.Proofs.YteagnhdhafiofaaGreat
open Go.RowKit

theorem mid_perm (d : Heaplet) (P Q A M : List Heaplet) : (A ++ ((P ++ d :: Q) ++ M)).Perm (d :: (A ++ ((P ++ Q) ++ M))) := by
  have := List.perm_middle (a := d) (l₁ := A ++ P) (l₂ := Q ++ M)
  simpa using this

section
variable {h : GH} {Ls : List Heaplet} {w : World}

theorem Cl.pick2 (T A : List Heaplet) {X Y : Heaplet} {B : List Heaplet} (hH : H w h (T ++ X :: Y :: (A ++ B))) : Cl h (X :: Y :: B) w :=
  Cl.many (T ++ A) (hH.perm (by
    have : (T ++ ([X, Y] ++ A ++ B)).Perm (T ++ (A ++ [X, Y] ++ B)) := (List.perm_append_comm.append_right B).append_left T
    simpa using this))
theorem H.eraseIn {A Ds M : List Heaplet} (k : Nat) (hH : H w h (A ++ (Ds ++ M))) : H w h (A ++ ((Ds.take k ++ Ds.drop (k + 1)) ++ M)) := by
  rcases Nat.lt_or_ge k Ds.length with hk | hk
  · have e : Ds = Ds.take k ++ Ds[k] :: Ds.drop (k + 1) := by rw [List.getElem_cons_drop, List.take_append_drop]
    have h1 : H w h (Ds[k] :: (A ++ ((Ds.take k ++ Ds.drop (k + 1)) ++ M))) := by
      refine hH.perm ?_
      have p1 : (A ++ (Ds ++ M)).Perm (A ++ ((Ds.take k ++ Ds[k] :: Ds.drop (k + 1)) ++ M)) := by rw [← e]
      exact p1.trans (mid_perm _ _ _ _ _)
    exact h1.drop
  · rw [List.take_of_length_le hk, List.drop_of_length_le (by omega), List.append_nil]
    exact hH
theorem ols_put {Is : List Heaplet} {xs : List Value} {ls : List (List Int)} {k : Nat} {F : Heaplet} {u : Value} {l : List Int} (hk : k < ls.length) (hil : Is.length = ls.length) (hxl : xs.length = ls.length) (hat : ∀ i (hi : i < ls.length), OLAt Is xs i ls[i]) (hF : IRow F 3 u l) :
    ∀ i (hi : i < (ls.set k l).length), OLAt (Is.set k F) (xs.set k u) i (ls.set k l)[i] := fun i hi => by
  have hi' : i < ls.length := by simpa using hi
  by_cases h : k = i
  · subst h
    exact ⟨u, F, by rw [List.getElem?_set, if_pos rfl, if_pos (by omega)], by rw [List.getElem?_set, if_pos rfl, if_pos (by omega)], by rw [List.getElem_set, if_pos rfl]; exact hF⟩
  · obtain ⟨v, G, e1, e2, e3⟩ := hat i hi'
    exact ⟨v, G, by rw [List.getElem?_set, if_neg h]; exact e1, by rw [List.getElem?_set, if_neg h]; exact e2, by rw [List.getElem_set, if_neg h]; exact e3⟩
theorem ols_erase {Is : List Heaplet} {xs : List Value} {ls : List (List Int)} {k : Nat} (hk : k < ls.length) (hil : Is.length = ls.length) (hxl : xs.length = ls.length) (hat : ∀ i (hi : i < ls.length), OLAt Is xs i ls[i]) :
    ∀ i (hi : i < (ls.take k ++ ls.drop (k + 1)).length), OLAt (Is.take k ++ Is.drop (k + 1)) (xs.take k ++ xs.drop (k + 1)) i (ls.take k ++ ls.drop (k + 1))[i] := fun i hi => by
  have hil2 : i < k + (ls.length - (k + 1)) := by simp at hi; omega
  rcases Nat.lt_or_ge i k with h3 | h3
  · obtain ⟨v, G, e1, e2, e3⟩ := hat i (by omega)
    refine ⟨v, G, ?_, ?_, ?_⟩
    · rw [List.getElem?_append_left (by rw [List.length_take]; omega), List.getElem?_take_of_lt h3]; exact e1
    · rw [List.getElem?_append_left (by rw [List.length_take]; omega), List.getElem?_take_of_lt h3]; exact e2
    · rw [List.getElem_append_left (by rw [List.length_take]; omega), List.getElem_take]; exact e3
  · obtain ⟨v, G, e1, e2, e3⟩ := hat (i + 1) (by omega)
    refine ⟨v, G, ?_, ?_, ?_⟩
    · rw [List.getElem?_append_right (by rw [List.length_take]; omega), List.length_take, Nat.min_eq_left (by omega), List.getElem?_drop, show k + 1 + (i - k) = i + 1 by omega]; exact e1
    · rw [List.getElem?_append_right (by rw [List.length_take]; omega), List.length_take, Nat.min_eq_left (by omega), List.getElem?_drop, show k + 1 + (i - k) = i + 1 by omega]; exact e2
    · have e4 : (ls.take k ++ ls.drop (k + 1))[i] = ls[i + 1] := by
        have e5 : (ls.take k ++ ls.drop (k + 1))[i]? = ls[i + 1]? := by
          rw [List.getElem?_append_right (by rw [List.length_take]; omega), List.length_take, Nat.min_eq_left (by omega), List.getElem?_drop, show k + 1 + (i - k) = i + 1 by omega]
        rw [List.getElem?_eq_getElem hi, List.getElem?_eq_getElem (by omega)] at e5
        exact Option.some.inj e5
      rw [e4]; exact e3
theorem lose_olists {O : Heaplet} {Is : List Heaplet} {v : Value} {dq : List (List Int)} {xs : List Value} {k m : Nat} {F : Heaplet} {u : Value} (hk : k < dq.length) (hm : dq.length = k + m + 1) (hil : Is.length = dq.length) (hxl : xs.length = dq.length) (hat : ∀ i (hi : i < dq.length), OLAt Is xs i dq[i])
    (hx : (k + 1) % dq.length < dq.length) (hF : IRow F 3 u (dq[k] ++ dq[(k + 1) % dq.length])) (hO : Row O 25 1 v (k + m) ((xs.set ((k + 1) % dq.length) u).take k ++ (xs.set ((k + 1) % dq.length) u).drop (k + 1))) :
    OLists O ((Is.set ((k + 1) % dq.length) F).take k ++ (Is.set ((k + 1) % dq.length) F).drop (k + 1)) v (loseL dq k) := by
  have hl := loseL_len hk
  have h1 : dq.getD k [] = dq[k] := by simp [List.getD_eq_getElem?_getD, List.getElem?_eq_getElem hk]
  have h2 : dq.getD ((k + 1) % dq.length) [] = dq[(k + 1) % dq.length] := by simp [List.getD_eq_getElem?_getD, List.getElem?_eq_getElem hx]
  refine ⟨by rw [hl]; simp; omega, _, by rw [hl, show dq.length - 1 = k + m by omega]; exact hO, ?_⟩
  have := ols_erase (k := k) (by rw [List.length_set]; exact hk) (by rw [List.length_set, List.length_set]; exact hil) (by rw [List.length_set, List.length_set]; exact hxl) (ols_put hx hil hxl hat hF)
  unfold loseL
  simp only [h1, h2]
  exact this

set_option maxHeartbeats 2000000 in
theorem loseWorker_yes (hH : H w h Ls) {pv dv cv nv rv : Value} {p : List Nd} {c : Cr} (hP : Plan h pv p) (hl : CrLim c) (hCr : RdCr h Ls dv cv nv rv c) {k : Nat} (hok : crewOk p c = true) (hk : k < c.dq.length) (hn : c.dq.length ≠ 1) :
    Rets Tryz.prog 12 #[pv, crV dv cv nv rv, .int .i64 (k : Int)] w fun v w' => ∃ dv' cv' nv' rv', v = .tuple #[crV dv' cv' nv' rv', .bool true] ∧ OwnCr h Ls (loseCr c k) dv' cv' nv' rv' w' := by
  have hlq := hl.dq
  have hld := hl.dd
  have hcv := fun {w : World} {X Y : Heaplet} (hH : H w h (X :: Y :: Ls)) => crewValid_ok hH hP hl hCr.up.up
  rw [hok] at hcv
  have hx : (k + 1) % c.dq.length < c.dq.length := Nat.mod_lt _ (by omega)
  have hmod : ((k : Nat) : Int) + 1 = ((k + 1 : Nat) : Int) := by omega
  have hmod2 : ((k + 1 : Nat) : Int) % ((c.dq.length : Nat) : Int) = (((k + 1) % c.dq.length : Nat) : Int) := (Int.natCast_emod _ _).symm
  obtain ⟨m, hm⟩ : ∃ m, c.dq.length = k + m + 1 := ⟨c.dq.length - k - 1, by omega⟩
  have hlk := len_flat hk
  have hlx := len_flat hx
  have hds := hCr.dq.sl
  have hiw := fun {w : World} {X Y : Heaplet} (hH : H w h (X :: Y :: Ls)) => isWorker_ok hH hCr.up.up (k : Int)
  rw [decide_eq_true (show 0 ≤ (k : Int) ∧ (k : Int) < (c.dq.length : Int) by omega)] at hiw
  obtain ⟨A2, c2, rfl, _⟩ := hCr.dq.sl.form
  obtain ⟨A3, c3, rfl, _⟩ := hCr.ct.sl.form
  obtain ⟨A4, c4, rfl, _⟩ := hCr.dn.sl.form
  obtain ⟨A5, c5, rfl, _⟩ := hCr.rw.sl.form
  obtain ⟨ys, hyl, hya⟩ := hCr.dq.valsQ
  obtain ⟨u1, f1, f2, f3⟩ := hya k hk
  obtain ⟨u2, q1, q2, q3⟩ := hya _ hx
  refine rets_enter Tryz.func12 rfl Tryz.ntmps12 (by simp) ?_
  refine WT_seq ?_
  refine WT_region ?_
  refine WL_box _ rfl hH rfl rfl ?_; rintro b w1 hH1; replace hH1 : H w1 h (crbox b (.slice A2 c.dq.length c2) (.slice A3 c.ct.length c3) (.slice A4 c.dn.length c4) (.slice A5 c.rw.length c5) :: Ls) := hH1
  refine WL_alloc _ rfl hH1 zero_crew rfl ?_; rintro g6 w2 hH2
  refine WL_v rfl (ov_assign rfl) ?_
  refine WL_nil ?_
  refine WT_seq ?_
  refine WT_seq ?_
  refine WT_region ?_
  refine WL_v rfl (ov_move rfl) ?_
  refine WL_v rfl (ov_loadN [.slice A2 c.dq.length c2, .slice A3 c.ct.length c3, .slice A4 c.dn.length c4, .slice A5 c.rw.length c5] rfl agg_impl_Crew rfl ((loadCrew (i := 1) rfl hH2))) ?_
  refine WL_call rfl rfl cf_impl_CrewValid (hcv hH2) ?_; rintro _ w3 ⟨rfl, hH3⟩
  refine WL_v rfl (ov_not rfl) ?_
  refine WL_v rfl (ov_move rfl) ?_
  refine WL_guardOn rfl rfl ?_
  refine WL_v rfl (ov_loadN [.slice A2 c.dq.length c2, .slice A3 c.ct.length c3, .slice A4 c.dn.length c4, .slice A5 c.rw.length c5] rfl agg_impl_Crew rfl ((loadCrew (i := 1) rfl hH3))) ?_
  refine WL_guardOn rfl rfl ?_
  refine WL_v rfl (ov_move rfl) ?_
  refine WL_guardOn rfl rfl ?_
  refine WL_call rfl rfl cf_impl_isWorker (hiw hH3) ?_; rintro _ w4 ⟨rfl, hH4⟩
  refine WL_guardOn rfl rfl ?_
  refine WL_v rfl (ov_not rfl) ?_
  refine WL_v rfl (ov_pickF rfl rfl) ?_
  refine WL_v rfl (ov_move rfl) ?_
  refine WL_guardOn rfl rfl ?_
  refine WL_v rfl (ov_field rfl fo_impl_Crew_0) ?_
  refine WL_guardOn rfl rfl ?_
  refine WL_v rfl (ov_load rfl one_sl_sl_int (hH4.cb 1 rfl 0)) ?_
  refine WL_guardOn rfl rfl ?_
  refine WL_v rfl (ov_len rfl hds st_sl_sl_int) ?_
  refine WL_guardOn rfl rfl ?_
  refine WL_v rfl (ov_F (ov_eql rfl rfl) (decide_eq_false (by omega))) ?_
  refine WL_v rfl (ov_pickF rfl rfl) ?_
  refine WL_nil ?_
  refine WT_condF rfl ?_
  refine WT_skip ?_
  refine WT_seq ?_
  refine WT_region ?_
  refine WL_v rfl (ov_loadN [.slice A2 c.dq.length c2, .slice A3 c.ct.length c3, .slice A4 c.dn.length c4, .slice A5 c.rw.length c5] rfl agg_impl_Crew rfl ((loadCrew (i := 1) rfl hH4))) ?_
  refine WL_call rfl rfl cf_impl_copyCrew (copyCrew_ok hH4 hl hCr.up.up) ?_; rintro _ w5 ⟨C, N, D, R, Ds, Rs, ov1, ov2, ov3, ov4, rfl, hO, hH5⟩
  refine WL_alloc _ rfl hH5 zero_crew rfl ?_; rintro g8 w6 hH6
  refine WL_storeN hH6 rfl rfl (i := 0) rfl rfl rfl (ones_cons hO.dq.sl.one (ones_cons hO.ct.sl.one (ones_cons hO.dn.sl.one (ones_cons hO.rw.sl.one ones_nil)))) sz_impl_Crew ?_; rintro w7 hH7
  refine WL_nil ?_
  refine WT_seq ?_
  refine WT_region ?_
  refine WL_v rfl (ov_move rfl) ?_
  refine WL_v rfl (ov_as (ov_add rfl rfl (by omega)) (congrArg (Value.int .i64) (hmod))) ?_
  refine WL_v rfl (ov_field rfl fo_impl_Crew_0) ?_
  have hH8 : H w7 h (cz9 g6 :: crbox b (.slice A2 c.dq.length c2) (.slice A3 c.ct.length c3) (.slice A4 c.dn.length c4) (.slice A5 c.rw.length c5) :: crbox g8 ov1 ov2 ov3 ov4 :: C :: N :: D :: R :: (Ds ++ (Rs ++ Ls))) := by
    have := H.front2 (T := crbox g8 ov1 ov2 ov3 ov4 :: C :: N :: D :: R :: (Ds ++ Rs)) (Ms := Ls) (A := cz9 g6) (B := crbox b (.slice A2 c.dq.length c2) (.slice A3 c.ct.length c3) (.slice A4 c.dn.length c4) (.slice A5 c.rw.length c5)) (by simpa using hH7)
    simpa using this
  have hlift : ∀ {v : Value} {xs : List Int}, RdL h Ls v xs → RdL h (cz9 g6 :: crbox b (.slice A2 c.dq.length c2) (.slice A3 c.ct.length c3) (.slice A4 c.dn.length c4) (.slice A5 c.rw.length c5) :: crbox g8 ov1 ov2 ov3 ov4 :: C :: N :: D :: R :: (Ds ++ (Rs ++ Ls))) v xs := fun {v xs} hr => by
    simpa using hr.ups (cz9 g6 :: crbox b (.slice A2 c.dq.length c2) (.slice A3 c.ct.length c3) (.slice A4 c.dn.length c4) (.slice A5 c.rw.length c5) :: crbox g8 ov1 ov2 ov3 ov4 :: C :: N :: D :: R :: (Ds ++ Rs))
  clear hH hH1 hH2 hH3 hH4 hH5 hH6 hH7
  obtain ⟨hOct, hOdn, hOdq, hOrw⟩ := hO
  obtain ⟨hil, xs, hR0, hat⟩ := hOdq
  have hxl : xs.length = c.dq.length := by have := hR0.len; omega
  have hxs1 : ∀ u ∈ xs, u.oneCell' = true := fun u hu => by
    obtain ⟨j, hj, rfl⟩ := List.getElem_of_mem hu
    obtain ⟨v, G, e1, _, e3⟩ := hat j (by omega)
    rw [List.getElem?_eq_getElem hj] at e1
    obtain rfl := Option.some.inj e1
    exact e3.sl.one
  refine WL_v rfl (ov_load rfl one_sl_sl_int (hH8.cb 1 rfl 0)) ?_
  refine WL_v rfl (ov_len rfl hds st_sl_sl_int) ?_
  refine WL_v rfl (ov_as (ov_rem rfl rfl (by omega) (by omega)) (congrArg (Value.int .i64) hmod2)) ?_
  refine WL_v rfl (ov_assign rfl) ?_
  refine WL_nil ?_
  refine WT_seq ?_
  refine WT_mixS [(0, 1), (1, 0), (2, 1), (3, 1), (4, 0), (5, 1), (6, 1), (7, 0), (9, 1), (10, 0), (11, 1), (12, 1), (13, 0), (8, 2), (14, 2), (15, 1), (16, 3)] (crbox b (.slice A2 c.dq.length c2) (.slice A3 c.ct.length c3) (.slice A4 c.dn.length c4) (.slice A5 c.rw.length c5) :: crbox g8 ov1 ov2 ov3 ov4 :: Ls) (fun w' hh => Cl.pick2 [cz9 g6] (C :: N :: D :: R :: (Ds ++ Rs)) (by simpa using hh)) mixed (by kernel_rfl) hH8 ?_
  clear hH8
  intro w8 hH8 hC
  refine WM_p rfl rfl (fun _ => ov_field rfl fo_impl_Crew_0) ?_
  refine WM_v rfl rfl hC (fun _ ⟨_, hH⟩ => ov_load rfl one_sl_sl_int (hH.cb 2 rfl 0)) ?_
  refine WM_p rfl rfl (fun _ => ov_move rfl) ?_
  refine WM_p rfl rfl (fun _ => ov_field rfl fo_impl_Crew_0) ?_
  refine WM_v rfl rfl hC (fun _ ⟨_, hH⟩ => ov_load rfl one_sl_sl_int (hH.cb 1 rfl 0)) ?_
  refine WM_p rfl rfl (fun _ => ov_move rfl) ?_
  refine WM_p rfl rfl (fun _ => ov_index rfl rfl st_sl_sl_int hds hk) ?_
  refine WM_v rfl rfl hC (fun _ ⟨_, hH⟩ => ov_load rfl one_sl_int (f3 hH.drop.drop.drop)) ?_
  refine WM_p rfl rfl (fun _ => ov_field rfl fo_impl_Crew_0) ?_
  refine WM_v rfl rfl hC (fun _ ⟨_, hH⟩ => ov_load rfl one_sl_sl_int (hH.cb 1 rfl 0)) ?_
  refine WM_p rfl rfl (fun _ => ov_move rfl) ?_
  refine WM_p rfl rfl (fun _ => ov_index rfl rfl st_sl_sl_int hds hx) ?_
  refine WM_v rfl rfl hC (fun _ ⟨_, hH⟩ => ov_load rfl one_sl_int (q3 hH.drop.drop.drop)) ?_
  refine WM_e rfl ?_
  refine WL_call rfl rfl cf_impl_copyInts (copyInts_ok hH8 (hlift f2) (by omega)) ?_; rintro fv w9 ⟨F, hF, hH9⟩
  replace hC : Cl _ _ _ := Cl.pick2 [F, cz9 g6] (C :: N :: D :: R :: (Ds ++ Rs)) (by simpa using hH9)
  refine WL_mix (fun _ => hC) ?_
  refine WM_e rfl ?_
  refine WL_appR (i := 0) rfl hH9 rfl rfl st_sl_int rfl hF q2.sl ((hlift q2).up.cell hH9) (by omega) (by omega) ?_; rintro F2 fv2 w10 hF2 hH10
  replace hC : Cl _ _ _ := Cl.pick2 [F2, cz9 g6] (C :: N :: D :: R :: (Ds ++ Rs)) (by simpa using hH10)
  refine WL_mix (fun _ => hC) ?_
  refine WM_p rfl rfl (fun _ => ov_index rfl rfl st_sl_sl_int hR0.sl hx) ?_
  refine WM_e rfl ?_
  refine WL_storeRow (j := (k + 1) % c.dq.length * 1) hH10 rfl rfl (i := 6) rfl hR0 (by omega) hF2.sl.one sz_sl_int ?_; rintro D2 w12 hD2 hH12; rw [Nat.mul_one] at hD2
  refine WL_mix (fun h => absurd rfl h) ?_
  refine WM_nil ?_
  refine WT_seq ?_
  refine WT_region ?_
  refine WL_v rfl (ov_field rfl fo_impl_Crew_0) ?_
  have hH13 : H w12 h (cz9 g6 :: crbox b (.slice A2 c.dq.length c2) (.slice A3 c.ct.length c3) (.slice A4 c.dn.length c4) (.slice A5 c.rw.length c5) :: crbox g8 ov1 ov2 ov3 ov4 :: C :: N :: D2 :: R :: (Ds.set ((k + 1) % c.dq.length) F2 ++ (Rs ++ Ls))) := H.swapIn (A := [cz9 g6, crbox b (.slice A2 c.dq.length c2) (.slice A3 c.ct.length c3) (.slice A4 c.dn.length c4) (.slice A5 c.rw.length c5), crbox g8 ov1 ov2 ov3 ov4, C, N, D2, R]) (by omega) hH12
  rw [hm] at hD2
  have hone : ∀ u ∈ xs.set ((k + 1) % (k + m + 1)) fv2, u.oneCell' = true := fun u hu => by
    rcases List.mem_or_eq_of_mem_set hu with hu | rfl
    · exact hxs1 u hu
    · exact hF2.sl.one
  refine WL_v rfl (ov_load rfl one_sl_sl_int (hH13.cb 2 rfl 0)) ?_
  refine WL_v rfl (ov_move rfl) ?_
  refine WL_v rfl (ov_move rfl) ?_
  refine WL_v rfl (ov_as (ov_add rfl rfl (by omega)) (congrArg (Value.int .i64) (hmod))) ?_
  refine WL_call rfl rfl cf_slices_Delete_sl_sl_int_sl_int (delete_ok hH13 (i := 5) rfl hD2 hone) ?_; rintro dv2 w13 ⟨O2, hO2, hH14⟩
  refine WL_v rfl (ov_field rfl fo_impl_Crew_0) ?_
  refine WL_store hH14 rfl rfl (i := 2) (off := 0) rfl rfl (by simp) hO2.sl.one sz_sl_sl_int ?_; rintro w14 hH15; replace hH15 : H w14 h (cz9 g6 :: crbox b (.slice A2 c.dq.length c2) (.slice A3 c.ct.length c3) (.slice A4 c.dn.length c4) (.slice A5 c.rw.length c5) :: crbox g8 dv2 ov2 ov3 ov4 :: C :: N :: O2 :: R :: (Ds.set ((k + 1) % c.dq.length) F2 ++ (Rs ++ Ls))) := hH15
  refine WL_nil ?_
  refine WT_seq ?_
  refine WT_region ?_
  refine WL_v rfl (ov_loadN [dv2, ov2, ov3, ov4] rfl agg_impl_Crew rfl ((loadCrew (i := 2) rfl hH15))) ?_
  refine WL_storeN hH15 rfl rfl (i := 0) rfl rfl rfl (ones_cons hO2.sl.one (ones_cons hOct.sl.one (ones_cons hOdn.sl.one (ones_cons hOrw.sl.one ones_nil)))) sz_impl_Crew ?_; rintro w16 hH16
  refine WL_v rfl (ov_assign rfl) ?_
  refine WL_nil ?_
  rw [← hm] at hO2
  exact WT_retCT Tryz.func12 Tryz.results12 rfl rfl (lvCrew (i := 0) (dv := dv2) (cv := ov2) (nv := ov3) (rv := ov4) rfl hH16) ⟨dv2, ov2, ov3, ov4, rfl, C, N, O2, R, (Ds.set ((k + 1) % c.dq.length) F2).take k ++ (Ds.set ((k + 1) % c.dq.length) F2).drop (k + 1), Rs, ⟨hOct, hOdn, lose_olists hk hm hil hxl hat hx hF2 hO2, hOrw⟩, H.eraseIn (A := [C, N, O2, R]) k hH16.drop.drop.drop⟩

set_option maxHeartbeats 2000000 in
theorem sLoseWorker_yes (hH : H w h Ls) {pv dv cv nv rv : Value} {p : List Nd} {c : Cr} (hP : Plan h pv p) (hpl : p.length ≤ 1000000000) (hl : CrLim c) (hCr : RdCr h Ls dv cv nv rv c) {k : Nat} (hok : crewOk p c = true) (hk : k < c.dq.length) (hn : c.dq.length ≠ 1) :
    Rets Tryz.prog 13 #[pv, crV dv cv nv rv, .int .i64 (k : Int)] w fun v w' => ∃ dv' cv' nv' rv', v = .tuple #[crV dv' cv' nv' rv', .bool true] ∧ OwnCr h Ls (loseCr c k) dv' cv' nv' rv' w' := by
  have hlq := hl.dq
  have hld := hl.dd
  have hcv := fun {w : World} {X Y : Heaplet} (hH : H w h (X :: Y :: Ls)) => sCrewValid_ok hH hP (by omega) hl hCr.up.up
  rw [hok] at hcv
  have hx : (k + 1) % c.dq.length < c.dq.length := Nat.mod_lt _ (by omega)
  have hmod : ((k : Nat) : Int) + 1 = ((k + 1 : Nat) : Int) := by omega
  have hmod2 : ((k + 1 : Nat) : Int) % ((c.dq.length : Nat) : Int) = (((k + 1) % c.dq.length : Nat) : Int) := (Int.natCast_emod _ _).symm
  obtain ⟨m, hm⟩ : ∃ m, c.dq.length = k + m + 1 := ⟨c.dq.length - k - 1, by omega⟩
  have hlk := len_flat hk
  have hlx := len_flat hx
  have hds := hCr.dq.sl
  have hiw := fun {w : World} {X Y : Heaplet} (hH : H w h (X :: Y :: Ls)) => l6In_ok hH (k : Int) 0 ((c.dq.length : Int) - 1)
  rw [decide_eq_true (show 0 ≤ (k : Int) ∧ (k : Int) ≤ (c.dq.length : Int) - 1 by omega)] at hiw
  obtain ⟨A2, c2, rfl, _⟩ := hCr.dq.sl.form
  obtain ⟨A3, c3, rfl, _⟩ := hCr.ct.sl.form
  obtain ⟨A4, c4, rfl, _⟩ := hCr.dn.sl.form
  obtain ⟨A5, c5, rfl, _⟩ := hCr.rw.sl.form
  obtain ⟨ys, hyl, hya⟩ := hCr.dq.valsQ
  obtain ⟨u1, f1, f2, f3⟩ := hya k hk
  obtain ⟨u2, q1, q2, q3⟩ := hya _ hx
  refine rets_enter Tryz.func13 rfl Tryz.ntmps13 (by simp) ?_
  refine WT_seq ?_
  refine WT_region ?_
  refine WL_box _ rfl hH rfl rfl ?_; rintro b w1 hH1; replace hH1 : H w1 h (crbox b (.slice A2 c.dq.length c2) (.slice A3 c.ct.length c3) (.slice A4 c.dn.length c4) (.slice A5 c.rw.length c5) :: Ls) := hH1
  refine WL_alloc _ rfl hH1 zero_crew rfl ?_; rintro g6 w2 hH2
  refine WL_v rfl (ov_assign rfl) ?_
  refine WL_nil ?_
  refine WT_seq ?_
  refine WT_seq ?_
  refine WT_region ?_
  refine WL_v rfl (ov_move rfl) ?_
  refine WL_v rfl (ov_loadN [.slice A2 c.dq.length c2, .slice A3 c.ct.length c3, .slice A4 c.dn.length c4, .slice A5 c.rw.length c5] rfl agg_impl_Crew rfl ((loadCrew (i := 1) rfl hH2))) ?_
  refine WL_call rfl rfl cf_spec_CrewValid (hcv hH2) ?_; rintro _ w3 ⟨rfl, hH3⟩
  refine WL_v rfl (ov_not rfl) ?_
  refine WL_v rfl (ov_move rfl) ?_
  refine WL_guardOn rfl rfl ?_
  refine WL_v rfl (ov_move rfl) ?_
  refine WL_guardOn rfl rfl ?_
  refine WL_v rfl (ov_field rfl fo_impl_Crew_0) ?_
  refine WL_guardOn rfl rfl ?_
  refine WL_v rfl (ov_load rfl one_sl_sl_int (hH3.cb 1 rfl 0)) ?_
  refine WL_guardOn rfl rfl ?_
  refine WL_v rfl (ov_len rfl hds st_sl_sl_int) ?_
  refine WL_guardOn rfl rfl ?_
  refine WL_v rfl (ov_sub rfl rfl (by omega)) ?_
  refine WL_guardOn rfl rfl ?_
  refine WL_call rfl rfl cf_spec_l6In (hiw hH3) ?_; rintro _ w4 ⟨rfl, hH4⟩
  refine WL_guardOn rfl rfl ?_
  refine WL_v rfl (ov_not rfl) ?_
  refine WL_v rfl (ov_pickF rfl rfl) ?_
  refine WL_v rfl (ov_move rfl) ?_
  refine WL_guardOn rfl rfl ?_
  refine WL_v rfl (ov_field rfl fo_impl_Crew_0) ?_
  refine WL_guardOn rfl rfl ?_
  refine WL_v rfl (ov_load rfl one_sl_sl_int (hH4.cb 1 rfl 0)) ?_
  refine WL_guardOn rfl rfl ?_
  refine WL_v rfl (ov_len rfl hds st_sl_sl_int) ?_
  refine WL_guardOn rfl rfl ?_
  refine WL_v rfl (ov_F (ov_eql rfl rfl) (decide_eq_false (by omega))) ?_
  refine WL_v rfl (ov_pickF rfl rfl) ?_
  refine WL_nil ?_
  refine WT_condF rfl ?_
  refine WT_skip ?_
  refine WT_seq ?_
  refine WT_region ?_
  refine WL_v rfl (ov_loadN [.slice A2 c.dq.length c2, .slice A3 c.ct.length c3, .slice A4 c.dn.length c4, .slice A5 c.rw.length c5] rfl agg_impl_Crew rfl ((loadCrew (i := 1) rfl hH4))) ?_
  refine WL_call rfl rfl cf_spec_l14Copy (l14Copy_ok hH4 hl hCr.up.up) ?_; rintro _ w5 ⟨C, N, D, R, Ds, Rs, ov1, ov2, ov3, ov4, rfl, hO, hH5⟩
  refine WL_alloc _ rfl hH5 zero_crew rfl ?_; rintro g8 w6 hH6
  refine WL_storeN hH6 rfl rfl (i := 0) rfl rfl rfl (ones_cons hO.dq.sl.one (ones_cons hO.ct.sl.one (ones_cons hO.dn.sl.one (ones_cons hO.rw.sl.one ones_nil)))) sz_impl_Crew ?_; rintro w7 hH7
  refine WL_nil ?_
  refine WT_seq ?_
  refine WT_region ?_
  refine WL_v rfl (ov_move rfl) ?_
  refine WL_v rfl (ov_as (ov_add rfl rfl (by omega)) (congrArg (Value.int .i64) (hmod))) ?_
  refine WL_v rfl (ov_field rfl fo_impl_Crew_0) ?_
  have hH8 : H w7 h (cz9 g6 :: crbox b (.slice A2 c.dq.length c2) (.slice A3 c.ct.length c3) (.slice A4 c.dn.length c4) (.slice A5 c.rw.length c5) :: crbox g8 ov1 ov2 ov3 ov4 :: C :: N :: D :: R :: (Ds ++ (Rs ++ Ls))) := by
    have := H.front2 (T := crbox g8 ov1 ov2 ov3 ov4 :: C :: N :: D :: R :: (Ds ++ Rs)) (Ms := Ls) (A := cz9 g6) (B := crbox b (.slice A2 c.dq.length c2) (.slice A3 c.ct.length c3) (.slice A4 c.dn.length c4) (.slice A5 c.rw.length c5)) (by simpa using hH7)
    simpa using this
  have hlift : ∀ {v : Value} {xs : List Int}, RdL h Ls v xs → RdL h (cz9 g6 :: crbox b (.slice A2 c.dq.length c2) (.slice A3 c.ct.length c3) (.slice A4 c.dn.length c4) (.slice A5 c.rw.length c5) :: crbox g8 ov1 ov2 ov3 ov4 :: C :: N :: D :: R :: (Ds ++ (Rs ++ Ls))) v xs := fun {v xs} hr => by
    simpa using hr.ups (cz9 g6 :: crbox b (.slice A2 c.dq.length c2) (.slice A3 c.ct.length c3) (.slice A4 c.dn.length c4) (.slice A5 c.rw.length c5) :: crbox g8 ov1 ov2 ov3 ov4 :: C :: N :: D :: R :: (Ds ++ Rs))
  clear hH hH1 hH2 hH3 hH4 hH5 hH6 hH7
  obtain ⟨hOct, hOdn, hOdq, hOrw⟩ := hO
  obtain ⟨hil, xs, hR0, hat⟩ := hOdq
  have hxl : xs.length = c.dq.length := by have := hR0.len; omega
  have hxs1 : ∀ u ∈ xs, u.oneCell' = true := fun u hu => by
    obtain ⟨j, hj, rfl⟩ := List.getElem_of_mem hu
    obtain ⟨v, G, e1, _, e3⟩ := hat j (by omega)
    rw [List.getElem?_eq_getElem hj] at e1
    obtain rfl := Option.some.inj e1
    exact e3.sl.one
  refine WL_v rfl (ov_load rfl one_sl_sl_int (hH8.cb 1 rfl 0)) ?_
  refine WL_v rfl (ov_len rfl hds st_sl_sl_int) ?_
  refine WL_v rfl (ov_as (ov_rem rfl rfl (by omega) (by omega)) (congrArg (Value.int .i64) hmod2)) ?_
  refine WL_v rfl (ov_assign rfl) ?_
  refine WL_nil ?_
  refine WT_seq ?_
  refine WT_mixS [(0, 1), (1, 0), (2, 1), (4, 1), (5, 0), (6, 1), (7, 1), (8, 0), (10, 1), (11, 0), (12, 1), (13, 1), (14, 0), (3, 2), (9, 2), (15, 2), (16, 1), (17, 3)] (crbox b (.slice A2 c.dq.length c2) (.slice A3 c.ct.length c3) (.slice A4 c.dn.length c4) (.slice A5 c.rw.length c5) :: crbox g8 ov1 ov2 ov3 ov4 :: Ls) (fun w' hh => Cl.pick2 [cz9 g6] (C :: N :: D :: R :: (Ds ++ Rs)) (by simpa using hh)) mixed (by kernel_rfl) hH8 ?_
  clear hH8
  intro w8 hH8 hC
  refine WM_p rfl rfl (fun _ => ov_field rfl fo_impl_Crew_0) ?_
  refine WM_v rfl rfl hC (fun _ ⟨_, hH⟩ => ov_load rfl one_sl_sl_int (hH.cb 2 rfl 0)) ?_
  refine WM_p rfl rfl (fun _ => ov_move rfl) ?_
  refine WM_p rfl rfl (fun _ => ov_field rfl fo_impl_Crew_0) ?_
  refine WM_v rfl rfl hC (fun _ ⟨_, hH⟩ => ov_load rfl one_sl_sl_int (hH.cb 1 rfl 0)) ?_
  refine WM_p rfl rfl (fun _ => ov_move rfl) ?_
  refine WM_p rfl rfl (fun _ => ov_index rfl rfl st_sl_sl_int hds hk) ?_
  refine WM_v rfl rfl hC (fun _ ⟨_, hH⟩ => ov_load rfl one_sl_int (f3 hH.drop.drop.drop)) ?_
  refine WM_p rfl rfl (fun _ => ov_field rfl fo_impl_Crew_0) ?_
  refine WM_v rfl rfl hC (fun _ ⟨_, hH⟩ => ov_load rfl one_sl_sl_int (hH.cb 1 rfl 0)) ?_
  refine WM_p rfl rfl (fun _ => ov_move rfl) ?_
  refine WM_p rfl rfl (fun _ => ov_index rfl rfl st_sl_sl_int hds hx) ?_
  refine WM_v rfl rfl hC (fun _ ⟨_, hH⟩ => ov_load rfl one_sl_int (q3 hH.drop.drop.drop)) ?_
  refine WM_e rfl ?_
  refine WL_bsI0 rfl hH8 run_bs_int0 ?_; rintro Z zv w9 hZ hH9
  replace hC : Cl _ _ _ := Cl.pick2 [Z, cz9 g6] (C :: N :: D :: R :: (Ds ++ Rs)) (by simpa using hH9)
  refine WL_mix (fun _ => hC) ?_
  refine WM_e rfl ?_
  refine WL_appR (i := 0) rfl hH9 rfl rfl st_sl_int rfl hZ f2.sl ((hlift f2).up.cell hH9) (by simp; omega) (by simp; omega) ?_; rintro F fv w11 hF hH11; rw [List.nil_append] at hF
  replace hC : Cl _ _ _ := Cl.pick2 [F, cz9 g6] (C :: N :: D :: R :: (Ds ++ Rs)) (by simpa using hH11)
  refine WL_mix (fun _ => hC) ?_
  refine WM_e rfl ?_
  refine WL_appR (i := 0) rfl hH11 rfl rfl st_sl_int rfl hF q2.sl ((hlift q2).up.cell hH11) (by omega) (by omega) ?_; rintro F2 fv2 w10 hF2 hH10
  replace hC : Cl _ _ _ := Cl.pick2 [F2, cz9 g6] (C :: N :: D :: R :: (Ds ++ Rs)) (by simpa using hH10)
  refine WL_mix (fun _ => hC) ?_
  refine WM_p rfl rfl (fun _ => ov_index rfl rfl st_sl_sl_int hR0.sl hx) ?_
  refine WM_e rfl ?_
  refine WL_storeRow (j := (k + 1) % c.dq.length * 1) hH10 rfl rfl (i := 6) rfl hR0 (by omega) hF2.sl.one sz_sl_int ?_; rintro D2 w12 hD2 hH12; rw [Nat.mul_one] at hD2
  refine WL_mix (fun h => absurd rfl h) ?_
  refine WM_nil ?_
  refine WT_seq ?_
  have hH13 : H w12 h (cz9 g6 :: crbox b (.slice A2 c.dq.length c2) (.slice A3 c.ct.length c3) (.slice A4 c.dn.length c4) (.slice A5 c.rw.length c5) :: crbox g8 ov1 ov2 ov3 ov4 :: C :: N :: D2 :: R :: (Ds.set ((k + 1) % c.dq.length) F2 ++ (Rs ++ Ls))) := H.swapIn (A := [cz9 g6, crbox b (.slice A2 c.dq.length c2) (.slice A3 c.ct.length c3) (.slice A4 c.dn.length c4) (.slice A5 c.rw.length c5), crbox g8 ov1 ov2 ov3 ov4, C, N, D2, R]) (by omega) hH12
  rw [hm] at hD2
  have hone : ∀ u ∈ xs.set ((k + 1) % (k + m + 1)) fv2, u.oneCell' = true := fun u hu => by
    rcases List.mem_or_eq_of_mem_set hu with hu | rfl
    · exact hxs1 u hu
    · exact hF2.sl.one
  have hsD := hD2.sl
  have hRf : Row D2 25 1 (reslice ov1 0 k 1) k ((xs.set ((k + 1) % (k + m + 1)) fv2).take k) := by
    have := Row.reslice hD2 (lo := 0) (hi := k) (by omega) (by omega)
    simpa using this
  have hRg : Row D2 25 1 (reslice ov1 (k + 1) (k + m + 1) 1) m ((xs.set ((k + 1) % (k + m + 1)) fv2).drop (k + 1)) := by
    have := Row.reslice hD2 (lo := k + 1) (hi := k + m + 1) (by omega) (Nat.le_refl _)
    rw [Nat.mul_one, Nat.mul_one, show k + m + 1 - (k + 1) = m by omega, List.take_of_length_le (by simp; omega)] at this
    exact this
  refine WT_mixS [(0, 1), (1, 0), (2, 1), (3, 1), (4, 1), (5, 0), (6, 1), (7, 1), (8, 1), (9, 3), (10, 1), (11, 3)] (crbox b (.slice A2 c.dq.length c2) (.slice A3 c.ct.length c3) (.slice A4 c.dn.length c4) (.slice A5 c.rw.length c5) :: crbox g8 ov1 ov2 ov3 ov4 :: Ls) (fun w' hh => Cl.pick2 [cz9 g6] (C :: N :: D2 :: R :: (Ds.set ((k + 1) % c.dq.length) F2 ++ Rs)) (by simpa using hh)) mixed (by kernel_rfl) hH13 ?_
  clear hH13
  intro w13 hH13 hC
  refine WM_p rfl rfl (fun _ => ov_field rfl fo_impl_Crew_0) ?_
  refine WM_v rfl rfl hC (fun _ ⟨_, hH⟩ => ov_load rfl one_sl_sl_int (hH.cb 2 rfl 0)) ?_
  refine WM_p rfl rfl (fun _ => ov_move rfl) ?_
  refine WM_p rfl rfl (fun _ => ov_sliceHi rfl rfl st_sl_sl_int hsD (by omega)) ?_
  refine WM_p rfl rfl (fun _ => ov_field rfl fo_impl_Crew_0) ?_
  refine WM_v rfl rfl hC (fun _ ⟨_, hH⟩ => ov_load rfl one_sl_sl_int (hH.cb 2 rfl 0)) ?_
  refine WM_p rfl rfl (fun _ => ov_move rfl) ?_
  refine WM_p rfl rfl (fun _ => ov_as (ov_add rfl rfl (by omega)) (congrArg (Value.int .i64) (hmod))) ?_
  refine WM_p rfl rfl (fun _ => ov_sliceLo rfl rfl st_sl_sl_int hsD (by omega)) ?_
  refine WM_e rfl ?_
  refine WL_append (sz := 1) (n := k) (m := m) rfl hH13 rfl rfl st_sl_sl_int (by omega) (i := 5) rfl hRf hRg.sl (by simp; omega) (fun j u hj => hRg.cell hH13 (i := 5) rfl hj) (fun u hu => hone u (List.mem_of_mem_drop hu)) (by omega) (by omega) ?_; rintro O2 dv2 w14 hO2 hH14
  refine WL_mix (fun h => absurd rfl h) ?_
  refine WM_p rfl rfl (fun _ => ov_field rfl fo_impl_Crew_0) ?_
  refine WM_e rfl ?_
  refine WL_store hH14 rfl rfl (i := 2) (off := 0) rfl rfl (by simp) hO2.sl.one sz_sl_sl_int ?_; rintro w15 hH15; replace hH15 : H w15 h (cz9 g6 :: crbox b (.slice A2 c.dq.length c2) (.slice A3 c.ct.length c3) (.slice A4 c.dn.length c4) (.slice A5 c.rw.length c5) :: crbox g8 dv2 ov2 ov3 ov4 :: C :: N :: O2 :: R :: (Ds.set ((k + 1) % c.dq.length) F2 ++ (Rs ++ Ls))) := hH15
  refine WL_mix (fun h => absurd rfl h) ?_
  refine WM_nil ?_
  refine WT_seq ?_
  refine WT_region ?_
  refine WL_v rfl (ov_loadN [dv2, ov2, ov3, ov4] rfl agg_impl_Crew rfl ((loadCrew (i := 2) rfl hH15))) ?_
  refine WL_storeN hH15 rfl rfl (i := 0) rfl rfl rfl (ones_cons hO2.sl.one (ones_cons hOct.sl.one (ones_cons hOdn.sl.one (ones_cons hOrw.sl.one ones_nil)))) sz_impl_Crew ?_; rintro w16 hH16
  refine WL_v rfl (ov_assign rfl) ?_
  refine WL_nil ?_
  rw [← hm] at hO2
  exact WT_retCT Tryz.func13 Tryz.results13 rfl rfl (lvCrew (i := 0) (dv := dv2) (cv := ov2) (nv := ov3) (rv := ov4) rfl hH16) ⟨dv2, ov2, ov3, ov4, rfl, C, N, O2, R, (Ds.set ((k + 1) % c.dq.length) F2).take k ++ (Ds.set ((k + 1) % c.dq.length) F2).drop (k + 1), Rs, ⟨hOct, hOdn, lose_olists hk hm hil hxl hat hx hF2 hO2, hOrw⟩, H.eraseIn (A := [C, N, O2, R]) k hH16.drop.drop.drop⟩

set_option maxHeartbeats 1000000 in
theorem loseWorker_no (hH : H w h Ls) {pv dv cv nv rv : Value} {p : List Nd} {c : Cr} (hP : Plan h pv p) (hl : CrLim c) (hCr : RdCr h Ls dv cv nv rv c) {k : Int} (hb : ¬ (crewOk p c = true ∧ 0 ≤ k ∧ k < (c.dq.length : Int) ∧ c.dq.length ≠ 1)) :
    Rets Tryz.prog 12 #[pv, crV dv cv nv rv, .int .i64 k] w fun v w' => v = .tuple #[crV nilV nilV nilV nilV, .bool false] ∧ H w' h Ls := by
  have hlq := hl.dq
  have hcv := fun {w : World} {X Y : Heaplet} (hH : H w h (X :: Y :: Ls)) => crewValid_ok hH hP hl hCr.up.up
  have hds := hCr.dq.sl
  have hiw := fun {w : World} {X Y : Heaplet} (hH : H w h (X :: Y :: Ls)) => isWorker_ok hH hCr.up.up k
  obtain ⟨A2, c2, rfl, _⟩ := hCr.dq.sl.form
  obtain ⟨A3, c3, rfl, _⟩ := hCr.ct.sl.form
  obtain ⟨A4, c4, rfl, _⟩ := hCr.dn.sl.form
  obtain ⟨A5, c5, rfl, _⟩ := hCr.rw.sl.form
  refine rets_enter Tryz.func12 rfl Tryz.ntmps12 (by simp) ?_
  refine WT_seq ?_
  refine WT_region ?_
  refine WL_box _ rfl hH rfl rfl ?_; rintro b w1 hH1; replace hH1 : H w1 h (crbox b (.slice A2 c.dq.length c2) (.slice A3 c.ct.length c3) (.slice A4 c.dn.length c4) (.slice A5 c.rw.length c5) :: Ls) := hH1
  refine WL_alloc _ rfl hH1 zero_crew rfl ?_; rintro g6 w2 hH2
  refine WL_v rfl (ov_assign rfl) ?_
  refine WL_nil ?_
  refine WT_seq ?_
  refine WT_seq ?_
  refine WT_region ?_
  refine WL_v rfl (ov_move rfl) ?_
  refine WL_v rfl (ov_loadN [.slice A2 c.dq.length c2, .slice A3 c.ct.length c3, .slice A4 c.dn.length c4, .slice A5 c.rw.length c5] rfl agg_impl_Crew rfl ((loadCrew (i := 1) rfl hH2))) ?_
  by_cases hv : crewOk p c = true
  · skip
    rw [hv] at hcv
    by_cases hr : 0 ≤ k ∧ k < (c.dq.length : Int)
    · skip
      rw [decide_eq_true hr] at hiw
      have hn1 : c.dq.length = 1 := by
        rcases Nat.decEq c.dq.length 1 with h9 | h9
        · exact absurd ⟨hv, by omega, by omega, h9⟩ hb
        · exact h9
      refine WL_call rfl rfl cf_impl_CrewValid (hcv hH2) ?_; rintro _ w3 ⟨rfl, hH3⟩
      refine WL_v rfl (ov_not rfl) ?_
      refine WL_v rfl (ov_move rfl) ?_
      refine WL_guardOn rfl rfl ?_
      refine WL_v rfl (ov_loadN [.slice A2 c.dq.length c2, .slice A3 c.ct.length c3, .slice A4 c.dn.length c4, .slice A5 c.rw.length c5] rfl agg_impl_Crew rfl ((loadCrew (i := 1) rfl hH3))) ?_
      refine WL_guardOn rfl rfl ?_
      refine WL_v rfl (ov_move rfl) ?_
      refine WL_guardOn rfl rfl ?_
      refine WL_call rfl rfl cf_impl_isWorker (hiw hH3) ?_; rintro _ w4 ⟨rfl, hH4⟩
      refine WL_guardOn rfl rfl ?_
      refine WL_v rfl (ov_not rfl) ?_
      refine WL_v rfl (ov_pickF rfl rfl) ?_
      refine WL_v rfl (ov_move rfl) ?_
      refine WL_guardOn rfl rfl ?_
      refine WL_v rfl (ov_field rfl fo_impl_Crew_0) ?_
      refine WL_guardOn rfl rfl ?_
      refine WL_v rfl (ov_load rfl one_sl_sl_int (hH4.cb 1 rfl 0)) ?_
      refine WL_guardOn rfl rfl ?_
      refine WL_v rfl (ov_len rfl hds st_sl_sl_int) ?_
      refine WL_guardOn rfl rfl ?_
      refine WL_v rfl (ov_T (ov_eql rfl rfl) (decide_eq_true (by omega))) ?_
      refine WL_v rfl (ov_pickF rfl rfl) ?_
      refine WL_nil ?_
      refine WT_condT rfl ?_
      refine WT_seq ?_
      refine WT_region ?_
      refine WL_v rfl (ov_build rfl run_build_crew0) ?_
      refine WL_storeN hH4 rfl rfl (i := 0) rfl rfl rfl (ones_cons rfl (ones_cons rfl (ones_cons rfl (ones_cons rfl ones_nil)))) sz_impl_Crew ?_; rintro w9 hH9
      refine WL_v rfl (ov_assign rfl) ?_
      refine WL_nil ?_
      exact WT_retCT Tryz.func12 Tryz.results12 rfl rfl (lvCrew (i := 0) (dv := nilV) (cv := nilV) (nv := nilV) (rv := nilV) rfl hH9) ⟨rfl, hH9.drop.drop⟩
    · skip
      rw [decide_eq_false hr] at hiw
      refine WL_call rfl rfl cf_impl_CrewValid (hcv hH2) ?_; rintro _ w3 ⟨rfl, hH3⟩
      refine WL_v rfl (ov_not rfl) ?_
      refine WL_v rfl (ov_move rfl) ?_
      refine WL_guardOn rfl rfl ?_
      refine WL_v rfl (ov_loadN [.slice A2 c.dq.length c2, .slice A3 c.ct.length c3, .slice A4 c.dn.length c4, .slice A5 c.rw.length c5] rfl agg_impl_Crew rfl ((loadCrew (i := 1) rfl hH3))) ?_
      refine WL_guardOn rfl rfl ?_
      refine WL_v rfl (ov_move rfl) ?_
      refine WL_guardOn rfl rfl ?_
      refine WL_call rfl rfl cf_impl_isWorker (hiw hH3) ?_; rintro _ w4 ⟨rfl, hH4⟩
      refine WL_guardOn rfl rfl ?_
      refine WL_v rfl (ov_not rfl) ?_
      refine WL_v rfl (ov_pickF rfl rfl) ?_
      refine WL_v rfl (ov_move rfl) ?_
      refine WL_guardOff rfl rfl rfl rfl ?_
      refine WL_guardOff rfl rfl rfl rfl ?_
      refine WL_guardOff rfl rfl rfl rfl ?_
      refine WL_guardOff rfl rfl rfl rfl ?_
      refine WL_v rfl (ov_pickT rfl rfl) ?_
      refine WL_nil ?_
      refine WT_condT rfl ?_
      refine WT_seq ?_
      refine WT_region ?_
      refine WL_v rfl (ov_build rfl run_build_crew0) ?_
      refine WL_storeN hH4 rfl rfl (i := 0) rfl rfl rfl (ones_cons rfl (ones_cons rfl (ones_cons rfl (ones_cons rfl ones_nil)))) sz_impl_Crew ?_; rintro w9 hH9
      refine WL_v rfl (ov_assign rfl) ?_
      refine WL_nil ?_
      exact WT_retCT Tryz.func12 Tryz.results12 rfl rfl (lvCrew (i := 0) (dv := nilV) (cv := nilV) (nv := nilV) (rv := nilV) rfl hH9) ⟨rfl, hH9.drop.drop⟩
  · skip
    have hv' : crewOk p c = false := by simpa using hv
    rw [hv'] at hcv
    refine WL_call rfl rfl cf_impl_CrewValid (hcv hH2) ?_; rintro _ w3 ⟨rfl, hH3⟩
    refine WL_v rfl (ov_not rfl) ?_
    refine WL_v rfl (ov_move rfl) ?_
    refine WL_guardOff rfl rfl rfl rfl ?_
    refine WL_guardOff rfl rfl rfl rfl ?_
    refine WL_guardOff rfl rfl rfl rfl ?_
    refine WL_guardOff rfl rfl rfl rfl ?_
    refine WL_v rfl (ov_pickT rfl rfl) ?_
    refine WL_v rfl (ov_move rfl) ?_
    refine WL_guardOff rfl rfl rfl rfl ?_
    refine WL_guardOff rfl rfl rfl rfl ?_
    refine WL_guardOff rfl rfl rfl rfl ?_
    refine WL_guardOff rfl rfl rfl rfl ?_
    refine WL_v rfl (ov_pickT rfl rfl) ?_
    refine WL_nil ?_
    refine WT_condT rfl ?_
    refine WT_seq ?_
    refine WT_region ?_
    refine WL_v rfl (ov_build rfl run_build_crew0) ?_
    refine WL_storeN hH3 rfl rfl (i := 0) rfl rfl rfl (ones_cons rfl (ones_cons rfl (ones_cons rfl (ones_cons rfl ones_nil)))) sz_impl_Crew ?_; rintro w9 hH9
    refine WL_v rfl (ov_assign rfl) ?_
    refine WL_nil ?_
    exact WT_retCT Tryz.func12 Tryz.results12 rfl rfl (lvCrew (i := 0) (dv := nilV) (cv := nilV) (nv := nilV) (rv := nilV) rfl hH9) ⟨rfl, hH9.drop.drop⟩

set_option maxHeartbeats 1000000 in
theorem sLoseWorker_no (hH : H w h Ls) {pv dv cv nv rv : Value} {p : List Nd} {c : Cr} (hP : Plan h pv p) (hpl : p.length ≤ 1000000000) (hl : CrLim c) (hCr : RdCr h Ls dv cv nv rv c) {k : Int} (hb : ¬ (crewOk p c = true ∧ 0 ≤ k ∧ k < (c.dq.length : Int) ∧ c.dq.length ≠ 1)) :
    Rets Tryz.prog 13 #[pv, crV dv cv nv rv, .int .i64 k] w fun v w' => v = .tuple #[crV nilV nilV nilV nilV, .bool false] ∧ H w' h Ls := by
  have hlq := hl.dq
  have hcv := fun {w : World} {X Y : Heaplet} (hH : H w h (X :: Y :: Ls)) => sCrewValid_ok hH hP (by omega) hl hCr.up.up
  have hds := hCr.dq.sl
  have hiw := fun {w : World} {X Y : Heaplet} (hH : H w h (X :: Y :: Ls)) => l6In_ok hH k 0 ((c.dq.length : Int) - 1)
  obtain ⟨A2, c2, rfl, _⟩ := hCr.dq.sl.form
  obtain ⟨A3, c3, rfl, _⟩ := hCr.ct.sl.form
  obtain ⟨A4, c4, rfl, _⟩ := hCr.dn.sl.form
  obtain ⟨A5, c5, rfl, _⟩ := hCr.rw.sl.form
  refine rets_enter Tryz.func13 rfl Tryz.ntmps13 (by simp) ?_
  refine WT_seq ?_
  refine WT_region ?_
  refine WL_box _ rfl hH rfl rfl ?_; rintro b w1 hH1; replace hH1 : H w1 h (crbox b (.slice A2 c.dq.length c2) (.slice A3 c.ct.length c3) (.slice A4 c.dn.length c4) (.slice A5 c.rw.length c5) :: Ls) := hH1
  refine WL_alloc _ rfl hH1 zero_crew rfl ?_; rintro g6 w2 hH2
  refine WL_v rfl (ov_assign rfl) ?_
  refine WL_nil ?_
  refine WT_seq ?_
  refine WT_seq ?_
  refine WT_region ?_
  refine WL_v rfl (ov_move rfl) ?_
  refine WL_v rfl (ov_loadN [.slice A2 c.dq.length c2, .slice A3 c.ct.length c3, .slice A4 c.dn.length c4, .slice A5 c.rw.length c5] rfl agg_impl_Crew rfl ((loadCrew (i := 1) rfl hH2))) ?_
  by_cases hv : crewOk p c = true
  · skip
    rw [hv] at hcv
    by_cases hr : 0 ≤ k ∧ k ≤ (c.dq.length : Int) - 1
    · skip
      rw [decide_eq_true hr] at hiw
      have hn1 : c.dq.length = 1 := by
        rcases Nat.decEq c.dq.length 1 with h9 | h9
        · exact absurd ⟨hv, by omega, by omega, h9⟩ hb
        · exact h9
      refine WL_call rfl rfl cf_spec_CrewValid (hcv hH2) ?_; rintro _ w3 ⟨rfl, hH3⟩
      refine WL_v rfl (ov_not rfl) ?_
      refine WL_v rfl (ov_move rfl) ?_
      refine WL_guardOn rfl rfl ?_
      refine WL_v rfl (ov_move rfl) ?_
      refine WL_guardOn rfl rfl ?_
      refine WL_v rfl (ov_field rfl fo_impl_Crew_0) ?_
      refine WL_guardOn rfl rfl ?_
      refine WL_v rfl (ov_load rfl one_sl_sl_int (hH3.cb 1 rfl 0)) ?_
      refine WL_guardOn rfl rfl ?_
      refine WL_v rfl (ov_len rfl hds st_sl_sl_int) ?_
      refine WL_guardOn rfl rfl ?_
      refine WL_v rfl (ov_sub rfl rfl (by omega)) ?_
      refine WL_guardOn rfl rfl ?_
      refine WL_call rfl rfl cf_spec_l6In (hiw hH3) ?_; rintro _ w4 ⟨rfl, hH4⟩
      refine WL_guardOn rfl rfl ?_
      refine WL_v rfl (ov_not rfl) ?_
      refine WL_v rfl (ov_pickF rfl rfl) ?_
      refine WL_v rfl (ov_move rfl) ?_
      refine WL_guardOn rfl rfl ?_
      refine WL_v rfl (ov_field rfl fo_impl_Crew_0) ?_
      refine WL_guardOn rfl rfl ?_
      refine WL_v rfl (ov_load rfl one_sl_sl_int (hH4.cb 1 rfl 0)) ?_
      refine WL_guardOn rfl rfl ?_
      refine WL_v rfl (ov_len rfl hds st_sl_sl_int) ?_
      refine WL_guardOn rfl rfl ?_
      refine WL_v rfl (ov_T (ov_eql rfl rfl) (decide_eq_true (by omega))) ?_
      refine WL_v rfl (ov_pickF rfl rfl) ?_
      refine WL_nil ?_
      refine WT_condT rfl ?_
      refine WT_seq ?_
      refine WT_region ?_
      refine WL_v rfl (ov_build rfl run_build_crew0) ?_
      refine WL_storeN hH4 rfl rfl (i := 0) rfl rfl rfl (ones_cons rfl (ones_cons rfl (ones_cons rfl (ones_cons rfl ones_nil)))) sz_impl_Crew ?_; rintro w9 hH9
      refine WL_v rfl (ov_assign rfl) ?_
      refine WL_nil ?_
      exact WT_retCT Tryz.func13 Tryz.results13 rfl rfl (lvCrew (i := 0) (dv := nilV) (cv := nilV) (nv := nilV) (rv := nilV) rfl hH9) ⟨rfl, hH9.drop.drop⟩
    · skip
      rw [decide_eq_false hr] at hiw
      refine WL_call rfl rfl cf_spec_CrewValid (hcv hH2) ?_; rintro _ w3 ⟨rfl, hH3⟩
      refine WL_v rfl (ov_not rfl) ?_
      refine WL_v rfl (ov_move rfl) ?_
      refine WL_guardOn rfl rfl ?_
      refine WL_v rfl (ov_move rfl) ?_
      refine WL_guardOn rfl rfl ?_
      refine WL_v rfl (ov_field rfl fo_impl_Crew_0) ?_
      refine WL_guardOn rfl rfl ?_
      refine WL_v rfl (ov_load rfl one_sl_sl_int (hH3.cb 1 rfl 0)) ?_
      refine WL_guardOn rfl rfl ?_
      refine WL_v rfl (ov_len rfl hds st_sl_sl_int) ?_
      refine WL_guardOn rfl rfl ?_
      refine WL_v rfl (ov_sub rfl rfl (by omega)) ?_
      refine WL_guardOn rfl rfl ?_
      refine WL_call rfl rfl cf_spec_l6In (hiw hH3) ?_; rintro _ w4 ⟨rfl, hH4⟩
      refine WL_guardOn rfl rfl ?_
      refine WL_v rfl (ov_not rfl) ?_
      refine WL_v rfl (ov_pickF rfl rfl) ?_
      refine WL_v rfl (ov_move rfl) ?_
      refine WL_guardOff rfl rfl rfl rfl ?_
      refine WL_guardOff rfl rfl rfl rfl ?_
      refine WL_guardOff rfl rfl rfl rfl ?_
      refine WL_guardOff rfl rfl rfl rfl ?_
      refine WL_v rfl (ov_pickT rfl rfl) ?_
      refine WL_nil ?_
      refine WT_condT rfl ?_
      refine WT_seq ?_
      refine WT_region ?_
      refine WL_v rfl (ov_build rfl run_build_crew0) ?_
      refine WL_storeN hH4 rfl rfl (i := 0) rfl rfl rfl (ones_cons rfl (ones_cons rfl (ones_cons rfl (ones_cons rfl ones_nil)))) sz_impl_Crew ?_; rintro w9 hH9
      refine WL_v rfl (ov_assign rfl) ?_
      refine WL_nil ?_
      exact WT_retCT Tryz.func13 Tryz.results13 rfl rfl (lvCrew (i := 0) (dv := nilV) (cv := nilV) (nv := nilV) (rv := nilV) rfl hH9) ⟨rfl, hH9.drop.drop⟩
  · skip
    have hv' : crewOk p c = false := by simpa using hv
    rw [hv'] at hcv
    refine WL_call rfl rfl cf_spec_CrewValid (hcv hH2) ?_; rintro _ w3 ⟨rfl, hH3⟩
    refine WL_v rfl (ov_not rfl) ?_
    refine WL_v rfl (ov_move rfl) ?_
    refine WL_guardOff rfl rfl rfl rfl ?_
    refine WL_guardOff rfl rfl rfl rfl ?_
    refine WL_guardOff rfl rfl rfl rfl ?_
    refine WL_guardOff rfl rfl rfl rfl ?_
    refine WL_guardOff rfl rfl rfl rfl ?_
    refine WL_guardOff rfl rfl rfl rfl ?_
    refine WL_guardOff rfl rfl rfl rfl ?_
    refine WL_v rfl (ov_pickT rfl rfl) ?_
    refine WL_v rfl (ov_move rfl) ?_
    refine WL_guardOff rfl rfl rfl rfl ?_
    refine WL_guardOff rfl rfl rfl rfl ?_
    refine WL_guardOff rfl rfl rfl rfl ?_
    refine WL_guardOff rfl rfl rfl rfl ?_
    refine WL_v rfl (ov_pickT rfl rfl) ?_
    refine WL_nil ?_
    refine WT_condT rfl ?_
    refine WT_seq ?_
    refine WT_region ?_
    refine WL_v rfl (ov_build rfl run_build_crew0) ?_
    refine WL_storeN hH3 rfl rfl (i := 0) rfl rfl rfl (ones_cons rfl (ones_cons rfl (ones_cons rfl (ones_cons rfl ones_nil)))) sz_impl_Crew ?_; rintro w9 hH9
    refine WL_v rfl (ov_assign rfl) ?_
    refine WL_nil ?_
    exact WT_retCT Tryz.func13 Tryz.results13 rfl rfl (lvCrew (i := 0) (dv := nilV) (cv := nilV) (nv := nilV) (rv := nilV) rfl hH9) ⟨rfl, hH9.drop.drop⟩

end
end Go.Proofs.YteagnhdhafiofaaGreat

/- Walks: turns, whole: the reference. -/
namespace Go.Proofs.YteagnhdhafiofaaGreat
open Go.RowKit

theorem fromW_spec (dq : List (List Int)) (w : Nat) : (fromW dq w = -1 ∧ ∀ j, j < dq.length → dq.getD ((w + j) % dq.length) [] = []) ∨ ∃ s, s < dq.length ∧ fromW dq w = (((w + s) % dq.length : Nat) : Int) ∧ dq.getD ((w + s) % dq.length) [] ≠ [] ∧ ∀ j, j < s → dq.getD ((w + j) % dq.length) [] = [] := by
  by_cases hall : ∀ j, j < dq.length → dq.getD ((w + j) % dq.length) [] = []
  · exact .inl ⟨fromW_none hall, hall⟩
  · right
    cases hf : (List.range dq.length).find? (fun s => decide (dq.getD ((w + s) % dq.length) [] ≠ [])) with
    | none =>
      refine absurd (fun j hj => ?_) hall
      have := List.find?_range_eq_none.1 hf j hj
      simpa using this
    | some s =>
      obtain ⟨h1, h2, h3⟩ := List.find?_range_eq_some.1 hf
      have h4 : ∀ j, j < s → dq.getD ((w + j) % dq.length) [] = [] := fun j hj => by
        have := h3 j hj
        simpa using this
      have h5 := of_decide_eq_true h1
      exact ⟨s, List.mem_range.1 h2, fromW_at (List.mem_range.1 h2) h5 h4, h5, h4⟩

section
variable {h : GH} {Ls : List Heaplet} {w : World}

/-- What a turn gives. -/
def TnV (h : GH) (Ls : List Heaplet) (p : List Nd) (v : Value) (w' : World) : Prop :=
  ∃ ok c dv cv nv rv, v = .tuple #[crV dv cv nv rv, .bool ok] ∧ SmCr p c ∧ OwnCr h Ls c dv cv nv rv w'
theorem SmCr.none (p : List Nd) : SmCr p ⟨[], [], [], []⟩ := ⟨by simp, by simp, by simp, by simp, by simp, by simp, by simp, .inl rfl⟩
theorem OwnCr.none (hH : H w h Ls) : OwnCr h Ls ⟨[], [], [], []⟩ nilV nilV nilV nilV w := ⟨[], [], [], [], [], [], ⟨IRow.nil _, IRow.nil _, OLists.nil _ _ (Row.nil _ _), OLists.nil _ _ (Row.nil _ _)⟩, hH.nilIn.nilIn.nilIn.nilIn⟩
theorem TnV.none {p : List Nd} (hH : H w h Ls) : TnV h Ls p (.tuple #[crV nilV nilV nilV nilV, .bool false]) w := ⟨_, _, _, _, _, _, rfl, SmCr.none p, OwnCr.none hH⟩

set_option maxHeartbeats 2000000 in
theorem sTurnRun_ok (hH : H w h Ls) {pv dv0 cv0 nv0 rv0 : Value} {p : List Nd} {c : Cr} (hP : Plan h pv p) (hpl : p.length ≤ 1000000000) (hl : CrLim c) (hC : RdCr h Ls dv0 cv0 nv0 rv0 c) (hv : crewOk p c = true) {m : Nat} (hm : m < c.dq.length) :
    Rets Tryz.prog 115 #[pv, crV dv0 cv0 nv0 rv0, .int .i64 (m : Int)] w (TnV h Ls p) := by
  have hlq := hl.dq
  have hok := (crewOk_iff p c).1 hv
  have hlen := PlanOk.len hok.plan
  have hsz := hok.size
  have hrd := readyI_len_le p c.dn
  have hscv := fun {w : World} {X Y : Heaplet} (hH : H w h (X :: Y :: Ls)) => sCrewValid_ok hH hP hpl hl hC.up.up
  rw [hv] at hscv
  have hcv : ∀ u, -1000000 ≤ c.ct.getD u 0 ∧ c.ct.getD u 0 ≤ 1000000 := fun u => by
    rcases Nat.lt_or_ge u c.ct.length with hu | hu
    · rw [getDI' hu]
      have := hok.small.cv _ (List.getElem_mem hu)
      omega
    · rw [List.getD_eq_getElem?_getD, List.getElem?_eq_none hu]; simp
  obtain ⟨A2, c2, rfl, _⟩ := hC.dq.sl.form
  obtain ⟨A3, c3, rfl, _⟩ := hC.ct.sl.form
  obtain ⟨A4, c4, rfl, _⟩ := hC.dn.sl.form
  obtain ⟨A5, c5, rfl, _⟩ := hC.rw.sl.form
  obtain ⟨u, g1, g2⟩ := hC.dq.at_ hm
  have hwf := len_flat hm
  have hmem : ∀ x ∈ c.dq[m], 0 ≤ x ∧ x < (p.length : Int) := fun x hx => (mem_readyI.1 (hok.mem.1 (List.mem_flatten.2 ⟨_, List.getElem_mem hm, hx⟩))).1
  have hli := fun {w : World} {Ls : List Heaplet} (hH : H w h Ls) => l6In_ok hH (m : Int) 0 ((c.dq.length : Int) - 1)
  rw [decide_eq_true (show 0 ≤ (m : Int) ∧ (m : Int) ≤ (c.dq.length : Int) - 1 by omega)] at hli
  refine rets_enter Tryz.func115 rfl Tryz.ntmps115 (by simp) ?_
  refine WT_seq ?_
  refine WT_region ?_
  refine WL_box _ rfl hH rfl rfl ?_; rintro b w1 hH1; replace hH1 : H w1 h (crbox b (.slice A2 c.dq.length c2) (.slice A3 c.ct.length c3) (.slice A4 c.dn.length c4) (.slice A5 c.rw.length c5) :: Ls) := hH1
  refine WL_alloc _ rfl hH1 zero_crew rfl ?_; rintro g6 w2 hH2
  refine WL_v rfl (ov_assign rfl) ?_
  refine WL_nil ?_
  refine WT_seq ?_
  refine WT_seq ?_
  refine WT_region ?_
  refine WL_v rfl (ov_move rfl) ?_
  refine WL_v rfl (ov_loadN [.slice A2 c.dq.length c2, .slice A3 c.ct.length c3, .slice A4 c.dn.length c4, .slice A5 c.rw.length c5] rfl agg_impl_Crew rfl ((loadCrew (i := 1) rfl hH2))) ?_
  refine WL_call rfl rfl cf_spec_CrewValid (hscv hH2) ?_; rintro _ w3 ⟨rfl, hH3⟩
  refine WL_v rfl (ov_not rfl) ?_
  refine WL_v rfl (ov_move rfl) ?_
  refine WL_guardOn rfl rfl ?_
  refine WL_v rfl (ov_move rfl) ?_
  refine WL_guardOn rfl rfl ?_
  refine WL_v rfl (ov_field rfl fo_impl_Crew_0) ?_
  refine WL_guardOn rfl rfl ?_
  refine WL_v rfl (ov_load rfl one_sl_sl_int (hH3.cb 1 rfl 0)) ?_
  refine WL_guardOn rfl rfl ?_
  refine WL_v rfl (ov_len rfl hC.dq.sl st_sl_sl_int) ?_
  refine WL_guardOn rfl rfl ?_
  refine WL_v rfl (ov_sub rfl rfl (by omega)) ?_
  refine WL_guardOn rfl rfl ?_
  refine WL_call rfl rfl cf_spec_l6In (hli hH3) ?_; rintro _ w4 ⟨rfl, hH4⟩
  refine WL_guardOn rfl rfl ?_
  refine WL_v rfl (ov_not rfl) ?_
  refine WL_v rfl (ov_pickF rfl rfl) ?_
  refine WL_nil ?_
  refine WT_condF rfl ?_
  clear hH hH1 hH2 hH3
  by_cases hq : dqOk c.dq[m] = true ∧ 0 < c.dq[m].length
  case neg =>
    refine WT_skip ?_
    refine WT_seq ?_
    refine WT_region ?_
    refine WL_v rfl (ov_field rfl fo_impl_Crew_0) ?_
    refine WL_v rfl (ov_load rfl one_sl_sl_int (hH4.cb 1 rfl 0)) ?_
    refine WL_v rfl (ov_move rfl) ?_
    refine WL_v rfl (ov_index rfl rfl st_sl_sl_int hC.dq.sl hm) ?_
    refine WL_v rfl (ov_load rfl one_sl_int (g2 hH4.drop.drop)) ?_
    refine WL_call rfl rfl cf_spec_DequePop (dqPop_no hH4 g1.up.up hq) ?_; rintro _ w5 ⟨xv, X, rfl, hX, hH5⟩
    refine WL_v rfl (ov_move rfl) ?_
    refine WL_v rfl (ov_extract rfl rfl) ?_
    refine WL_v rfl (ov_extract rfl rfl) ?_
    refine WL_v rfl (ov_extract rfl rfl) ?_
    refine WL_v rfl (ov_assign rfl) ?_
    refine WL_v rfl (ov_assign rfl) ?_
    refine WL_v rfl (ov_assign rfl) ?_
    refine WL_nil ?_
    refine WT_seq ?_
    refine WT_seq ?_
    refine WT_region ?_
    refine WL_v rfl (ov_move rfl) ?_
    refine WL_v rfl (ov_not rfl) ?_
    refine WL_nil ?_
    refine WT_condT rfl ?_
    refine WT_seq ?_
    refine WT_region ?_
    refine WL_v rfl (ov_build rfl run_build_crew0) ?_
    refine WL_storeN hH5 rfl rfl (i := 1) rfl rfl rfl (ones_cons rfl (ones_cons rfl (ones_cons rfl (ones_cons rfl ones_nil)))) sz_impl_Crew ?_; rintro w6 hH6
    refine WL_v rfl (ov_assign rfl) ?_
    refine WL_nil ?_
    exact WT_retCT Tryz.func115 Tryz.results115 rfl rfl (lvCrew (i := 1) (dv := nilV) (cv := nilV) (nv := nilV) (rv := nilV) rfl hH6) (TnV.none hH6.drop.drop.drop)
  have hlast : c.dq[m].length - 1 < c.dq[m].length := by omega
  have hlm := hmem _ (List.getElem_mem hlast)
  obtain ⟨a, haI⟩ := Int.eq_ofNat_of_zero_le hlm.1
  have hap : a < p.length := by omega
  have hpop := fun {w : World} {X Y : Heaplet} (hH : H w h (X :: Y :: Ls)) => dqPop_yes hH g1.up.up hq.1 hq.2
  rw [haI] at hpop
  refine WT_skip ?_
  refine WT_seq ?_
  refine WT_region ?_
  refine WL_v rfl (ov_field rfl fo_impl_Crew_0) ?_
  refine WL_v rfl (ov_load rfl one_sl_sl_int (hH4.cb 1 rfl 0)) ?_
  refine WL_v rfl (ov_move rfl) ?_
  refine WL_v rfl (ov_index rfl rfl st_sl_sl_int hC.dq.sl hm) ?_
  refine WL_v rfl (ov_load rfl one_sl_int (g2 hH4.drop.drop)) ?_
  refine WL_call rfl rfl cf_spec_DequePop (hpop hH4) ?_; rintro _ w5 ⟨xv, X, rfl, hX, hH5⟩
  refine WL_v rfl (ov_move rfl) ?_
  refine WL_v rfl (ov_extract rfl rfl) ?_
  refine WL_v rfl (ov_extract rfl rfl) ?_
  refine WL_v rfl (ov_extract rfl rfl) ?_
  refine WL_v rfl (ov_assign rfl) ?_
  refine WL_v rfl (ov_assign rfl) ?_
  refine WL_v rfl (ov_assign rfl) ?_
  refine WL_nil ?_
  refine WT_seq ?_
  refine WT_seq ?_
  refine WT_region ?_
  refine WL_v rfl (ov_move rfl) ?_
  refine WL_v rfl (ov_not rfl) ?_
  refine WL_nil ?_
  refine WT_condF rfl ?_
  clear hH4
  refine WT_skip ?_
  refine WT_seq ?_
  refine WT_region ?_
  refine WL_v rfl (ov_loadN [.slice A2 c.dq.length c2, .slice A3 c.ct.length c3, .slice A4 c.dn.length c4, .slice A5 c.rw.length c5] rfl agg_impl_Crew rfl ((loadCrew (i := 2) rfl hH5))) ?_
  refine WL_call rfl rfl cf_spec_l14Copy (l14Copy_ok hH5 hl hC.up.up.up) ?_; rintro _ w3 ⟨C, N, D, R, Ds, Rs, dv, cv, nv, rv, rfl, hO, hH3⟩; replace hH3 := H.behindCr hH3
  refine WL_alloc _ rfl hH3 zero_crew rfl ?_; clear hH5; rintro g w4 hH4
  refine WL_storeN hH4 rfl rfl (i := 0) rfl rfl rfl (ones_cons hO.dq.sl.one (ones_cons hO.ct.sl.one (ones_cons hO.dn.sl.one (ones_cons hO.rw.sl.one ones_nil)))) sz_impl_Crew ?_; rintro w5 hH5
  refine WL_nil ?_
  refine WT_seq ?_
  refine WT_region ?_
  refine WL_v rfl (ov_field rfl fo_impl_Crew_0) ?_
  clear hH4 hH3
  have hH4 : H w5 h (crbox g dv cv nv rv :: X :: cz9 g6 :: C :: N :: D :: R :: (Ds ++ (Rs ++ (crbox b (.slice A2 c.dq.length c2) (.slice A3 c.ct.length c3) (.slice A4 c.dn.length c4) (.slice A5 c.rw.length c5) :: Ls)))) := hH5
  obtain ⟨hilD, xsD, hRD, hatD⟩ := hO.dq
  have hxlD := hRD.len
  refine WL_v rfl (ov_load rfl one_sl_sl_int (hH4.cb 0 rfl 0)) ?_
  refine WL_v rfl (ov_move rfl) ?_
  refine WL_v rfl (ov_move rfl) ?_
  refine WL_v rfl (ov_index rfl rfl st_sl_sl_int hRD.sl hm) ?_
  refine WL_storeRow hH4 rfl rfl (i := 5) rfl hRD (j := m * 1) (by omega) hX.sl.one sz_sl_int ?_; rintro D2 w6 hD2 hH6; rw [Nat.mul_one] at hD2
  refine WL_nil ?_
  refine WT_seq ?_
  refine WT_region ?_
  refine WL_v rfl (ov_move rfl) ?_
  have hDQ : OLists D2 (Ds.set m X) dv (c.dq.set m (c.dq[m].take (c.dq[m].length - 1))) := OLists.set hm hilD (by omega) hatD hD2 hX
  have hO1 : OCr C N D2 R (Ds.set m X) Rs dv cv nv rv ⟨c.dq.set m (c.dq[m].take (c.dq[m].length - 1)), c.ct, c.dn, c.rw⟩ := ⟨hO.ct, hO.dn, hDQ, hO.rw⟩
  have hH7 : H w6 h ([crbox g dv cv nv rv, cz9 g6] ++ (C :: N :: D2 :: R :: (Ds.set m X ++ (Rs ++ (crbox b (.slice A2 c.dq.length c2) (.slice A3 c.ct.length c3) (.slice A4 c.dn.length c4) (.slice A5 c.rw.length c5) :: Ls))))) := by
    have h9 : H w6 h (X :: ([crbox g dv cv nv rv, cz9 g6, C, N, D2, R] ++ (Ds ++ (Rs ++ (crbox b (.slice A2 c.dq.length c2) (.slice A3 c.ct.length c3) (.slice A4 c.dn.length c4) (.slice A5 c.rw.length c5) :: Ls))))) := hH6.swap
    exact H.swapIn (m := m) (Rs := Ds) (by omega) h9
  have hrl : ((c.dq[m].take (c.dq[m].length - 1))).length ≤ 10 := by rw [List.length_take]; omega
  have hl1 : CrLim ⟨c.dq.set m (c.dq[m].take (c.dq[m].length - 1)), c.ct, c.dn, c.rw⟩ := ⟨by simp only [List.length_set]; omega, by
    have := flat_set_len c.dq m ((c.dq[m].take (c.dq[m].length - 1)))
    simp only
    omega, hl.ct, hl.dn, hl.rw, hl.rr⟩
  refine WL_v rfl (ov_loadN [dv, cv, nv, rv] rfl agg_impl_Crew rfl ((loadCrew (i := 0) rfl hH7))) ?_
  refine WL_v rfl (ov_move rfl) ?_
  refine WL_v rfl (ov_move rfl) ?_
  refine WL_call rfl rfl cf_spec_l14Do (l14Do_ok hH7 hP hok.plan hl1 (hO1.rd.ups [crbox g dv cv nv rv, cz9 g6]) (wk := m) (a := a) (by simp only [List.length_set]; omega) hap (by rw [← hok.ct, cntL_len]) hok.rl hcv) ?_; rintro _ w7 ⟨dv2, cv2, nv2, rv2, rfl, C2, N2, D3, R2, Ds2, Rs2, hO2, hH8⟩; replace hH8 := H.behindCr hH8
  refine WL_storeN hH8 rfl rfl (i := 1) rfl rfl rfl (ones_cons hO2.dq.sl.one (ones_cons hO2.ct.sl.one (ones_cons hO2.dn.sl.one (ones_cons hO2.rw.sl.one ones_nil)))) sz_impl_Crew ?_; rintro w8 hH9
  refine WL_v rfl (ov_assign rfl) ?_
  refine WL_nil ?_
  exact WT_retCT Tryz.func115 Tryz.results115 rfl rfl (lvCrew (i := 1) (dv := dv2) (cv := cv2) (nv := nv2) (rv := rv2) rfl hH9) (⟨true, _, dv2, cv2, nv2, rv2, rfl, do_small hok hrl hap, OwnCr.less (B := C :: N :: D2 :: R :: (Ds.set m X ++ (Rs ++ [crbox b (.slice A2 c.dq.length c2) (.slice A3 c.ct.length c3) (.slice A4 c.dn.length c4) (.slice A5 c.rw.length c5)]))) ⟨C2, N2, D3, R2, Ds2, Rs2, hO2, by
    have := hH9.drop.drop
    simpa using this⟩⟩)

set_option maxHeartbeats 2000000 in
theorem sTurnSteal_ok (hH : H w h Ls) {pv dv0 cv0 nv0 rv0 : Value} {p : List Nd} {c : Cr} (hP : Plan h pv p) (hpl : p.length ≤ 1000000000) (hl : CrLim c) (hC : RdCr h Ls dv0 cv0 nv0 rv0 c) (hv : crewOk p c = true) {k m : Nat} (hk : k < c.dq.length) (hm : m < c.dq.length) (hkm : k ≠ m) (hk0 : c.dq[k] = []) :
    Rets Tryz.prog 116 #[pv, crV dv0 cv0 nv0 rv0, .int .i64 (k : Int), .int .i64 (m : Int)] w (TnV h Ls p) := by
  have hlq := hl.dq
  have hok := (crewOk_iff p c).1 hv
  have hlen := PlanOk.len hok.plan
  have hsz := hok.size
  have hrd := readyI_len_le p c.dn
  have hscv := fun {w : World} {X Y : Heaplet} (hH : H w h (X :: Y :: Ls)) => sCrewValid_ok hH hP hpl hl hC.up.up
  rw [hv] at hscv
  have hcv : ∀ u, -1000000 ≤ c.ct.getD u 0 ∧ c.ct.getD u 0 ≤ 1000000 := fun u => by
    rcases Nat.lt_or_ge u c.ct.length with hu | hu
    · rw [getDI' hu]
      have := hok.small.cv _ (List.getElem_mem hu)
      omega
    · rw [List.getD_eq_getElem?_getD, List.getElem?_eq_none hu]; simp
  obtain ⟨A2, c2, rfl, _⟩ := hC.dq.sl.form
  obtain ⟨A3, c3, rfl, _⟩ := hC.ct.sl.form
  obtain ⟨A4, c4, rfl, _⟩ := hC.dn.sl.form
  obtain ⟨A5, c5, rfl, _⟩ := hC.rw.sl.form
  obtain ⟨u, g1, g2⟩ := hC.dq.at_ hm
  have hwf := len_flat hm
  have hmem : ∀ x ∈ c.dq[m], 0 ≤ x ∧ x < (p.length : Int) := fun x hx => (mem_readyI.1 (hok.mem.1 (List.mem_flatten.2 ⟨_, List.getElem_mem hm, hx⟩))).1
  obtain ⟨uk, k1, k2⟩ := hC.dq.at_ hk
  rw [hk0] at k1
  have hlk := fun {w : World} {Ls : List Heaplet} (hH : H w h Ls) => l6In_ok hH (k : Int) 0 ((c.dq.length : Int) - 1)
  rw [decide_eq_true (show 0 ≤ (k : Int) ∧ (k : Int) ≤ (c.dq.length : Int) - 1 by omega)] at hlk
  have hli := fun {w : World} {Ls : List Heaplet} (hH : H w h Ls) => l6In_ok hH (m : Int) 0 ((c.dq.length : Int) - 1)
  rw [decide_eq_true (show 0 ≤ (m : Int) ∧ (m : Int) ≤ (c.dq.length : Int) - 1 by omega)] at hli
  refine rets_enter Tryz.func116 rfl Tryz.ntmps116 (by simp) ?_
  refine WT_seq ?_
  refine WT_region ?_
  refine WL_box _ rfl hH rfl rfl ?_; rintro b w1 hH1; replace hH1 : H w1 h (crbox b (.slice A2 c.dq.length c2) (.slice A3 c.ct.length c3) (.slice A4 c.dn.length c4) (.slice A5 c.rw.length c5) :: Ls) := hH1
  refine WL_alloc _ rfl hH1 zero_crew rfl ?_; rintro g6 w2 hH2
  refine WL_v rfl (ov_assign rfl) ?_
  refine WL_nil ?_
  refine WT_seq ?_
  refine WT_seq ?_
  refine WT_region ?_
  refine WL_v rfl (ov_move rfl) ?_
  refine WL_v rfl (ov_loadN [.slice A2 c.dq.length c2, .slice A3 c.ct.length c3, .slice A4 c.dn.length c4, .slice A5 c.rw.length c5] rfl agg_impl_Crew rfl ((loadCrew (i := 1) rfl hH2))) ?_
  refine WL_call rfl rfl cf_spec_CrewValid (hscv hH2) ?_; rintro _ w3 ⟨rfl, hH3⟩
  refine WL_v rfl (ov_not rfl) ?_
  refine WL_v rfl (ov_move rfl) ?_
  refine WL_guardOn rfl rfl ?_
  refine WL_v rfl (ov_move rfl) ?_
  refine WL_guardOn rfl rfl ?_
  refine WL_v rfl (ov_field rfl fo_impl_Crew_0) ?_
  refine WL_guardOn rfl rfl ?_
  refine WL_v rfl (ov_load rfl one_sl_sl_int (hH3.cb 1 rfl 0)) ?_
  refine WL_guardOn rfl rfl ?_
  refine WL_v rfl (ov_len rfl hC.dq.sl st_sl_sl_int) ?_
  refine WL_guardOn rfl rfl ?_
  refine WL_v rfl (ov_sub rfl rfl (by omega)) ?_
  refine WL_guardOn rfl rfl ?_
  refine WL_call rfl rfl cf_spec_l6In (hlk hH3) ?_; rintro _ w4 ⟨rfl, hH3b⟩
  refine WL_guardOn rfl rfl ?_
  refine WL_v rfl (ov_not rfl) ?_
  refine WL_v rfl (ov_pickF rfl rfl) ?_
  refine WL_v rfl (ov_move rfl) ?_
  refine WL_guardOn rfl rfl ?_
  refine WL_v rfl (ov_move rfl) ?_
  refine WL_guardOn rfl rfl ?_
  refine WL_v rfl (ov_field rfl fo_impl_Crew_0) ?_
  refine WL_guardOn rfl rfl ?_
  refine WL_v rfl (ov_load rfl one_sl_sl_int (hH3b.cb 1 rfl 0)) ?_
  refine WL_guardOn rfl rfl ?_
  refine WL_v rfl (ov_len rfl hC.dq.sl st_sl_sl_int) ?_
  refine WL_guardOn rfl rfl ?_
  refine WL_v rfl (ov_sub rfl rfl (by omega)) ?_
  refine WL_guardOn rfl rfl ?_
  refine WL_call rfl rfl cf_spec_l6In (hli hH3b) ?_; rintro _ w4b ⟨rfl, hH4⟩
  refine WL_guardOn rfl rfl ?_
  refine WL_v rfl (ov_not rfl) ?_
  refine WL_v rfl (ov_pickF rfl rfl) ?_
  refine WL_v rfl (ov_move rfl) ?_
  refine WL_guardOn rfl rfl ?_
  refine WL_v rfl (ov_move rfl) ?_
  refine WL_guardOn rfl rfl ?_
  refine WL_v rfl (ov_move rfl) ?_
  refine WL_guardOn rfl rfl ?_
  refine WL_v rfl (ov_F (ov_eql rfl rfl) (by first | exact decide_eq_false (by omega) | exact nb_F (by omega) | exact mb_F (by omega) | exact (by omega) | (simp only [decide_eq_false_iff_not]; omega) | simpa using (by omega))) ?_
  refine WL_v rfl (ov_pickF rfl rfl) ?_
  refine WL_v rfl (ov_move rfl) ?_
  refine WL_guardOn rfl rfl ?_
  refine WL_v rfl (ov_field rfl fo_impl_Crew_0) ?_
  refine WL_guardOn rfl rfl ?_
  refine WL_v rfl (ov_load rfl one_sl_sl_int (hH4.cb 1 rfl 0)) ?_
  refine WL_guardOn rfl rfl ?_
  refine WL_v rfl (ov_move rfl) ?_
  refine WL_guardOn rfl rfl ?_
  refine WL_v rfl (ov_index rfl rfl st_sl_sl_int hC.dq.sl hk) ?_
  refine WL_guardOn rfl rfl ?_
  refine WL_v rfl (ov_load rfl one_sl_int (k2 hH4.drop.drop)) ?_
  refine WL_guardOn rfl rfl ?_
  refine WL_v rfl (ov_len rfl k1.sl st_sl_int) ?_
  refine WL_guardOn rfl rfl ?_
  refine WL_v rfl (ov_F (ov_gtr rfl rfl) (by first | exact decide_eq_false (by simp) | exact nb_F (by simp) | exact mb_F (by simp) | exact (by simp) | (simp only [decide_eq_false_iff_not]; omega) | simpa using (by simp))) ?_
  refine WL_v rfl (ov_pickF rfl rfl) ?_
  refine WL_nil ?_
  refine WT_condF rfl ?_
  clear hH hH1 hH2 hH3
  by_cases hq : dqOk c.dq[m] = true ∧ 0 < c.dq[m].length
  case neg =>
    refine WT_skip ?_
    refine WT_seq ?_
    refine WT_region ?_
    refine WL_v rfl (ov_field rfl fo_impl_Crew_0) ?_
    refine WL_v rfl (ov_load rfl one_sl_sl_int (hH4.cb 1 rfl 0)) ?_
    refine WL_v rfl (ov_move rfl) ?_
    refine WL_v rfl (ov_index rfl rfl st_sl_sl_int hC.dq.sl hm) ?_
    refine WL_v rfl (ov_load rfl one_sl_int (g2 hH4.drop.drop)) ?_
    refine WL_call rfl rfl cf_spec_DequeSteal (dqSteal_no hH4 g1.up.up hq) ?_; rintro _ w5 ⟨xv, X, rfl, hX, hH5⟩
    refine WL_v rfl (ov_move rfl) ?_
    refine WL_v rfl (ov_extract rfl rfl) ?_
    refine WL_v rfl (ov_extract rfl rfl) ?_
    refine WL_v rfl (ov_extract rfl rfl) ?_
    refine WL_v rfl (ov_assign rfl) ?_
    refine WL_v rfl (ov_assign rfl) ?_
    refine WL_v rfl (ov_assign rfl) ?_
    refine WL_nil ?_
    refine WT_seq ?_
    refine WT_seq ?_
    refine WT_region ?_
    refine WL_v rfl (ov_move rfl) ?_
    refine WL_v rfl (ov_not rfl) ?_
    refine WL_nil ?_
    refine WT_condT rfl ?_
    refine WT_seq ?_
    refine WT_region ?_
    refine WL_v rfl (ov_build rfl run_build_crew0) ?_
    refine WL_storeN hH5 rfl rfl (i := 1) rfl rfl rfl (ones_cons rfl (ones_cons rfl (ones_cons rfl (ones_cons rfl ones_nil)))) sz_impl_Crew ?_; rintro w6 hH6
    refine WL_v rfl (ov_assign rfl) ?_
    refine WL_nil ?_
    exact WT_retCT Tryz.func116 Tryz.results116 rfl rfl (lvCrew (i := 1) (dv := nilV) (cv := nilV) (nv := nilV) (rv := nilV) rfl hH6) (TnV.none hH6.drop.drop.drop)
  have hlast : 0 < c.dq[m].length := hq.2
  have hlm := hmem _ (List.getElem_mem hlast)
  obtain ⟨a, haI⟩ := Int.eq_ofNat_of_zero_le hlm.1
  have hap : a < p.length := by omega
  have hpop := fun {w : World} {X Y : Heaplet} (hH : H w h (X :: Y :: Ls)) => dqSteal_yes hH g1.up.up hq.1 hq.2
  rw [haI] at hpop
  refine WT_skip ?_
  refine WT_seq ?_
  refine WT_region ?_
  refine WL_v rfl (ov_field rfl fo_impl_Crew_0) ?_
  refine WL_v rfl (ov_load rfl one_sl_sl_int (hH4.cb 1 rfl 0)) ?_
  refine WL_v rfl (ov_move rfl) ?_
  refine WL_v rfl (ov_index rfl rfl st_sl_sl_int hC.dq.sl hm) ?_
  refine WL_v rfl (ov_load rfl one_sl_int (g2 hH4.drop.drop)) ?_
  refine WL_call rfl rfl cf_spec_DequeSteal (hpop hH4) ?_; rintro _ w5 ⟨xv, X, rfl, hX, hH5⟩
  refine WL_v rfl (ov_move rfl) ?_
  refine WL_v rfl (ov_extract rfl rfl) ?_
  refine WL_v rfl (ov_extract rfl rfl) ?_
  refine WL_v rfl (ov_extract rfl rfl) ?_
  refine WL_v rfl (ov_assign rfl) ?_
  refine WL_v rfl (ov_assign rfl) ?_
  refine WL_v rfl (ov_assign rfl) ?_
  refine WL_nil ?_
  refine WT_seq ?_
  refine WT_seq ?_
  refine WT_region ?_
  refine WL_v rfl (ov_move rfl) ?_
  refine WL_v rfl (ov_not rfl) ?_
  refine WL_nil ?_
  refine WT_condF rfl ?_
  clear hH4
  refine WT_skip ?_
  refine WT_seq ?_
  refine WT_region ?_
  refine WL_v rfl (ov_loadN [.slice A2 c.dq.length c2, .slice A3 c.ct.length c3, .slice A4 c.dn.length c4, .slice A5 c.rw.length c5] rfl agg_impl_Crew rfl ((loadCrew (i := 2) rfl hH5))) ?_
  refine WL_call rfl rfl cf_spec_l14Copy (l14Copy_ok hH5 hl hC.up.up.up) ?_; rintro _ w3 ⟨C, N, D, R, Ds, Rs, dv, cv, nv, rv, rfl, hO, hH3⟩; replace hH3 := H.behindCr hH3
  refine WL_alloc _ rfl hH3 zero_crew rfl ?_; clear hH5; rintro g w4 hH4
  refine WL_storeN hH4 rfl rfl (i := 0) rfl rfl rfl (ones_cons hO.dq.sl.one (ones_cons hO.ct.sl.one (ones_cons hO.dn.sl.one (ones_cons hO.rw.sl.one ones_nil)))) sz_impl_Crew ?_; rintro w5 hH5
  refine WL_nil ?_
  refine WT_seq ?_
  refine WT_region ?_
  refine WL_v rfl (ov_field rfl fo_impl_Crew_0) ?_
  clear hH4 hH3
  have hH4 : H w5 h (crbox g dv cv nv rv :: X :: cz9 g6 :: C :: N :: D :: R :: (Ds ++ (Rs ++ (crbox b (.slice A2 c.dq.length c2) (.slice A3 c.ct.length c3) (.slice A4 c.dn.length c4) (.slice A5 c.rw.length c5) :: Ls)))) := hH5
  obtain ⟨hilD, xsD, hRD, hatD⟩ := hO.dq
  have hxlD := hRD.len
  refine WL_v rfl (ov_load rfl one_sl_sl_int (hH4.cb 0 rfl 0)) ?_
  refine WL_v rfl (ov_move rfl) ?_
  refine WL_v rfl (ov_move rfl) ?_
  refine WL_v rfl (ov_index rfl rfl st_sl_sl_int hRD.sl hm) ?_
  refine WL_storeRow hH4 rfl rfl (i := 5) rfl hRD (j := m * 1) (by omega) hX.sl.one sz_sl_int ?_; rintro D2 w6 hD2 hH6; rw [Nat.mul_one] at hD2
  refine WL_nil ?_
  refine WT_seq ?_
  refine WT_region ?_
  refine WL_v rfl (ov_move rfl) ?_
  have hDQ : OLists D2 (Ds.set m X) dv (c.dq.set m (c.dq[m].drop 1)) := OLists.set hm hilD (by omega) hatD hD2 hX
  have hO1 : OCr C N D2 R (Ds.set m X) Rs dv cv nv rv ⟨c.dq.set m (c.dq[m].drop 1), c.ct, c.dn, c.rw⟩ := ⟨hO.ct, hO.dn, hDQ, hO.rw⟩
  have hH7 : H w6 h ([crbox g dv cv nv rv, cz9 g6] ++ (C :: N :: D2 :: R :: (Ds.set m X ++ (Rs ++ (crbox b (.slice A2 c.dq.length c2) (.slice A3 c.ct.length c3) (.slice A4 c.dn.length c4) (.slice A5 c.rw.length c5) :: Ls))))) := by
    have h9 : H w6 h (X :: ([crbox g dv cv nv rv, cz9 g6, C, N, D2, R] ++ (Ds ++ (Rs ++ (crbox b (.slice A2 c.dq.length c2) (.slice A3 c.ct.length c3) (.slice A4 c.dn.length c4) (.slice A5 c.rw.length c5) :: Ls))))) := hH6.swap
    exact H.swapIn (m := m) (Rs := Ds) (by omega) h9
  have hrl : ((c.dq[m].drop 1)).length ≤ 10 := by rw [List.length_drop]; omega
  have hl1 : CrLim ⟨c.dq.set m (c.dq[m].drop 1), c.ct, c.dn, c.rw⟩ := ⟨by simp only [List.length_set]; omega, by
    have := flat_set_len c.dq m ((c.dq[m].drop 1))
    simp only
    omega, hl.ct, hl.dn, hl.rw, hl.rr⟩
  refine WL_v rfl (ov_loadN [dv, cv, nv, rv] rfl agg_impl_Crew rfl ((loadCrew (i := 0) rfl hH7))) ?_
  refine WL_v rfl (ov_move rfl) ?_
  refine WL_v rfl (ov_move rfl) ?_
  refine WL_call rfl rfl cf_spec_l14Do (l14Do_ok hH7 hP hok.plan hl1 (hO1.rd.ups [crbox g dv cv nv rv, cz9 g6]) (wk := k) (a := a) (by simp only [List.length_set]; omega) hap (by rw [← hok.ct, cntL_len]) hok.rl hcv) ?_; rintro _ w7 ⟨dv2, cv2, nv2, rv2, rfl, C2, N2, D3, R2, Ds2, Rs2, hO2, hH8⟩; replace hH8 := H.behindCr hH8
  refine WL_storeN hH8 rfl rfl (i := 1) rfl rfl rfl (ones_cons hO2.dq.sl.one (ones_cons hO2.ct.sl.one (ones_cons hO2.dn.sl.one (ones_cons hO2.rw.sl.one ones_nil)))) sz_impl_Crew ?_; rintro w8 hH9
  refine WL_v rfl (ov_assign rfl) ?_
  refine WL_nil ?_
  exact WT_retCT Tryz.func116 Tryz.results116 rfl rfl (lvCrew (i := 1) (dv := dv2) (cv := cv2) (nv := nv2) (rv := rv2) rfl hH9) (⟨true, _, dv2, cv2, nv2, rv2, rfl, do_small hok hrl hap, OwnCr.less (B := C :: N :: D2 :: R :: (Ds.set m X ++ (Rs ++ [crbox b (.slice A2 c.dq.length c2) (.slice A3 c.ct.length c3) (.slice A4 c.dn.length c4) (.slice A5 c.rw.length c5)]))) ⟨C2, N2, D3, R2, Ds2, Rs2, hO2, by
    have := hH9.drop.drop
    simpa using this⟩⟩)

set_option maxHeartbeats 2000000 in
theorem sTurnNext_ok (hH : H w h Ls) {pv dv0 cv0 nv0 rv0 : Value} {p : List Nd} {c : Cr} (hP : Plan h pv p) (hpl : p.length ≤ 1000000000) (hl : CrLim c) (hC : RdCr h Ls dv0 cv0 nv0 rv0 c) (wk : Int) :
    Rets Tryz.prog 96 #[pv, crV dv0 cv0 nv0 rv0, .int .i64 wk] w (TnV h Ls p) := by
  have htf := fun {w : World} {X Y : Heaplet} (hH : H w h (X :: Y :: Ls)) => sTurnFrom_ok hH hP hpl hl hC.up.up wk
  obtain ⟨A2, c2, rfl, _⟩ := hC.dq.sl.form
  obtain ⟨A3, c3, rfl, _⟩ := hC.ct.sl.form
  obtain ⟨A4, c4, rfl, _⟩ := hC.dn.sl.form
  obtain ⟨A5, c5, rfl, _⟩ := hC.rw.sl.form
  refine rets_enter Tryz.func96 rfl Tryz.ntmps96 (by simp) ?_
  refine WT_seq ?_
  refine WT_region ?_
  refine WL_box _ rfl hH rfl rfl ?_; rintro b w1 hH1; replace hH1 : H w1 h (crbox b (.slice A2 c.dq.length c2) (.slice A3 c.ct.length c3) (.slice A4 c.dn.length c4) (.slice A5 c.rw.length c5) :: Ls) := hH1
  refine WL_alloc _ rfl hH1 zero_crew rfl ?_; rintro g6 w2 hH2
  refine WL_v rfl (ov_assign rfl) ?_
  refine WL_nil ?_
  refine WT_seq ?_
  refine WT_region ?_
  refine WL_v rfl (ov_move rfl) ?_
  refine WL_v rfl (ov_loadN [.slice A2 c.dq.length c2, .slice A3 c.ct.length c3, .slice A4 c.dn.length c4, .slice A5 c.rw.length c5] rfl agg_impl_Crew rfl ((loadCrew (i := 1) rfl hH2))) ?_
  refine WL_v rfl (ov_move rfl) ?_
  refine WL_call rfl rfl cf_spec_TurnFrom (htf hH2) ?_; rintro _ w3 ⟨rfl, hH3⟩
  refine WL_v rfl (ov_assign rfl) ?_
  refine WL_nil ?_
  refine WT_seq ?_
  refine WT_seq ?_
  refine WT_region ?_
  refine WL_v rfl (ov_move rfl) ?_
  refine WL_v rfl (ov_lss rfl rfl) ?_
  refine WL_nil ?_
  refine WT_cond rfl (fun hneg => ?_) (fun hneg => ?_)
  · skip
    first | with_reducible replace hneg := of_decide_eq_true hneg | with_reducible replace hneg := bn_T hneg | with_reducible replace hneg := bb_T hneg | skip
    refine WT_seq ?_
    refine WT_region ?_
    refine WL_v rfl (ov_build rfl run_build_crew0) ?_
    refine WL_storeN hH3 rfl rfl (i := 0) rfl rfl rfl (ones_cons rfl (ones_cons rfl (ones_cons rfl (ones_cons rfl ones_nil)))) sz_impl_Crew ?_; rintro w6 hH6
    refine WL_v rfl (ov_assign rfl) ?_
    refine WL_nil ?_
    exact WT_retCT Tryz.func96 Tryz.results96 rfl rfl (lvCrew (i := 0) (dv := nilV) (cv := nilV) (nv := nilV) (rv := nilV) rfl hH6) (TnV.none hH6.drop.drop)
  first | with_reducible replace hneg := of_decide_eq_false hneg | with_reducible replace hneg := bn_F hneg | with_reducible replace hneg := bb_F hneg | skip
  have hcf : crewOk p c = true ∧ 0 ≤ wk ∧ wk < (c.dq.length : Int) := by
    by_cases hh : crewOk p c = true ∧ 0 ≤ wk ∧ wk < (c.dq.length : Int)
    · exact hh
    · rw [crewFrom, if_neg hh] at hneg
      omega
  obtain ⟨hv, hw0, hw1⟩ := hcf
  obtain ⟨k, rfl⟩ := Int.eq_ofNat_of_zero_le hw0
  have hkn : k < c.dq.length := by omega
  have hcv : crewFrom p c (k : Int) = fromW c.dq k := by rw [crewFrom, if_pos ⟨hv, hw0, hw1⟩, Int.toNat_natCast]
  rw [hcv] at hneg ⊢
  rcases fromW_spec c.dq k with ⟨hm1, _⟩ | ⟨s, hs, hfr, hne, hemp⟩
  · rw [hm1] at hneg; omega
  rw [hfr]
  have hmm : (k + s) % c.dq.length < c.dq.length := Nat.mod_lt _ (by omega)
  generalize hme : (k + s) % c.dq.length = m at hmm hne
  refine WT_skip ?_
  refine WT_seq ?_
  refine WT_seq ?_
  refine WT_region ?_
  refine WL_v rfl (ov_move rfl) ?_
  refine WL_v rfl (ov_move rfl) ?_
  refine WL_v rfl (ov_eql rfl rfl) ?_
  refine WL_nil ?_
  refine WT_cond rfl (fun heq => ?_) (fun heq => ?_)
  · skip
    first | with_reducible replace heq := of_decide_eq_true heq | with_reducible replace heq := bn_T heq | with_reducible replace heq := bb_T heq | skip
    obtain rfl : m = k := by omega
    refine WT_seq ?_
    refine WT_region ?_
    refine WL_v rfl (ov_move rfl) ?_
    refine WL_v rfl (ov_loadN [.slice A2 c.dq.length c2, .slice A3 c.ct.length c3, .slice A4 c.dn.length c4, .slice A5 c.rw.length c5] rfl agg_impl_Crew rfl ((loadCrew (i := 1) rfl hH3))) ?_
    refine WL_v rfl (ov_move rfl) ?_
    refine WL_call rfl rfl cf_spec_TurnRun (sTurnRun_ok hH3 hP hpl hl hC.up.up hv hmm) ?_; rintro _ w4 ⟨ok, c', dv, cv, nv, rv, rfl, hsm, C, N, D, R, Ds, Rs, hO, hH4⟩; replace hH4 := H.behindCr1 hH4
    refine WL_v rfl (ov_extract rfl rfl) ?_
    refine WL_v rfl (ov_extract rfl rfl) ?_
    refine WL_storeN hH4 rfl rfl (i := 0) rfl rfl rfl (ones_cons hO.dq.sl.one (ones_cons hO.ct.sl.one (ones_cons hO.dn.sl.one (ones_cons hO.rw.sl.one ones_nil)))) sz_impl_Crew ?_; rintro w6 hH6
    refine WL_v rfl (ov_assign rfl) ?_
    refine WL_nil ?_
    exact WT_retCT Tryz.func96 Tryz.results96 rfl rfl (lvCrew (i := 0) (dv := dv) (cv := cv) (nv := nv) (rv := rv) rfl hH6) ⟨ok, c', dv, cv, nv, rv, rfl, hsm, OwnCr.less (B := [crbox b (.slice A2 c.dq.length c2) (.slice A3 c.ct.length c3) (.slice A4 c.dn.length c4) (.slice A5 c.rw.length c5)]) ⟨C, N, D, R, Ds, Rs, hO, hH6.drop⟩⟩
  first | with_reducible replace heq := of_decide_eq_false heq | with_reducible replace heq := bn_F heq | with_reducible replace heq := bb_F heq | skip
  have hkm : k ≠ m := by omega
  have hk0 : c.dq[k] = [] := by
    have hs0 : 0 < s := by
      rcases Nat.eq_zero_or_pos s with h0 | h0
      · subst h0
        rw [Nat.add_zero, Nat.mod_eq_of_lt hkn] at hme
        omega
      · exact h0
    have := hemp 0 hs0
    rw [Nat.add_zero, Nat.mod_eq_of_lt hkn, getLD hkn] at this
    exact this
  refine WT_skip ?_
  refine WT_seq ?_
  refine WT_region ?_
  refine WL_v rfl (ov_move rfl) ?_
  refine WL_v rfl (ov_loadN [.slice A2 c.dq.length c2, .slice A3 c.ct.length c3, .slice A4 c.dn.length c4, .slice A5 c.rw.length c5] rfl agg_impl_Crew rfl ((loadCrew (i := 1) rfl hH3))) ?_
  refine WL_v rfl (ov_move rfl) ?_
  refine WL_v rfl (ov_move rfl) ?_
  refine WL_call rfl rfl cf_spec_TurnSteal (sTurnSteal_ok hH3 hP hpl hl hC.up.up hv hkn hmm hkm hk0) ?_; rintro _ w4 ⟨ok, c', dv, cv, nv, rv, rfl, hsm, C, N, D, R, Ds, Rs, hO, hH4⟩; replace hH4 := H.behindCr1 hH4
  refine WL_v rfl (ov_extract rfl rfl) ?_
  refine WL_v rfl (ov_extract rfl rfl) ?_
  refine WL_storeN hH4 rfl rfl (i := 0) rfl rfl rfl (ones_cons hO.dq.sl.one (ones_cons hO.ct.sl.one (ones_cons hO.dn.sl.one (ones_cons hO.rw.sl.one ones_nil)))) sz_impl_Crew ?_; rintro w6 hH6
  refine WL_v rfl (ov_assign rfl) ?_
  refine WL_nil ?_
  exact WT_retCT Tryz.func96 Tryz.results96 rfl rfl (lvCrew (i := 0) (dv := dv) (cv := cv) (nv := nv) (rv := rv) rfl hH6) ⟨ok, c', dv, cv, nv, rv, rfl, hsm, OwnCr.less (B := [crbox b (.slice A2 c.dq.length c2) (.slice A3 c.ct.length c3) (.slice A4 c.dn.length c4) (.slice A5 c.rw.length c5)]) ⟨C, N, D, R, Ds, Rs, hO, hH6.drop⟩⟩
end
end Go.Proofs.YteagnhdhafiofaaGreat

/- Walks: a crew that is marked and read again by the laws; a lost worker, whatever comes in. -/
namespace Go.Proofs.YteagnhdhafiofaaGreat
open Go.RowKit

theorem sumLen_flat : ∀ ls : List (List Int), sumLen ls = ls.flatten.length
  | [] => rfl
  | l :: r => by simp only [sumLen, List.flatten_cons, List.length_append]; rw [sumLen_flat r]
/-- A crew with numbers from one on. -/
def markCr (k : Int) (c : Cr) : Cr := ⟨markLL k c.dq, marks (k + sumLen c.dq) c.ct.length, marks (k + sumLen c.dq + c.ct.length) c.dn.length, markLL (k + sumLen c.dq + c.ct.length + c.dn.length) c.rw⟩
def manyCr (c : Cr) : Nat := sumLen c.dq + c.ct.length + c.dn.length + sumLen c.rw

theorem many_le {c : Cr} (hs : CrSz c) : manyCr c ≤ 4194304 := by
  have e1 := sumLen_flat c.dq
  have e2 := sumLen_flat c.rw
  have z1 := hs.dd
  have z2 := hs.ct
  have z3 := hs.dn
  have z4 := hs.rd
  unfold manyCr
  omega

section
variable {h : GH} {Ls : List Heaplet} {w : World}

theorem H.flip (A : List Heaplet) {B Ms : List Heaplet} (hH : H w h (A ++ (B ++ Ms))) : H w h (B ++ (A ++ Ms)) := by
  refine hH.perm ?_
  have : ((A ++ B) ++ Ms).Perm ((B ++ A) ++ Ms) := List.perm_append_comm.append_right Ms
  simpa using this

theorem markCrew_ok {C N D R : Heaplet} {Ds Rs : List Heaplet} {dv cv nv rv : Value} {c : Cr} (hO : OCr C N D R Ds Rs dv cv nv rv c) (hH : H w h (C :: N :: D :: R :: (Ds ++ (Rs ++ Ls)))) (hs : CrSz c) {k : Int} (hk : 0 ≤ k ∧ k ≤ 100000000000000) :
    Rets Tryz.prog 25 #[crV dv cv nv rv, .int .i64 k] w fun u w' => u = .int .i64 (k + manyCr c) ∧ OwnCr h Ls (markCr k c) dv cv nv rv w' := by
  have e1 := sumLen_flat c.dq
  have e2 := sumLen_flat c.rw
  have z1 := hs.dd
  have z2 := hs.ct
  have z3 := hs.dn
  have z4 := hs.rd
  obtain ⟨A2, c2, rfl, _⟩ := hO.dq.sl.form
  obtain ⟨A3, c3, rfl, _⟩ := hO.ct.sl.form
  obtain ⟨A4, c4, rfl, _⟩ := hO.dn.sl.form
  obtain ⟨A5, c5, rfl, _⟩ := hO.rw.sl.form
  refine rets_enter Tryz.func25 rfl Tryz.ntmps25 (by simp) ?_
  refine WT_seq ?_
  refine WT_region ?_
  refine WL_box _ rfl hH rfl rfl ?_; rintro b w1 hH1; replace hH1 : H w1 h (crbox b (.slice A2 c.dq.length c2) (.slice A3 c.ct.length c3) (.slice A4 c.dn.length c4) (.slice A5 c.rw.length c5) :: C :: N :: D :: R :: (Ds ++ (Rs ++ Ls))) := hH1
  refine WL_v rfl (ov_assign rfl) ?_
  refine WL_nil ?_
  refine WT_seq ?_
  refine WT_region ?_
  refine WL_v rfl (ov_field rfl fo_impl_Crew_0) ?_
  refine WL_v rfl (ov_load rfl one_sl_sl_int (hH1.cb 0 rfl 0)) ?_
  refine WL_v rfl (ov_move rfl) ?_
  have hH2 : H w1 h (D :: (Ds ++ (crbox b (.slice A2 c.dq.length c2) (.slice A3 c.ct.length c3) (.slice A4 c.dn.length c4) (.slice A5 c.rw.length c5) :: C :: N :: R :: (Rs ++ Ls)))) := by
    have h1 := hH1.perm ((List.perm_middle (a := D) (l₁ := [crbox b (.slice A2 c.dq.length c2) (.slice A3 c.ct.length c3) (.slice A4 c.dn.length c4) (.slice A5 c.rw.length c5), C, N]) (l₂ := R :: (Ds ++ (Rs ++ Ls)))))
    have h2 : H w1 h ((D :: crbox b (.slice A2 c.dq.length c2) (.slice A3 c.ct.length c3) (.slice A4 c.dn.length c4) (.slice A5 c.rw.length c5) :: C :: N :: R :: []) ++ (Ds ++ (Rs ++ Ls))) := h1
    have h3 := H.flip (D :: crbox b (.slice A2 c.dq.length c2) (.slice A3 c.ct.length c3) (.slice A4 c.dn.length c4) (.slice A5 c.rw.length c5) :: C :: N :: R :: []) h2
    have h4 := h3.perm (List.perm_middle (a := D) (l₁ := Ds))
    simpa using h4
  refine WL_call rfl rfl cf_laws_markIntSS (markIntSS_ok hO.dq hH2 (show 0 ≤ k ∧ k ≤ 1000000000000000 by omega) (by omega)) ?_; rintro _ w2 ⟨rfl, Ds', hD, hH3⟩; replace hH3 := H.front3 (T := D :: Ds') hH3
  refine WL_v rfl (ov_assign rfl) ?_
  refine WL_nil ?_
  refine WT_seq ?_
  refine WT_region ?_
  refine WL_v rfl (ov_field rfl fo_impl_Crew_1) ?_
  refine WL_v rfl (ov_load rfl one_sl_int (hH3.cb 0 rfl 1)) ?_
  refine WL_v rfl (ov_move rfl) ?_
  refine WL_call rfl rfl cf_laws_markIntS (markIntS_ok (i := 1) hH3 rfl hO.ct (k := k + sumLen c.dq) (by omega) (by omega)) ?_; rintro _ w3 ⟨rfl, C', hC, hH4⟩; replace hH4 : H w3 h (crbox b (.slice A2 c.dq.length c2) (.slice A3 c.ct.length c3) (.slice A4 c.dn.length c4) (.slice A5 c.rw.length c5) :: C' :: N :: (D :: Ds' ++ (R :: (Rs ++ Ls)))) := hH4
  refine WL_v rfl (ov_assign rfl) ?_
  refine WL_nil ?_
  refine WT_seq ?_
  refine WT_region ?_
  refine WL_v rfl (ov_field rfl fo_impl_Crew_2) ?_
  refine WL_v rfl (ov_load rfl one_sl_int (hH4.cb 0 rfl 2)) ?_
  refine WL_v rfl (ov_move rfl) ?_
  refine WL_call rfl rfl cf_laws_markIntS (markIntS_ok (i := 2) hH4 rfl hO.dn (k := k + sumLen c.dq + c.ct.length) (by omega) (by omega)) ?_; rintro _ w4 ⟨rfl, N', hN, hH5⟩; replace hH5 : H w4 h (crbox b (.slice A2 c.dq.length c2) (.slice A3 c.ct.length c3) (.slice A4 c.dn.length c4) (.slice A5 c.rw.length c5) :: C' :: N' :: (D :: Ds' ++ (R :: (Rs ++ Ls)))) := hH5
  refine WL_v rfl (ov_assign rfl) ?_
  refine WL_nil ?_
  refine WT_seq ?_
  refine WT_region ?_
  refine WL_v rfl (ov_field rfl fo_impl_Crew_3) ?_
  refine WL_v rfl (ov_load rfl one_sl_sl_int (hH5.cb 0 rfl 3)) ?_
  refine WL_v rfl (ov_move rfl) ?_
  have hH6 : H w4 h (R :: (Rs ++ (crbox b (.slice A2 c.dq.length c2) (.slice A3 c.ct.length c3) (.slice A4 c.dn.length c4) (.slice A5 c.rw.length c5) :: C' :: N' :: D :: (Ds' ++ Ls)))) := by
    have h1 : H w4 h ((crbox b (.slice A2 c.dq.length c2) (.slice A3 c.ct.length c3) (.slice A4 c.dn.length c4) (.slice A5 c.rw.length c5) :: C' :: N' :: D :: Ds') ++ ((R :: Rs) ++ Ls)) := by simpa using hH5
    have h2 := H.flip _ h1
    simpa using h2
  refine WL_call rfl rfl cf_laws_markIntSS (markIntSS_ok hO.rw hH6 (k := k + sumLen c.dq + c.ct.length + c.dn.length) (by omega) (by omega)) ?_; rintro _ w5 ⟨rfl, Rs', hR, hH7⟩
  refine WL_v rfl (ov_assign rfl) ?_
  refine WL_nil ?_
  refine WT_seq ?_
  refine WT_region ?_
  refine WL_v rfl (ov_move rfl) ?_
  refine WL_v rfl (ov_assign rfl) ?_
  refine WL_nil ?_
  have hH8 : H w5 h (C' :: N' :: D :: R :: (Ds' ++ (Rs' ++ Ls))) := by
    have h1 : H w5 h ((R :: Rs') ++ ((crbox b (.slice A2 c.dq.length c2) (.slice A3 c.ct.length c3) (.slice A4 c.dn.length c4) (.slice A5 c.rw.length c5) :: C' :: N' :: D :: Ds') ++ Ls)) := by simpa using hH7
    have h2 := H.flip _ h1
    have h3 : H w5 h ((C' :: N' :: D :: Ds') ++ (R :: (Rs' ++ Ls))) := by simpa using H.drop (X := crbox b (.slice A2 c.dq.length c2) (.slice A3 c.ct.length c3) (.slice A4 c.dn.length c4) (.slice A5 c.rw.length c5)) (by simpa using h2)
    have h4 := h3.perm ((List.perm_middle (a := R) (l₁ := C' :: N' :: D :: Ds')))
    have h5 : H w5 h (R :: ([C', N', D] ++ (Ds' ++ (Rs' ++ Ls)))) := by simpa using h4
    have h6 := h5.perm (List.perm_middle (a := R) (l₁ := [C', N', D]) (l₂ := Ds' ++ (Rs' ++ Ls))).symm
    simpa using h6
  exact WT_ret1 Tryz.func25 Tryz.results25 rfl ⟨by unfold manyCr; congr 1; omega, C', N', D, R, Ds', Rs', ⟨hC, hN, hD, hR⟩, hH8⟩

theorem heldCrew_ok {dv cv nv rv : Value} {c : Cr} {k : Int} (hH : H w h Ls) (hC : ∀ Ms, RdCr h (Ms ++ Ls) dv cv nv rv (markCr k c)) (hs : CrSz c) (hk : 0 ≤ k ∧ k ≤ 100000000000000) :
    Rets Tryz.prog 26 #[crV dv cv nv rv, .int .i64 k] w fun u w' => u = .int .i64 (k + manyCr c) ∧ H w' h Ls := by
  have e1 := sumLen_flat c.dq
  have e2 := sumLen_flat c.rw
  have z1 := hs.dd
  have z2 := hs.ct
  have z3 := hs.dn
  have z4 := hs.rd
  obtain ⟨A2, c2, rfl, _⟩ := (hC []).dq.sl.form
  obtain ⟨A3, c3, rfl, _⟩ := (hC []).ct.sl.form
  obtain ⟨A4, c4, rfl, _⟩ := (hC []).dn.sl.form
  obtain ⟨A5, c5, rfl, _⟩ := (hC []).rw.sl.form
  refine rets_enter Tryz.func26 rfl Tryz.ntmps26 (by simp) ?_
  refine WT_seq ?_
  refine WT_region ?_
  refine WL_box _ rfl hH rfl rfl ?_; rintro b w1 hH1; replace hH1 : H w1 h ([crbox b (.slice A2 (markCr k c).dq.length c2) (.slice A3 (markCr k c).ct.length c3) (.slice A4 (markCr k c).dn.length c4) (.slice A5 (markCr k c).rw.length c5)] ++ Ls) := hH1
  refine WL_v rfl (ov_assign rfl) ?_
  refine WL_nil ?_
  refine WT_seq ?_
  refine WT_region ?_
  refine WL_v rfl (ov_field rfl fo_impl_Crew_0) ?_
  refine WL_v rfl (ov_load rfl one_sl_sl_int (hH1.cb 0 rfl 0)) ?_
  refine WL_v rfl (ov_move rfl) ?_
  refine WL_call rfl rfl cf_laws_heldIntSS (heldIntSS_ok hH1 (hC _).dq (show 0 ≤ k ∧ k ≤ 1000000000000000 by omega) (by omega)) ?_; rintro _ w2 ⟨rfl, hH2⟩
  refine WL_v rfl (ov_assign rfl) ?_
  refine WL_nil ?_
  refine WT_seq ?_
  refine WT_seq ?_
  refine WT_region ?_
  refine WL_v rfl (ov_move rfl) ?_
  refine WL_v rfl (ov_F (ov_lss rfl rfl) (decide_eq_false (by omega))) ?_
  refine WL_nil ?_
  refine WT_condF rfl ?_
  refine WT_skip ?_
  refine WT_seq ?_
  refine WT_region ?_
  refine WL_v rfl (ov_field rfl fo_impl_Crew_1) ?_
  refine WL_v rfl (ov_load rfl one_sl_int (hH2.cb 0 rfl 1)) ?_
  refine WL_v rfl (ov_move rfl) ?_
  refine WL_call rfl rfl cf_laws_heldIntS (heldIntS_ok hH2 (hC _).ct (by omega) (by omega)) ?_; rintro _ w3 ⟨rfl, hH3⟩
  refine WL_v rfl (ov_assign rfl) ?_
  refine WL_nil ?_
  refine WT_seq ?_
  refine WT_seq ?_
  refine WT_region ?_
  refine WL_v rfl (ov_move rfl) ?_
  refine WL_v rfl (ov_F (ov_lss rfl rfl) (decide_eq_false (by omega))) ?_
  refine WL_nil ?_
  refine WT_condF rfl ?_
  refine WT_skip ?_
  refine WT_seq ?_
  refine WT_region ?_
  refine WL_v rfl (ov_field rfl fo_impl_Crew_2) ?_
  refine WL_v rfl (ov_load rfl one_sl_int (hH3.cb 0 rfl 2)) ?_
  refine WL_v rfl (ov_move rfl) ?_
  refine WL_call rfl rfl cf_laws_heldIntS (heldIntS_ok hH3 (hC _).dn (by omega) (by omega)) ?_; rintro _ w4 ⟨rfl, hH4⟩
  refine WL_v rfl (ov_assign rfl) ?_
  refine WL_nil ?_
  refine WT_seq ?_
  refine WT_seq ?_
  refine WT_region ?_
  refine WL_v rfl (ov_move rfl) ?_
  refine WL_v rfl (ov_F (ov_lss rfl rfl) (decide_eq_false (by omega))) ?_
  refine WL_nil ?_
  refine WT_condF rfl ?_
  refine WT_skip ?_
  refine WT_seq ?_
  refine WT_region ?_
  refine WL_v rfl (ov_field rfl fo_impl_Crew_3) ?_
  refine WL_v rfl (ov_load rfl one_sl_sl_int (hH4.cb 0 rfl 3)) ?_
  refine WL_v rfl (ov_move rfl) ?_
  refine WL_call rfl rfl cf_laws_heldIntSS (heldIntSS_ok hH4 (hC _).rw (by omega) (by omega)) ?_; rintro _ w5 ⟨rfl, hH5⟩
  refine WL_v rfl (ov_assign rfl) ?_
  refine WL_nil ?_
  refine WT_seq ?_
  refine WT_seq ?_
  refine WT_region ?_
  refine WL_v rfl (ov_move rfl) ?_
  refine WL_v rfl (ov_F (ov_lss rfl rfl) (decide_eq_false (by omega))) ?_
  refine WL_nil ?_
  refine WT_condF rfl ?_
  refine WT_skip ?_
  refine WT_seq ?_
  refine WT_region ?_
  refine WL_v rfl (ov_move rfl) ?_
  refine WL_v rfl (ov_assign rfl) ?_
  refine WL_nil ?_
  exact WT_ret1 Tryz.func26 Tryz.results26 rfl ⟨by unfold manyCr; congr 1; omega, hH5.drop⟩

/-- What is left behind a lost worker, whatever comes in. -/
def lostOk (p : List Nd) (c : Cr) (a : Int) : Bool := crewOk p c && decide (0 ≤ a ∧ a < (c.dq.length : Int) ∧ c.dq.length ≠ 1)
def lostCr (p : List Nd) (c : Cr) (a : Int) : Cr := if lostOk p c a = true then loseCr c a.toNat else ⟨[], [], [], []⟩
theorem lostOk_iff {p : List Nd} {c : Cr} {a : Int} : lostOk p c a = true ↔ crewOk p c = true ∧ 0 ≤ a ∧ a < (c.dq.length : Int) ∧ c.dq.length ≠ 1 := by
  unfold lostOk
  simp
theorem lost_sz {p : List Nd} {c : Cr} (hs : CrSz c) (a : Int) : CrSz (lostCr p c a) := by
  unfold lostCr
  split
  · rename_i h
    obtain ⟨h1, h2, h3, h4⟩ := lostOk_iff.1 h
    have hok := (crewOk_iff _ _).1 h1
    have hk : a.toNat < c.dq.length := by omega
    have hll := loseL_len hk
    have hfl := (lose_flat hk (by omega)).length_eq
    exact ⟨by show (loseL c.dq a.toNat).length ≤ _; have := hs.dq; omega, by show (loseL c.dq a.toNat).flatten.length ≤ _; have := hs.dd; omega, hs.ct, hs.dn, hs.rw, hs.rd⟩
  · exact ⟨by simp, by simp, by simp, by simp, by simp, by simp⟩

theorem loseWorker_any (hH : H w h Ls) {pv dv cv nv rv : Value} {p : List Nd} {c : Cr} (hP : Plan h pv p) (hl : CrLim c) (hCr : RdCr h Ls dv cv nv rv c) (a : Int) :
    Rets Tryz.prog 12 #[pv, crV dv cv nv rv, .int .i64 a] w fun v w' => ∃ dv' cv' nv' rv', v = .tuple #[crV dv' cv' nv' rv', .bool (lostOk p c a)] ∧ OwnCr h Ls (lostCr p c a) dv' cv' nv' rv' w' := by
  by_cases hb : lostOk p c a = true
  · unfold lostCr
    rw [if_pos hb, hb]
    obtain ⟨h1, h2, h3, h4⟩ := lostOk_iff.1 hb
    obtain ⟨k, rfl⟩ := Int.eq_ofNat_of_zero_le h2
    exact loseWorker_yes hH hP hl hCr h1 (by omega) h4
  · unfold lostCr
    rw [if_neg hb, show lostOk p c a = false by simpa using hb]
    refine Rets.mono (loseWorker_no hH hP hl hCr (fun h => hb (lostOk_iff.2 h))) ?_
    rintro v w' ⟨rfl, hH2⟩
    exact ⟨_, _, _, _, rfl, OwnCr.none hH2⟩
theorem sLoseWorker_any (hH : H w h Ls) {pv dv cv nv rv : Value} {p : List Nd} {c : Cr} (hP : Plan h pv p) (hpl : p.length ≤ 1000000000) (hl : CrLim c) (hCr : RdCr h Ls dv cv nv rv c) (a : Int) :
    Rets Tryz.prog 13 #[pv, crV dv cv nv rv, .int .i64 a] w fun v w' => ∃ dv' cv' nv' rv', v = .tuple #[crV dv' cv' nv' rv', .bool (lostOk p c a)] ∧ OwnCr h Ls (lostCr p c a) dv' cv' nv' rv' w' := by
  by_cases hb : lostOk p c a = true
  · unfold lostCr
    rw [if_pos hb, hb]
    obtain ⟨h1, h2, h3, h4⟩ := lostOk_iff.1 hb
    obtain ⟨k, rfl⟩ := Int.eq_ofNat_of_zero_le h2
    exact sLoseWorker_yes hH hP hpl hl hCr h1 (by omega) h4
  · unfold lostCr
    rw [if_neg hb, show lostOk p c a = false by simpa using hb]
    refine Rets.mono (sLoseWorker_no hH hP hpl hl hCr (fun h => hb (lostOk_iff.2 h))) ?_
    rintro v w' ⟨rfl, hH2⟩
    exact ⟨_, _, _, _, rfl, OwnCr.none hH2⟩
end
end Go.Proofs.YteagnhdhafiofaaGreat

/- Walks: crews are drawn. -/
namespace Go.Proofs.YteagnhdhafiofaaGreat
open Go.RowKit

theorem SmCr.lim {p : List Nd} {c : Cr} (h : SmCr p c) : CrLim c := ⟨by have := h.dq; omega, by have := h.dd; omega, by have := h.ct; omega, by have := h.dn; omega, by have := h.rw; omega, fun i hi => by have := h.rr i hi; omega⟩

section
variable {h : GH} {Ls : List Heaplet} {w : World}

theorem Cl.crew {C N D R X Y : Heaplet} {Ds Rs Ms : List Heaplet} (hH : H w h (C :: N :: D :: R :: (Ds ++ (Rs ++ X :: Y :: Ms)))) : Cl h [Y] w := Cl.sub [X] [Y] _ hH.behindCr
/-- A crew of one's own is shared from here on. -/
theorem OCr.freeze {C N D R : Heaplet} {Ds Rs : List Heaplet} {dv cv nv rv : Value} {c : Cr} (hO : OCr C N D R Ds Rs dv cv nv rv c) (hH : H w h (C :: N :: D :: R :: (Ds ++ (Rs ++ Ls)))) :
    ∃ h', h.Le h' ∧ H w h' Ls ∧ ∀ Ms, RdCr h' Ms dv cv nv rv c := by
  have hH' : H w h ((C :: N :: D :: R :: (Ds ++ Rs)).flatten :: Ls) := by simpa [H] using hH
  obtain ⟨h', hle, hH2, hX2, _, _⟩ := hH'.freeze
  have hb : ∀ X ∈ C :: N :: D :: R :: (Ds ++ Rs), ∀ q ∈ X, h'.blk q.1 = some q.2 := fun X hX q hq => (hX2 q (List.mem_flatten.2 ⟨X, hX, hq⟩)).1
  refine ⟨h', hle, hH2, fun Ms => ⟨(hO.dq.lists fun q hq => ?_).rdll Ms, (hO.ct.ints (hb C (by simp))).rdl Ms, (hO.dn.ints (hb N (by simp))).rdl Ms, (hO.rw.lists fun q hq => ?_).rdll Ms⟩⟩
  · obtain ⟨X, hX, hqX⟩ := List.mem_flatten.1 hq
    refine hb X ?_ q hqX
    rcases List.mem_cons.1 hX with rfl | hX
    · simp
    · simp [hX]
  · obtain ⟨X, hX, hqX⟩ := List.mem_flatten.1 hq
    refine hb X ?_ q hqX
    rcases List.mem_cons.1 hX with rfl | hX
    · simp
    · simp [hX]

/-- A plan, and a crew of one's own. -/
def L92V (h : GH) (Ls : List Heaplet) (g : Nat) (bv : Value) (p0 : Nat) (v : Value) (w' : World) : Prop :=
  ∃ h' p pv c dv cv nv rv p', v = .tuple #[pv, crV dv cv nv rv] ∧ h.Le h' ∧ Plan h' pv p ∧ p.length ≤ 11 ∧ SmCr p c ∧ p' ≤ p0 + 4100 ∧ OwnCr h' (rdr g bv p' :: Ls) c dv cv nv rv w'

set_option maxHeartbeats 4000000 in
theorem l92Crew_ok {g : Nat} {bv : Value} {p0 : Nat} {bs : List Int} (hH : H w h (rdr g bv p0 :: Ls)) (hB : Bytes h bv bs) (hp : p0 ≤ 100000) : Rets Tryz.prog 71 #[.pointer (some ⟨g, 0, none⟩)] w (L92V h Ls g bv p0) := by
  refine rets_enter Tryz.func71 rfl Tryz.ntmps71 (by simp) ?_
  refine WT_seq ?_
  refine WT_region ?_
  refine WL_v rfl (ov_assign rfl) ?_
  refine WL_alloc _ rfl hH zero_crew rfl ?_; rintro g3 w1 hH1
  refine WL_nil ?_
  refine WT_seq ?_
  refine WT_region ?_
  refine WL_v rfl (ov_move rfl) ?_
  refine WL_call rfl rfl cf_spec_l91Plan (l91Plan_ok hH1.swap hB hp) ?_; rintro pv w2 ⟨p, O, Is, p1, hO, hpl, hp1, hH2⟩
  refine WL_v rfl (ov_assign rfl) ?_
  refine WL_nil ?_
  refine WT_seq ?_
  refine WT_region ?_
  refine WL_v rfl (ov_move rfl) ?_
  refine WL_v rfl (ov_move rfl) ?_
  have hH2b : H w2 h (O :: (Is ++ (rdr g bv p1 :: cz9 g3 :: Ls))) := by
    refine hH2.perm ?_
    have := (List.perm_middle (a := rdr g bv p1) (l₁ := O :: Is) (l₂ := cz9 g3 :: Ls)).symm
    simpa using this
  obtain ⟨h1, hle, hH3, hP, _⟩ := hO.freeze hH2b
  replace hB := hB.mono hle
  clear hH hH1 hH2 hH2b hO
  refine WL_call rfl rfl cf_p_spec_l6Rd_pick (pick_ok hH3 hB (by omega) 4) ?_; rintro _ w3 ⟨r1, rfl, hr1, hH4⟩; have hr14 := hr1.1 (by omega)
  refine WL_v rfl (ov_as (ov_add rfl rfl (by omega)) (congrArg (Value.int .i64) ((show (1 : Int) + (r1 : Int) = ((1 + r1 : Nat) : Int) by omega)))) ?_
  by_cases hv : planOk p = true
  case neg =>
    refine WL_call rfl rfl cf_spec_CrewNew (sCrewNew_no hH4 hP (by omega) (fun hh => hv hh.1)) ?_; rintro _ w4 ⟨rfl, hH5⟩
    refine WL_v rfl (ov_move rfl) ?_
    refine WL_v rfl (ov_extract rfl rfl) ?_
    refine WL_v rfl (ov_extract rfl rfl) ?_
    refine WL_alloc _ rfl hH5 zero_crew rfl ?_; rintro g5 w5 hH6
    refine WL_storeN hH6 rfl rfl (i := 0) rfl rfl rfl (ones_cons rfl (ones_cons rfl (ones_cons rfl (ones_cons rfl ones_nil)))) sz_impl_Crew ?_; rintro w6 hH7
    refine WL_v rfl (ov_assign rfl) ?_
    refine WL_nil ?_
    refine WT_seq ?_
    refine WT_seq ?_
    refine WT_region ?_
    refine WL_v rfl (ov_move rfl) ?_
    refine WL_v rfl (ov_not rfl) ?_
    refine WL_nil ?_
    refine WT_condT rfl ?_
    refine WT_seq ?_
    refine WT_region ?_
    refine WL_v rfl (ov_move rfl) ?_
    refine WL_v rfl (ov_build rfl run_build_crew0) ?_
    refine WL_v rfl (ov_assign rfl) ?_
    refine WL_storeN hH7 rfl rfl (i := 2) rfl rfl rfl (ones_cons rfl (ones_cons rfl (ones_cons rfl (ones_cons rfl ones_nil)))) sz_impl_Crew ?_; rintro w7 hH8
    refine WL_nil ?_
    exact WT_retTC Tryz.func71 Tryz.results71 rfl rfl (lvCrew (i := 2) (dv := nilV) (cv := nilV) (nv := nilV) (rv := nilV) rfl hH8) ⟨h1, p, pv, ⟨[], [], [], []⟩, nilV, nilV, nilV, nilV, p1 + 1, rfl, hle, hP, hpl, SmCr.none p, by omega, OwnCr.none ((hH8.del 2 rfl).drop)⟩
  refine WL_call rfl rfl cf_spec_CrewNew (sCrewNew_yes hH4 hP hv (n := 1 + r1) (by omega)) ?_; rintro _ w4 ⟨dv0, cv0, nv0, rv0, rfl, C0, N0, D0, R0, Ds0, Rs0, hO0, hH5⟩; replace hH5 := H.behindCr hH5
  refine WL_v rfl (ov_move rfl) ?_
  refine WL_v rfl (ov_extract rfl rfl) ?_
  refine WL_v rfl (ov_extract rfl rfl) ?_
  refine WL_alloc _ rfl hH5 zero_crew rfl ?_; rintro g5 w5 hH6
  refine WL_storeN hH6 rfl rfl (i := 0) rfl rfl rfl (ones_cons hO0.dq.sl.one (ones_cons hO0.ct.sl.one (ones_cons hO0.dn.sl.one (ones_cons hO0.rw.sl.one ones_nil)))) sz_impl_Crew ?_; rintro w6 hH7
  refine WL_v rfl (ov_assign rfl) ?_
  refine WL_nil ?_
  refine WT_seq ?_
  refine WT_seq ?_
  refine WT_region ?_
  refine WL_v rfl (ov_move rfl) ?_
  refine WL_v rfl (ov_not rfl) ?_
  refine WL_nil ?_
  refine WT_condF rfl ?_
  have hsm0 := (newCr_ok hv (w := 1 + r1) (by omega)).small
  generalize newCr p (1 + r1) = c0 at hO0 hsm0
  have hlp := hP.sl
  refine WT_skip ?_
  refine WT_seq ?_
  refine WT_region ?_
  refine WL_v rfl (ov_move rfl) ?_
  refine WL_v rfl (ov_move rfl) ?_
  refine WL_v rfl (ov_len rfl hlp st_sl_impl_Node) ?_
  refine WL_v rfl (ov_as (ov_add rfl rfl (by omega)) (congrArg (Value.int .i64) ((show (p.length : Int) + 1 = ((p.length + 1 : Nat) : Int) by omega)))) ?_
  refine WL_call rfl rfl cf_p_spec_l6Rd_pick (pick_ok hH7.swap hB (by omega) ((p.length + 1 : Nat) : Int)) ?_; rintro _ w7 ⟨r2, rfl, hr2, hH8⟩
  refine WL_v rfl (ov_assign rfl) ?_
  refine WL_nil ?_
  refine WT_seq ?_
  refine WT_seq ?_
  refine WT_region ?_
  refine WL_v rfl (ov_assign rfl) ?_
  refine WL_nil ?_
  refine WT_block ?_
  have hr24 := hr2.1 (by omega)
  have hH9 : H w7 h1 ([crbox g5 dv0 cv0 nv0 rv0, rdr g bv (p1 + 1 + 1), cz9 g3] ++ (C0 :: N0 :: D0 :: R0 :: (Ds0 ++ (Rs0 ++ Ls)))) := hH8.swap
  clear hH3 hH4 hH5 hH6 hH7 hH8
  refine WT_while (fun s : Nat × Value × Value × Value × Value => [(0, ptr g), (3, ptr g3), (4, pv), (5, ptr g5), (7, .int .i64 (r2 : Int)), (8, .int .i64 (s.1 : Int))]) (fun s w => s.1 ≤ r2 ∧ ∃ c C N D R Ds Rs, OCr C N D R Ds Rs s.2.1 s.2.2.1 s.2.2.2.1 s.2.2.2.2 c ∧ SmCr p c ∧ H w h1 ([crbox g5 s.2.1 s.2.2.1 s.2.2.2.1 s.2.2.2.2, rdr g bv (p1 + 2 + s.1), cz9 g3] ++ (C :: N :: D :: R :: (Ds ++ (Rs ++ Ls))))) (fun s => r2 - s.1) (0, dv0, cv0, nv0, rv0) (by repeat (first | exact trivial | refine ⟨rfl, ?_⟩)) ⟨by simp, c0, C0, N0, D0, R0, Ds0, Rs0, hO0, hsm0, hH9⟩ ?_
  clear hH9 hO0 hsm0
  rintro ⟨k, dv, cv, nv, rv⟩ w8 ⟨hk, c, C, N, D, R, Ds, Rs, hO, hsm, hH⟩ again
  simp only at hk hO hH
  refine WT_seq ?_
  refine WT_seq ?_
  refine WT_region ?_
  refine WL_v rfl (ov_move rfl) ?_
  refine WL_v rfl (ov_move rfl) ?_
  refine WL_v rfl (ov_lss rfl rfl) ?_
  refine WL_nil ?_
  refine WT_cond rfl (fun hc => ?_) (fun hc => ?_)
  · skip
    first | with_reducible replace hc := of_decide_eq_true hc | with_reducible replace hc := bn_T hc | with_reducible replace hc := bb_T hc | skip
    have hkr : k < r2 := by simp only at hc; omega
    have hRd : ∀ {Ms : List Heaplet} (A : List Heaplet), Ms = A ++ (C :: N :: D :: R :: (Ds ++ (Rs ++ Ls))) → RdCr h1 Ms dv cv nv rv c := fun A hA => by
      rw [hA]; exact hO.rd.ups A
    have hdl := hsm.dq
    refine WT_skip ?_
    refine WT_seq ?_
    refine WT_block ?_
    refine WT_seq ?_
    refine WT_join (ι := Bool × Cr × Nat × Value × Value × Value × Value) (fun s => [(0, ptr g), (3, ptr g3), (4, pv), (5, ptr g5), (7, .int .i64 (r2 : Int)), (8, .int .i64 (k : Int)), (9, ptr s.2.2.1), (10, .bool s.1)]) (fun s w => SmCr p s.2.1 ∧ ∃ C2 N2 D2 R2 Ds2 Rs2, OCr C2 N2 D2 R2 Ds2 Rs2 s.2.2.2.1 s.2.2.2.2.1 s.2.2.2.2.2.1 s.2.2.2.2.2.2 s.2.1 ∧ H w h1 (rdr g bv (p1 + 2 + k + 1) :: crbox g5 dv cv nv rv :: crbox s.2.2.1 s.2.2.2.1 s.2.2.2.2.1 s.2.2.2.2.2.1 s.2.2.2.2.2.2 :: C2 :: N2 :: D2 :: R2 :: (Ds2 ++ (Rs2 ++ (cz9 g3 :: C :: N :: D :: R :: (Ds ++ (Rs ++ Ls))))))) (fun joined => ?_) ?_
    · skip
      have lift : ∀ {w : World} {B9 C2 N2 D2 R2 X Y : Heaplet} {Ds2 Rs2 Ms : List Heaplet}, H w h1 (B9 :: C2 :: N2 :: D2 :: R2 :: (Ds2 ++ (Rs2 ++ X :: Y :: Ms))) → H w h1 (X :: Y :: B9 :: C2 :: N2 :: D2 :: R2 :: (Ds2 ++ (Rs2 ++ Ms))) := fun {w B9 C2 N2 D2 R2 X Y Ds2 Rs2 Ms} hh => by
        have h9 : H w h1 (B9 :: ((C2 :: N2 :: D2 :: R2 :: (Ds2 ++ Rs2)) ++ X :: Y :: Ms)) := by simpa using hh
        have := H.behind2 h9
        simpa using this
      have hqs := hO.dq.sl
      refine WT_mixXS [(0, 1), (1, 0), (2, 1), (3, 1), (4, 0), (5, 1), (6, 2), (7, 3), (8, 1), (9, 1), (10, 1), (11, 2), (12, 3), (13, 1)] [(0, 1), (1, 0), (2, 1), (3, 1), (4, 0), (5, 1)] 8 #[true, true, true, true, true, true, false, false, false, false, false, false, false, false] [crbox g5 dv cv nv rv] (fun w' hh => Cl.sub [] [crbox g5 dv cv nv rv] _ hh) mixed (by kernel_rfl) hH ?_
      clear hH
      intro w9 hH hC
      refine WM_p rfl rfl (fun _ => ov_move rfl) ?_
      refine WM_v rfl rfl hC (fun _ ⟨_, hH⟩ => ov_loadN [dv, cv, nv, rv] rfl agg_impl_Crew rfl ((loadCrew (i := 1) rfl hH))) ?_
      refine WM_p rfl rfl (fun _ => ov_move rfl) ?_
      refine WM_p rfl rfl (fun _ => ov_field rfl fo_impl_Crew_0) ?_
      refine WM_v rfl rfl hC (fun _ ⟨_, hH⟩ => ov_load rfl one_sl_sl_int (hH.cb 1 rfl 0)) ?_
      refine WM_p rfl rfl (fun _ => ov_len rfl hqs st_sl_sl_int) ?_
      refine WM_fork 6 11 0 0 [] [(6, 2), (7, 3), (8, 1), (9, 1), (10, 1), (12, 3), (13, 1)] 7 0 #[true, true, true, true, true, true, true, false, false, false, false, false, false, false] #[true, true, true, true, true, true, true, true, true, true, true, true, true, true] (by kernel_rfl) ?_ ?_
      · skip
        refine WM_e rfl ?_
        refine WL_call rfl rfl cf_p_spec_l6Rd_pick (pick_ok hH.swap hB (by omega) _) ?_; rintro _ w10 ⟨r3, rfl, hr3, hH10⟩
        replace hC : Cl _ _ _ := Cl.sub [rdr g bv (p1 + 2 + k + 1)] [crbox g5 dv cv nv rv] _ hH10
        refine WL_mix (fun _ => hC) ?_
        refine WM_fork 7 11 1 0 [(8, 1), (9, 1), (10, 1), (11, 2), (12, 3), (13, 1)] [(7, 3), (8, 1), (9, 1), (10, 1), (12, 3), (13, 1)] 0 0 #[true, true, true, true, true, true, true, true, true, true, true, true, true, true] #[true, true, true, true, true, true, true, true, true, true, true, true, true, true] (by kernel_rfl) ?_ ?_
        · skip
          refine WM_e rfl ?_
          refine WL_call rfl rfl cf_spec_TurnNext (sTurnNext_ok hH10 hP (by omega) hsm.lim (hRd [rdr g bv (p1 + 2 + k + 1), crbox g5 dv cv nv rv, cz9 g3] rfl) _) ?_; rintro _ w11 ⟨ok, c2, dv2, cv2, nv2, rv2, rfl, hsm2, C2, N2, D2, R2, Ds2, Rs2, hO2, hH11⟩
          refine WL_mix (fun h => absurd rfl h) ?_
          refine WM_p rfl rfl (fun _ => ov_move rfl) ?_
          refine WM_p rfl rfl (fun _ => ov_extract rfl rfl) ?_
          refine WM_p rfl rfl (fun _ => ov_extract rfl rfl) ?_
          refine WM_e rfl ?_
          refine WL_alloc _ rfl hH11 zero_crew rfl ?_; rintro g9 w12 hH12
          replace hC : Cl _ _ _ := Cl.crew hH12.drop
          refine WL_mix (fun _ => hC) ?_
          refine WM_e rfl ?_
          refine WL_storeN hH12 rfl rfl (i := 0) rfl rfl rfl (ones_cons hO2.dq.sl.one (ones_cons hO2.ct.sl.one (ones_cons hO2.dn.sl.one (ones_cons hO2.rw.sl.one ones_nil)))) sz_impl_Crew ?_; rintro w13 hH13
          refine WL_mix (fun h => absurd rfl h) ?_
          refine WM_p rfl rfl (fun _ => ov_assign rfl) ?_
          refine WM_fin (by kernel_rfl) ?_
          exact joined (ok, c2, g9, dv2, cv2, nv2, rv2) _ _ (by repeat (first | exact trivial | refine ⟨rfl, ?_⟩)) ⟨hsm2, C2, N2, D2, R2, Ds2, Rs2, hO2, lift hH13⟩
        refine WM_e rfl ?_
        refine WL_alloc _ rfl hH10 zero_crew rfl ?_; rintro g9 w12 hH12
        replace hC : Cl _ _ _ := Cl.sub [cz9 g9, rdr g bv (p1 + 2 + k + 1)] [crbox g5 dv cv nv rv] _ hH12
        refine WL_mix (fun _ => hC) ?_
        refine WM_e rfl ?_
        refine WL_call rfl rfl cf_spec_TurnNext (sTurnNext_ok hH12 hP (by omega) hsm.lim (hRd [cz9 g9, rdr g bv (p1 + 2 + k + 1), crbox g5 dv cv nv rv, cz9 g3] rfl) _) ?_; rintro _ w11 ⟨ok, c2, dv2, cv2, nv2, rv2, rfl, hsm2, C2, N2, D2, R2, Ds2, Rs2, hO2, hH11⟩; replace hH11 := H.behindCr1 hH11
        refine WL_mix (fun h => absurd rfl h) ?_
        refine WM_p rfl rfl (fun _ => ov_move rfl) ?_
        refine WM_p rfl rfl (fun _ => ov_extract rfl rfl) ?_
        refine WM_p rfl rfl (fun _ => ov_extract rfl rfl) ?_
        refine WM_e rfl ?_
        refine WL_storeN hH11 rfl rfl (i := 0) rfl rfl rfl (ones_cons hO2.dq.sl.one (ones_cons hO2.ct.sl.one (ones_cons hO2.dn.sl.one (ones_cons hO2.rw.sl.one ones_nil)))) sz_impl_Crew ?_; rintro w13 hH13
        refine WL_mix (fun h => absurd rfl h) ?_
        refine WM_p rfl rfl (fun _ => ov_assign rfl) ?_
        refine WM_fin (by kernel_rfl) ?_
        exact joined (ok, c2, g9, dv2, cv2, nv2, rv2) _ _ (by repeat (first | exact trivial | refine ⟨rfl, ?_⟩)) ⟨hsm2, C2, N2, D2, R2, Ds2, Rs2, hO2, lift hH13⟩
      refine WM_e rfl ?_
      refine WL_alloc _ rfl hH zero_crew rfl ?_; rintro g9 w12 hH12
      replace hC : Cl _ _ _ := Cl.sub [cz9 g9] [crbox g5 dv cv nv rv] _ hH12
      refine WL_mix (fun _ => hC) ?_
      refine WM_e rfl ?_
      refine WL_call rfl rfl cf_p_spec_l6Rd_pick (pick_ok (hH12.pull 2 rfl) hB (by omega) _) ?_; rintro _ w10 ⟨r3, rfl, hr3, hH10⟩; replace hH10 := hH10.swap
      replace hC : Cl _ _ _ := Cl.sub [cz9 g9, rdr g bv (p1 + 2 + k + 1)] [crbox g5 dv cv nv rv] _ hH10
      refine WL_mix (fun _ => hC) ?_
      refine WM_e rfl ?_
      refine WL_call rfl rfl cf_spec_TurnNext (sTurnNext_ok hH10 hP (by omega) hsm.lim (hRd [cz9 g9, rdr g bv (p1 + 2 + k + 1), crbox g5 dv cv nv rv, cz9 g3] rfl) _) ?_; rintro _ w11 ⟨ok, c2, dv2, cv2, nv2, rv2, rfl, hsm2, C2, N2, D2, R2, Ds2, Rs2, hO2, hH11⟩; replace hH11 := H.behindCr1 hH11
      refine WL_mix (fun h => absurd rfl h) ?_
      refine WM_p rfl rfl (fun _ => ov_move rfl) ?_
      refine WM_p rfl rfl (fun _ => ov_extract rfl rfl) ?_
      refine WM_p rfl rfl (fun _ => ov_extract rfl rfl) ?_
      refine WM_e rfl ?_
      refine WL_storeN hH11 rfl rfl (i := 0) rfl rfl rfl (ones_cons hO2.dq.sl.one (ones_cons hO2.ct.sl.one (ones_cons hO2.dn.sl.one (ones_cons hO2.rw.sl.one ones_nil)))) sz_impl_Crew ?_; rintro w13 hH13
      refine WL_mix (fun h => absurd rfl h) ?_
      refine WM_p rfl rfl (fun _ => ov_assign rfl) ?_
      refine WM_fin (by kernel_rfl) ?_
      exact joined (ok, c2, g9, dv2, cv2, nv2, rv2) _ _ (by repeat (first | exact trivial | refine ⟨rfl, ?_⟩)) ⟨hsm2, C2, N2, D2, R2, Ds2, Rs2, hO2, lift hH13⟩
    clear hH
    rintro ⟨ok, c2, g9, dv2, cv2, nv2, rv2⟩ w9 ⟨hsm2, C2, N2, D2, R2, Ds2, Rs2, hO2, hH⟩
    simp only at hsm2 hO2 hH
    refine WT_seq ?_
    refine WT_region ?_
    refine WL_v rfl (ov_move rfl) ?_
    refine WL_nil ?_
    cases ok with
    | true =>
      refine WT_condT rfl ?_
      refine WT_region ?_
      refine WL_v rfl (ov_loadN [dv2, cv2, nv2, rv2] rfl agg_impl_Crew rfl ((loadCrew (i := 2) rfl hH))) ?_
      refine WL_storeN hH rfl rfl (i := 1) rfl rfl rfl (ones_cons hO2.dq.sl.one (ones_cons hO2.ct.sl.one (ones_cons hO2.dn.sl.one (ones_cons hO2.rw.sl.one ones_nil)))) sz_impl_Crew ?_; rintro w10 hH10
      refine WL_nil ?_
      refine WT_inBlock ?_
      refine WT_region ?_
      refine WL_v rfl (ov_move rfl) ?_
      refine WL_v rfl (ov_add rfl rfl (by omega)) ?_
      refine WL_v rfl (ov_assign rfl) ?_
      refine WL_nil ?_
      refine again (k + 1, dv2, cv2, nv2, rv2) _ _ (by simp only; omega) (by repeat (first | exact trivial | refine ⟨rfl, ?_⟩)) ⟨by simp only; omega, c2, C2, N2, D2, R2, Ds2, Rs2, hO2, hsm2, ?_⟩
      have h9 := hH10.del 2 rfl
      have h10 : H w10 h1 ((rdr g bv (p1 + 2 + k + 1) :: crbox g5 dv2 cv2 nv2 rv2 :: C2 :: N2 :: D2 :: R2 :: (Ds2 ++ Rs2)) ++ cz9 g3 :: ((C :: N :: D :: R :: (Ds ++ Rs)) ++ Ls)) := by simpa using h9
      have h11 := h10.perm List.perm_middle
      have h12 : H w10 h1 ((cz9 g3 :: rdr g bv (p1 + 2 + k + 1) :: crbox g5 dv2 cv2 nv2 rv2 :: C2 :: N2 :: D2 :: R2 :: (Ds2 ++ Rs2)) ++ ((C :: N :: D :: R :: (Ds ++ Rs)) ++ Ls)) := h11
      have h13 := H.dropMid h12
      have h14 := (h13.pull 2 rfl).pull 2 rfl
      have h15 := h14.swap
      simpa [Nat.add_assoc] using h15
    | false =>
      refine WT_condF rfl ?_
      refine WT_skip ?_
      refine WT_inBlock ?_
      refine WT_region ?_
      refine WL_v rfl (ov_move rfl) ?_
      refine WL_v rfl (ov_add rfl rfl (by omega)) ?_
      refine WL_v rfl (ov_assign rfl) ?_
      refine WL_nil ?_
      refine again (k + 1, dv, cv, nv, rv) _ _ (by simp only; omega) (by repeat (first | exact trivial | refine ⟨rfl, ?_⟩)) ⟨by simp only; omega, c, C, N, D, R, Ds, Rs, hO, hsm, ?_⟩
      have h10 : H w9 h1 ([rdr g bv (p1 + 2 + k + 1), crbox g5 dv cv nv rv] ++ ((crbox g9 dv2 cv2 nv2 rv2 :: C2 :: N2 :: D2 :: R2 :: (Ds2 ++ Rs2)) ++ (cz9 g3 :: C :: N :: D :: R :: (Ds ++ (Rs ++ Ls))))) := by simpa using hH
      have h13 := (H.dropMid h10).swap
      simpa [Nat.add_assoc] using h13
  first | with_reducible replace hc := of_decide_eq_false hc | with_reducible replace hc := bn_F hc | with_reducible replace hc := bb_F hc | skip
  have hk2 : k = r2 := by simp only at hc; omega
  subst hk2
  have hH2 := hH
  refine WT_exit rfl ?_
  refine WT_seq ?_
  refine WT_mixL [(0, 1), (1, 0), (2, 1), (3, 3)] mixed (by kernel_rfl) hH ?_
  clear hH
  intro w10 hH hC
  refine WM_p rfl rfl (fun _ => ov_move rfl) ?_
  refine WM_v rfl rfl hC (fun _ ⟨_, hH⟩ => ov_loadN [dv, cv, nv, rv] rfl agg_impl_Crew rfl ((loadCrew (i := 1) rfl hH))) ?_
  refine WM_p rfl rfl (fun _ => ov_assign rfl) ?_
  refine WM_e rfl ?_
  refine WL_storeN hH rfl rfl (i := 2) rfl rfl rfl (ones_cons hO.dq.sl.one (ones_cons hO.ct.sl.one (ones_cons hO.dn.sl.one (ones_cons hO.rw.sl.one ones_nil)))) sz_impl_Crew ?_; rintro w11 hH11
  refine WL_mix (fun h => absurd rfl h) ?_
  refine WM_nil ?_
  exact WT_retTC Tryz.func71 Tryz.results71 rfl rfl (lvCrew (i := 2) (dv := dv) (cv := cv) (nv := nv) (rv := rv) rfl hH11) ⟨h1, p, pv, c, dv, cv, nv, rv, p1 + 2 + k, rfl, hle, hP, hpl, hsm, by omega, C, N, D, R, Ds, Rs, hO, by
    have h9 := (hH11.del 2 rfl).drop
    have h10 : H w11 h1 (rdr g bv (p1 + 2 + k) :: ((C :: N :: D :: R :: (Ds ++ Rs)) ++ Ls)) := by simpa using h9
    have h11 := h10.perm (List.perm_middle (a := rdr g bv (p1 + 2 + k)) (l₁ := C :: N :: D :: R :: (Ds ++ Rs)) (l₂ := Ls)).symm
    simpa using h11⟩
end
end Go.Proofs.YteagnhdhafiofaaGreat
