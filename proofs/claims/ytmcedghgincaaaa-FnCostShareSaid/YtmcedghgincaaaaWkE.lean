/- Walks: the graph of a plan is made. -/
import Derived.Test.YtmcedghgincaaaaWkD
namespace Go.Proofs.Ytmcedghgincaaaa
open Go.RowKit

def ptr (g : Nat) : Value := .pointer (some ⟨g, 0, none⟩)
theorem ptr_one (g : Nat → Nat) (l : List Nat) : ∀ u ∈ l.map (fun j => ptr (g j)), u.oneCell' = true := by
  intro u hu
  obtain ⟨j, _, rfl⟩ := List.mem_map.1 hu
  rfl

/-- The nodes of a graph: m boxes, each with the slice of what it needs and of what uses it. -/
structure Gr (Gs : List Heaplet) (g : Nat → Nat) (N U : Nat → List Nat) (m : Nat) : Prop where
  len : Gs.length = 3 * m
  bn : ∀ i, i < m → ∀ j ∈ N i, j < m
  bu : ∀ i, i < m → ∀ j ∈ U i, j < m
  node : ∀ i, i < m → ∃ nv uv NX UX, Gs[3 * i]? = some [(g i, .cells #[.int .i64 (i : Int), nv, uv] 101 (0, 0))] ∧ Gs[3 * i + 1]? = some NX ∧ Gs[3 * i + 2]? = some UX ∧
    Row NX 102 1 nv (N i).length ((N i).map fun j => ptr (g j)) ∧ Row UX 102 1 uv (U i).length ((U i).map fun j => ptr (g j))

theorem Gr.congr {Gs : List Heaplet} {g : Nat → Nat} {N U N' U' : Nat → List Nat} {m : Nat} (hG : Gr Gs g N U m) (hN : ∀ i, i < m → N' i = N i) (hU : ∀ i, i < m → U' i = U i) : Gr Gs g N' U' m :=
  ⟨hG.len, fun i hi => by rw [hN i hi]; exact hG.bn i hi, fun i hi => by rw [hU i hi]; exact hG.bu i hi, fun i hi => by rw [hN i hi, hU i hi]; exact hG.node i hi⟩

theorem Gr.setN {Gs : List Heaplet} {g : Nat → Nat} {N U : Nat → List Nat} {m i : Nat} {nv uv nv' : Value} {X' : Heaplet} {l : List Nat} (hG : Gr Gs g N U m) (hi : i < m)
    (hbox : Gs[3 * i]? = some [(g i, .cells #[.int .i64 (i : Int), nv, uv] 101 (0, 0))]) (hl : ∀ j ∈ l, j < m) (hX : Row X' 102 1 nv' l.length (l.map fun j => ptr (g j))) :
    Gr ((Gs.set (3 * i + 1) X').set (3 * i) [(g i, .cells #[.int .i64 (i : Int), nv', uv] 101 (0, 0))]) g (fun a => if a = i then l else N a) U m := by
  have hlen := hG.len
  refine ⟨by simpa using hG.len, fun a ha j hj => ?_, hG.bu, fun a ha => ?_⟩
  · by_cases hai : a = i
    · simp only [hai, if_true] at hj; exact hl j hj
    · simp only [hai, if_false] at hj; exact hG.bn a ha j hj
  · obtain ⟨nv0, uv0, NX, UX, h1, h2, h3, h4, h5⟩ := hG.node a ha
    by_cases hai : a = i
    · subst hai
      rw [hbox] at h1
      simp only [Option.some.injEq, List.cons.injEq, Prod.mk.injEq, Obj.cells.injEq, and_true, true_and, Array.mk.injEq] at h1
      obtain ⟨rfl, rfl⟩ := h1
      refine ⟨nv', uv, X', UX, ?_, ?_, ?_, by simpa using hX, h5⟩
      · rw [List.getElem?_set]; simp [hlen]; omega
      · rw [List.getElem?_set, if_neg (by omega), List.getElem?_set]; simp [hlen]; omega
      · rw [List.getElem?_set, if_neg (by omega), List.getElem?_set, if_neg (by omega)]; exact h3
    · refine ⟨nv0, uv0, NX, UX, ?_, ?_, ?_, by simpa [hai] using h4, h5⟩
      · rw [List.getElem?_set, if_neg (by omega), List.getElem?_set, if_neg (by omega)]; exact h1
      · rw [List.getElem?_set, if_neg (by omega), List.getElem?_set, if_neg (by omega)]; exact h2
      · rw [List.getElem?_set, if_neg (by omega), List.getElem?_set, if_neg (by omega)]; exact h3

theorem Gr.setU {Gs : List Heaplet} {g : Nat → Nat} {N U : Nat → List Nat} {m i : Nat} {nv uv uv' : Value} {X' : Heaplet} {l : List Nat} (hG : Gr Gs g N U m) (hi : i < m)
    (hbox : Gs[3 * i]? = some [(g i, .cells #[.int .i64 (i : Int), nv, uv] 101 (0, 0))]) (hl : ∀ j ∈ l, j < m) (hX : Row X' 102 1 uv' l.length (l.map fun j => ptr (g j))) :
    Gr ((Gs.set (3 * i + 2) X').set (3 * i) [(g i, .cells #[.int .i64 (i : Int), nv, uv'] 101 (0, 0))]) g N (fun a => if a = i then l else U a) m := by
  have hlen := hG.len
  refine ⟨by simpa using hG.len, hG.bn, fun a ha j hj => ?_, fun a ha => ?_⟩
  · by_cases hai : a = i
    · simp only [hai, if_true] at hj; exact hl j hj
    · simp only [hai, if_false] at hj; exact hG.bu a ha j hj
  · obtain ⟨nv0, uv0, NX, UX, h1, h2, h3, h4, h5⟩ := hG.node a ha
    by_cases hai : a = i
    · subst hai
      rw [hbox] at h1
      simp only [Option.some.injEq, List.cons.injEq, Prod.mk.injEq, Obj.cells.injEq, and_true, true_and, Array.mk.injEq] at h1
      obtain ⟨rfl, rfl⟩ := h1
      refine ⟨nv, uv', NX, X', ?_, ?_, ?_, h4, by simpa using hX⟩
      · rw [List.getElem?_set]; simp [hlen]; omega
      · rw [List.getElem?_set, if_neg (by omega), List.getElem?_set, if_neg (by omega)]; exact h2
      · rw [List.getElem?_set, if_neg (by omega), List.getElem?_set]; simp [hlen]; omega
    · refine ⟨nv0, uv0, NX, UX, ?_, ?_, ?_, h4, by simpa [hai] using h5⟩
      · rw [List.getElem?_set, if_neg (by omega), List.getElem?_set, if_neg (by omega)]; exact h1
      · rw [List.getElem?_set, if_neg (by omega), List.getElem?_set, if_neg (by omega)]; exact h2
      · rw [List.getElem?_set, if_neg (by omega), List.getElem?_set, if_neg (by omega)]; exact h3

/-- A new node, that needs nothing and is used by none. -/
theorem Gr.new {Gs : List Heaplet} {g : Nat → Nat} {N U : Nat → List Nat} {m gn : Nat} (hG : Gr Gs g N U m) :
    Gr (Gs ++ [[(gn, .cells #[.int .i64 (m : Int), .slice none 0 0, .slice none 0 0] 101 (0, 0))], [], []]) (fun a => if a = m then gn else g a) (fun a => if a = m then [] else N a) (fun a => if a = m then [] else U a) (m + 1) := by
  have hlen := hG.len
  refine ⟨by simp [hlen]; omega, fun a ha j hj => ?_, fun a ha j hj => ?_, fun a ha => ?_⟩
  · by_cases ham : a = m
    · simp [ham] at hj
    · simp only [ham, if_false] at hj; have := hG.bn a (by omega) j hj; omega
  · by_cases ham : a = m
    · simp [ham] at hj
    · simp only [ham, if_false] at hj; have := hG.bu a (by omega) j hj; omega
  · by_cases ham : a = m
    · subst ham
      refine ⟨.slice none 0 0, .slice none 0 0, [], [], ?_, ?_, ?_, by simpa using Row.nil _ _, by simpa using Row.nil _ _⟩
      · rw [List.getElem?_append_right (by omega), hlen]; simp
      · rw [List.getElem?_append_right (by omega), hlen]; simp [show 3 * a + 1 - 3 * a = 1 by omega]
      · rw [List.getElem?_append_right (by omega), hlen]; simp [show 3 * a + 2 - 3 * a = 2 by omega]
    · obtain ⟨nv0, uv0, NX, UX, h1, h2, h3, h4, h5⟩ := hG.node a (by omega)
      have hg : ∀ l : List Nat, (∀ j ∈ l, j < m) → (l.map fun j => ptr (if j = m then gn else g j)) = l.map fun j => ptr (g j) := fun l hl =>
        List.map_congr_left fun j hj => by rw [if_neg (by have := hl j hj; omega)]
      refine ⟨nv0, uv0, NX, UX, ?_, ?_, ?_, ?_, ?_⟩
      · rw [List.getElem?_append_left (by omega)]; simpa [ham] using h1
      · rw [List.getElem?_append_left (by omega)]; exact h2
      · rw [List.getElem?_append_left (by omega)]; exact h3
      · simp only [ham, if_false]; rw [hg _ (hG.bn a (by omega))]; exact h4
      · simp only [ham, if_false]; rw [hg _ (hG.bu a (by omega))]; exact h5

section
variable {h : GH} {Ls : List Heaplet} {w : World}

theorem Gr.inj {Gs : List Heaplet} {g : Nat → Nat} {N U : Nat → List Nat} {m a b : Nat} (hG : Gr Gs g N U m) (hH : H w h (Gs ++ Ls)) (ha : a < m) (hb : b < m) (he : g a = g b) : a = b := by
  obtain ⟨_, _, _, _, h1, _⟩ := hG.node a ha
  obtain ⟨_, _, _, _, h2, _⟩ := hG.node b hb
  have hlen := hG.len
  rcases Nat.decEq a b with hne | heq
  · exact absurd he (hH.ne (i := 3 * a) (j := 3 * b) (by rw [List.getElem?_append_left (by omega)]; exact h1) (by rw [List.getElem?_append_left (by omega)]; exact h2) (by omega))
  · exact heq
theorem Gr.heap {Gs : List Heaplet} {g : Nat → Nat} {N U : Nat → List Nat} {m a : Nat} (hG : Gr Gs g N U m) (hH : H w h (Gs ++ Ls)) (ha : a < m) : ∃ cs, w.heap[g a]? = some (.cells cs 101 (0, 0)) := by
  obtain ⟨_, _, _, _, h1, _⟩ := hG.node a ha
  have hlen := hG.len
  exact ⟨_, hH.mem (i := 3 * a) (by rw [List.getElem?_append_left (by omega)]; exact h1) (List.mem_singleton.2 rfl)⟩

theorem needsAlready_ok {Gs : List Heaplet} {g : Nat → Nat} {N U : Nat → List Nat} {m i f : Nat} (hG : Gr Gs g N U m) (hH : H w h (Gs ++ Ls)) (hi : i < m) (hf : f < m) :
    Rets Try.prog 122 #[ptr (g i), ptr (g f)] w fun v w' => v = .bool (decide (f ∈ N i)) ∧ H w' h (Gs ++ Ls) := by
  obtain ⟨nv, uv, NX, UX, h1, h2, h3, h4, h5⟩ := hG.node i hi
  have hlen := hG.len
  have hb1 : (Gs ++ Ls)[3 * i]? = some [(g i, .cells #[.int .i64 (i : Int), nv, uv] 101 (0, 0))] := by rw [List.getElem?_append_left (by omega)]; exact h1
  have hb2 : (Gs ++ Ls)[3 * i + 1]? = some NX := by rw [List.getElem?_append_left (by omega)]; exact h2
  have hlim := h4.lim
  refine rets_enter Try.func122 rfl Try.ntmps122 (by simp) ?_
  refine WT_seq ?_
  refine WT_region ?_
  refine WL_v rfl (ov_assign rfl) ?_
  refine WL_nil ?_
  refine WT_seq ?_
  refine WT_seq ?_
  refine WT_region ?_
  refine WL_v rfl (ov_move rfl) ?_
  refine WL_v rfl (ov_nilCheck rfl) ?_
  refine WL_v rfl (ov_field rfl fo_impl_planNode_1) ?_
  refine WL_v rfl (ov_load rfl one_sl_p_impl_planNode (hH.cb (3 * i) hb1 1)) ?_
  refine WL_v rfl (ov_len rfl h4.sl st_sl_p_impl_planNode) ?_
  refine WL_v rfl (ov_move rfl) ?_
  refine WL_nil ?_
  refine WT_block ?_
  refine WT_while (fun s : Nat => [(1, ptr (g f)), (10, nv), (11, .int .i64 ((N i).length : Int)), (12, .int .i64 (s : Int))]) (fun k w => k ≤ (N i).length ∧ (∀ j (_ : j < k) (hjr : j < (N i).length), (N i)[j] ≠ f) ∧ H w h (Gs ++ Ls)) (fun k => (N i).length - k) 0 (by repeat (first | exact trivial | refine ⟨rfl, ?_⟩)) ⟨by omega, by omega, hH⟩ ?_
  clear hH
  rintro k w1 ⟨hk, hall, hH⟩ again
  refine WT_seq ?_
  refine WT_region ?_
  refine WL_v rfl (ov_lss rfl rfl) ?_
  refine WL_nil ?_
  refine WT_seq ?_
  refine WT_cond rfl (fun hc => ?_) (fun hc => ?_)
  · skip
    first | with_reducible replace hc := of_decide_eq_true hc | with_reducible replace hc := bn_T hc | with_reducible replace hc := bb_T hc | skip
    have hkr : k < (N i).length := by omega
    have hbk := hG.bn i hi _ (List.getElem_mem hkr)
    obtain ⟨c1, q1⟩ := hG.heap hH hbk
    obtain ⟨c2, q2⟩ := hG.heap hH hf
    have hcell : w1.cell? ((slA nv).add (k * 1)) = some (ptr (g (N i)[k])) := by rw [Nat.mul_one]; exact h4.cell hH hb2 (by simp [hkr])
    refine WT_skip ?_
    refine WT_seq ?_
    refine WT_block ?_
    refine WT_seq ?_
    refine WT_region ?_
    refine WL_v rfl (ov_index rfl rfl st_sl_p_impl_planNode h4.sl hkr) ?_
    refine WL_v rfl (ov_load rfl one_p_impl_planNode (hcell)) ?_
    refine WL_v rfl (ov_assign rfl) ?_
    refine WL_nil ?_
    refine WT_seq ?_
    refine WT_region ?_
    refine WL_v rfl (ov_move rfl) ?_
    refine WL_v rfl (ov_move rfl) ?_
    refine WL_v rfl (ov_eqlPtr rfl rfl ptr_planNode q1 q2) ?_
    refine WL_nil ?_
    refine WT_cond rfl (fun he => ?_) (fun he => ?_)
    · skip
      first | with_reducible replace he := of_decide_eq_true he | with_reducible replace he := bn_T he | with_reducible replace he := bb_T he | skip
      have he' : (N i)[k] = f := hG.inj hH hbk hf (by simpa using he)
      refine WT_seq ?_
      refine WT_region ?_
      refine WL_v rfl (ov_assign rfl) ?_
      refine WL_nil ?_
      exact WT_ret1 Try.func122 Try.results122 rfl ⟨congrArg Value.bool (decide_eq_true (he' ▸ List.getElem_mem hkr)).symm, hH⟩
    first | with_reducible replace he := of_decide_eq_false he | with_reducible replace he := bn_F he | with_reducible replace he := bb_F he | skip
    refine WT_skip ?_
    refine WT_inBlock ?_
    refine WT_region ?_
    refine WL_v rfl (ov_add rfl rfl (by omega)) ?_
    refine WL_v rfl (ov_move rfl) ?_
    refine WL_nil ?_
    refine again (k + 1) _ _ (by omega) (by repeat (first | exact trivial | refine ⟨rfl, ?_⟩)) ⟨by omega, fun j hj hjr => ?_, hH⟩
    rcases Nat.lt_or_ge j k with h1 | h1
    · exact hall j h1 hjr
    · obtain rfl : j = k := by omega
      exact fun hh => he (by rw [hh])
  first | with_reducible replace hc := of_decide_eq_false hc | with_reducible replace hc := bn_F hc | with_reducible replace hc := bb_F hc | skip
  obtain rfl : k = (N i).length := by omega
  refine WT_exit rfl ?_
  refine WT_seq ?_
  refine WT_region ?_
  refine WL_v rfl (ov_assign rfl) ?_
  refine WL_nil ?_
  exact WT_ret1 Try.func122 Try.results122 rfl ⟨congrArg Value.bool (decide_eq_false (fun hm => by obtain ⟨j, hj, he⟩ := List.mem_iff_getElem.1 hm; exact hall j hj hj he)).symm, hH⟩

theorem run_bs_ptr (a : Nat) (W : World) : (Instr.buildSlice 97 1 #[(0, ptr a)]).run Try.prog W = .ok (.slice (some ⟨W.heap.size, 0, none⟩) 1 1) (W.alloc (.cells [ptr a].toArray 102)) := by kernel_rfl

theorem link_ok {Gs : List Heaplet} {g : Nat → Nat} {N U : Nat → List Nat} {m i f : Nat} (hG : Gr Gs g N U m) (hH : H w h (Gs ++ Ls)) (hi : i < m) (hf : f < m) (hNl : (N i).length ≤ 1000) (hUl : (U f).length ≤ 1000) :
    Rets Try.prog 111 #[ptr (g i), ptr (g f)] w fun _ w' => ∃ Gs', Gr Gs' g (fun a => if a = i then addN (N i) f else N a) (fun a => if a = f ∧ ¬ f ∈ N i then U f ++ [i] else U a) m ∧ H w' h (Gs' ++ Ls) := by
  refine rets_enter Try.func111 rfl Try.ntmps111 (by simp) ?_
  refine WT_seq ?_
  refine WT_seq ?_
  refine WT_region ?_
  refine WL_v rfl (ov_move rfl) ?_
  refine WL_v rfl (ov_move rfl) ?_
  refine WL_call rfl rfl cf_p_impl_planNode_needsAlready (needsAlready_ok hG hH hi hf) ?_; rintro _ w1 ⟨rfl, hH1⟩
  refine WL_nil ?_
  clear hH
  refine WT_cond rfl (fun hn => ?_) (fun hn => ?_)
  · skip
    first | with_reducible replace hn := of_decide_eq_true hn | with_reducible replace hn := bn_T hn | with_reducible replace hn := bb_T hn | skip
    exact WT_ret0 Try.func111 Try.results111 ⟨Gs, hG.congr (fun a _ => by by_cases ha : a = i <;> simp [ha, addN, hn]) (fun a _ => by simp [hn]), hH1⟩
  first | with_reducible replace hn := of_decide_eq_false hn | with_reducible replace hn := bn_F hn | with_reducible replace hn := bb_F hn | skip
  have hlen := hG.len
  obtain ⟨nv, uv, NX, UX, h1, h2, h3, h4, h5⟩ := hG.node i hi
  have hb1 : (Gs ++ Ls)[3 * i]? = some [(g i, .cells #[.int .i64 (i : Int), nv, uv] 101 (0, 0))] := by rw [List.getElem?_append_left (by omega)]; exact h1
  have hb2 : (Gs ++ Ls)[3 * i + 1]? = some NX := by rw [List.getElem?_append_left (by omega)]; exact h2
  refine WT_skip ?_
  refine WT_seq ?_
  refine WT_region ?_
  refine WL_v rfl (ov_move rfl) ?_
  refine WL_v rfl (ov_move rfl) ?_
  refine WL_v rfl (ov_nilCheck rfl) ?_
  refine WL_v rfl (ov_field rfl fo_impl_planNode_1) ?_
  refine WL_v rfl (ov_load rfl one_sl_p_impl_planNode (hH1.cb (3 * i) hb1 1)) ?_
  refine WL_v rfl (ov_move rfl) ?_
  refine WL_buildSlice (sz := 1) [ptr (g f)] rfl hH1 rfl (run_bs_ptr _) rfl (by omega) ?_; rintro Y yv w2 hY hH2
  refine WL_append1 (i := 3 * i + 1 + 1) (j := 0) rfl hH2 rfl rfl st_sl_p_impl_planNode (by omega) hb2 h4 rfl hY (ones_cons rfl ones_nil) (by omega) (by omega) ?_; rintro X2 nv2 w3 hX2 hH3
  refine WL_v rfl (ov_nilCheck rfl) ?_
  refine WL_v rfl (ov_field rfl fo_impl_planNode_1) ?_
  have hH4 : H w3 h ((Gs ++ Ls).set (3 * i + 1) X2) := hH3.drop
  clear hH1 hH2 hH3
  have hb3 : ((Gs ++ Ls).set (3 * i + 1) X2)[3 * i]? = some [(g i, .cells #[.int .i64 (i : Int), nv, uv] 101 (0, 0))] := by rw [List.getElem?_set, if_neg (by omega)]; exact hb1
  refine WL_store hH4 rfl rfl (i := 3 * i) (off := 1) hb3 rfl (by simp) hX2.sl.one sz_sl_p_impl_planNode ?_; rintro w4 hH5
  refine WL_nil ?_
  refine WT_region ?_
  refine WL_v rfl (ov_move rfl) ?_
  refine WL_v rfl (ov_move rfl) ?_
  refine WL_v rfl (ov_nilCheck rfl) ?_
  refine WL_v rfl (ov_field rfl fo_impl_planNode_2) ?_
  have hH6 : H w4 h (((Gs.set (3 * i + 1) X2).set (3 * i) [(g i, .cells #[.int .i64 (i : Int), nv2, uv] 101 (0, 0))]) ++ Ls) := by
    rw [List.set_append_left _ _ (by omega), List.set_append_left _ _ (by simp; omega)] at hH5
    exact hH5
  clear hH4 hH5
  have hG2 := hG.setN hi h1 (l := N i ++ [f]) (fun j hj => by
    rcases List.mem_append.1 hj with hj | hj
    · exact hG.bn i hi j hj
    · rw [List.mem_singleton.1 hj]; exact hf) (nv' := nv2) (X' := X2) (by simpa using hX2)
  generalize ((Gs.set (3 * i + 1) X2).set (3 * i) [(g i, .cells #[.int .i64 (i : Int), nv2, uv] 101 (0, 0))]) = Gs2 at hG2 hH6
  clear h1 h2 h3 h4 h5 hb1 hb2 hb3
  have hlen2 := hG2.len
  obtain ⟨nvf, uvf, NXf, UXf, h1, h2, h3, h4, h5⟩ := hG2.node f hf
  have hb1 : (Gs2 ++ Ls)[3 * f]? = some [(g f, .cells #[.int .i64 (f : Int), nvf, uvf] 101 (0, 0))] := by rw [List.getElem?_append_left (by omega)]; exact h1
  have hb2 : (Gs2 ++ Ls)[3 * f + 2]? = some UXf := by rw [List.getElem?_append_left (by omega)]; exact h3
  refine WL_v rfl (ov_load rfl one_sl_p_impl_planNode (hH6.cb (3 * f) hb1 2)) ?_
  refine WL_v rfl (ov_move rfl) ?_
  refine WL_buildSlice (sz := 1) [ptr (g i)] rfl hH6 rfl (run_bs_ptr _) rfl (by omega) ?_; rintro Y5 yv5 w5 hY5 hH7
  refine WL_append1 (i := 3 * f + 2 + 1) (j := 0) rfl hH7 rfl rfl st_sl_p_impl_planNode (by omega) hb2 h5 rfl hY5 (ones_cons rfl ones_nil) (by omega) (by omega) ?_; rintro X6 uv6 w6 hX6 hH8
  refine WL_v rfl (ov_nilCheck rfl) ?_
  refine WL_v rfl (ov_field rfl fo_impl_planNode_2) ?_
  have hH9 : H w6 h ((Gs2 ++ Ls).set (3 * f + 2) X6) := hH8.drop
  clear hH6 hH7 hH8
  have hb3 : ((Gs2 ++ Ls).set (3 * f + 2) X6)[3 * f]? = some [(g f, .cells #[.int .i64 (f : Int), nvf, uvf] 101 (0, 0))] := by rw [List.getElem?_set, if_neg (by omega)]; exact hb1
  refine WL_store hH9 rfl rfl (i := 3 * f) (off := 2) hb3 rfl (by simp) hX6.sl.one sz_sl_p_impl_planNode ?_; rintro w7 hH10
  refine WL_nil ?_
  have hH11 : H w7 h (((Gs2.set (3 * f + 2) X6).set (3 * f) [(g f, .cells #[.int .i64 (f : Int), nvf, uv6] 101 (0, 0))]) ++ Ls) := by
    rw [List.set_append_left _ _ (by omega), List.set_append_left _ _ (by simp; omega)] at hH10
    exact hH10
  have hG3 := hG2.setU hf h1 (l := U f ++ [i]) (fun j hj => by
    rcases List.mem_append.1 hj with hj | hj
    · exact hG2.bu f hf j hj
    · rw [List.mem_singleton.1 hj]; exact hi) (uv' := uv6) (X' := X6) (by simpa using hX6)
  exact WT_end0 Try.func111 Try.results111 ⟨_, hG3.congr (fun a _ => by by_cases ha : a = i <;> simp [ha, addN, hn]) (fun a _ => by by_cases ha : a = f <;> simp [ha, hn]), hH11⟩
end
end Go.Proofs.Ytmcedghgincaaaa
