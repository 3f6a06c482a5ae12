/- The laws CrewNewLeft and CrewNew: their walks. -/
import Derived.Test.YteagnhdhafiofaaBf6
namespace Go.Proofs.Yteagnhdhafiofaa
open Go.RowKit

section
variable {h : GH} {Ls : List Heaplet} {w : World}

theorem RdL.mono {h' : GH} {v : Value} {xs : List Int} (hA : RdL h Ls v xs) (hle : h.Le h') : RdL h' Ls v xs := ⟨hA.sl, fun hH _ hj => hA.cell (hH.weak hle) hj⟩
theorem RdLL.mono {h' : GH} {v : Value} {ls : List (List Int)} (hA : RdLL h Ls v ls) (hle : h.Le h') : RdLL h' Ls v ls := ⟨hA.sl, fun hi => by
  obtain ⟨u, h1, h2⟩ := hA.at_ hi
  exact ⟨u, h1.mono hle, fun hH => h2 (hH.weak hle)⟩⟩
theorem RdCr.mono {h' : GH} {dv cv nv rv : Value} {c : Cr} (hC : RdCr h Ls dv cv nv rv c) (hle : h.Le h') : RdCr h' Ls dv cv nv rv c := ⟨hC.dq.mono hle, hC.ct.mono hle, hC.dn.mono hle, hC.rw.mono hle⟩
theorem RdCr.nils (h : GH) (Ls : List Heaplet) : RdCr h Ls nilV nilV nilV nilV ⟨[], [], [], []⟩ :=
  ⟨⟨⟨by simp, none, 0, rfl, by simp, by simp, by simp⟩, fun hi => by simp at hi⟩, (Ints.nil h).rdl _, (Ints.nil h).rdl _, ⟨⟨by simp, none, 0, rfl, by simp, by simp, by simp⟩, fun hi => by simp at hi⟩⟩
theorem OCr.freezeN {C N D R : Heaplet} {Ds Rs : List Heaplet} {dv cv nv rv : Value} {c : Cr} (hO : OCr C N D R Ds Rs dv cv nv rv c) (hH : H w h (C :: N :: D :: R :: (Ds ++ (Rs ++ Ls)))) :
    ∃ h', h.Le h' ∧ H w h' Ls ∧ ∀ Ms, RdCr h' Ms dv cv nv rv c := by
  have hH' : H w h ((C :: N :: D :: R :: (Ds ++ Rs)).flatten :: Ls) := by simpa [H] using hH
  obtain ⟨h', hle, hH2, hX2, _, _⟩ := hH'.freeze
  have hb : ∀ X ∈ C :: N :: D :: R :: (Ds ++ Rs), ∀ q ∈ X, h'.blk q.1 = some q.2 := fun X hX q hq => (hX2 q (List.mem_flatten.2 ⟨X, hX, hq⟩)).1
  refine ⟨h', hle, hH2, fun Ms => ⟨(hO.dq.lists fun q hq => ?_).rdll Ms, (hO.ct.ints (hb C (by simp))).rdl Ms, (hO.dn.ints (hb N (by simp))).rdl Ms, (hO.rw.lists fun q hq => ?_).rdll Ms⟩⟩
  · obtain ⟨X, hX, hqX⟩ := List.mem_flatten.1 hq
    refine hb X ?_ q hqX
    rcases List.mem_cons.1 hX with rfl | hX
    · simp
    · simp [hX]
  · obtain ⟨X, hX, hqX⟩ := List.mem_flatten.1 hq
    refine hb X ?_ q hqX
    rcases List.mem_cons.1 hX with rfl | hX
    · simp
    · simp [hX]
theorem newCr_lim {p : List Nd} (hv : planOk p = true) {n : Nat} (hn : 1 ≤ n ∧ n ≤ 4) : CrLim (newCr p n) := by
  have h := (newCr_ok hv hn).small
  exact ⟨by have := h.dq; omega, by have := h.dd; omega, by have := h.ct; omega, by have := h.dn; omega, by have := h.rw; omega, fun i hi => by have := h.rr i hi; omega⟩
/-- A drawn plan and a number of workers. -/
def DrewN (h : GH) (Ls : List Heaplet) (v : Value) (w' : World) : Prop := ∃ pv a, v = .tuple #[pv, .int .i64 a] ∧ -3 ≤ a ∧ a ≤ 4 ∧ Drew h Ls pv w'

theorem drawNew_ok (hH : H w h Ls) {cv : Value} {bs : List Int} (hB : Bytes h cv bs) : Rets Try.prog 5 #[cv] w (DrewN h Ls) := by
  refine rets_enter Try.func5 rfl Try.ntmps5 (by simp) ?_
  refine WT_seq ?_
  refine WT_region ?_
  refine WL_v rfl (ov_assign rfl) ?_
  refine WL_v rfl (ov_assign rfl) ?_
  refine WL_nil ?_
  refine WT_seq ?_
  refine WT_region ?_
  refine WL_v rfl (ov_move rfl) ?_
  refine WL_call rfl rfl cf_spec_l6Open (l6Open_ok hH hB) ?_; rintro _ w1 ⟨g, bv, bs', rfl, hB', hH1⟩
  refine WL_v rfl (ov_assign rfl) ?_
  refine WL_nil ?_
  refine WT_seq ?_
  refine WT_region ?_
  refine WL_v rfl (ov_move rfl) ?_
  refine WL_call rfl rfl cf_spec_l91Plan (l91Plan_ok hH1 hB' (by omega)) ?_; rintro pv w2 ⟨p, O, Is, p', hO, hl, hp', hH2⟩
  refine WL_v rfl (ov_assign rfl) ?_
  refine WL_nil ?_
  refine WT_seq ?_
  refine WT_region ?_
  refine WL_v rfl (ov_move rfl) ?_
  refine WL_v rfl (ov_move rfl) ?_
  refine WL_call rfl rfl cf_p_spec_l6Rd_pick (pick_ok hH2 hB' (by omega) 4) ?_; rintro _ w3 ⟨r1, rfl, hr1, hH3⟩
  refine WL_v rfl (ov_add rfl rfl (by have := hr1.1 (by omega); omega)) ?_
  refine WL_v rfl (ov_move rfl) ?_
  refine WL_call rfl rfl cf_p_spec_l6Rd_pick (pick_ok hH3 hB' (by omega) 20) ?_; rintro _ w4 ⟨r2, rfl, hr2, hH4⟩
  have hr14 := hr1.1 (by omega)
  have hr24 := hr2.1 (by omega)
  refine WL_v rfl (ov_quo rfl rfl (by omega) (by omega) (by omega)) ?_
  refine WL_v rfl (ov_mul rfl rfl (by omega)) ?_
  refine WL_v rfl (ov_sub rfl rfl (by omega)) ?_
  refine WL_v rfl (ov_assign rfl) ?_
  refine WL_v rfl (ov_assign rfl) ?_
  refine WL_nil ?_
  exact WT_ret2 Try.func5 Try.results5 rfl rfl ⟨pv, _, rfl, by omega, by omega, drew_of hO hl hH4⟩

theorem fnCrewNewLeft_walk (hH : H w h Ls) {xv : Value} {bs : List Int} (hB : Bytes h xv bs) : Rets Try.prog 3 #[xv] w fun v w' => v = .bool true ∧ H w' h Ls := by
  refine rets_enter Try.func3 rfl Try.ntmps3 (by simp) ?_
  refine WT_seq ?_
  refine WT_region ?_
  refine WL_v rfl (ov_assign rfl) ?_
  refine WL_nil ?_
  refine WT_seq ?_
  refine WT_seq ?_
  refine WT_region ?_
  refine WL_v rfl (ov_move rfl) ?_
  refine WL_v rfl (ov_len rfl hB.sl st_sl_uint8) ?_
  refine WL_v rfl (ov_gtr rfl rfl) ?_
  refine WL_nil ?_
  refine WT_cond rfl (fun hl => ?_) (fun hl => ?_)
  · skip
    first | with_reducible replace hl := of_decide_eq_true hl | with_reducible replace hl := bn_T hl | with_reducible replace hl := bb_T hl | skip
    refine WT_seq ?_
    refine WT_region ?_
    refine WL_v rfl (ov_assign rfl) ?_
    refine WL_nil ?_
    exact WT_ret1 Try.func3 Try.results3 rfl ⟨rfl, hH⟩
  first | with_reducible replace hl := of_decide_eq_false hl | with_reducible replace hl := bn_F hl | with_reducible replace hl := bb_F hl | skip
  refine WT_skip ?_
  refine WT_seq ?_
  refine WT_region ?_
  refine WL_v rfl (ov_move rfl) ?_
  refine WL_call rfl rfl cf_spec_DrawCrewNew (drawNew_ok hH hB) ?_; rintro _ w1 ⟨pv, a, rfl, ha1, ha2, h', p, hle, hP, hpl, hH1⟩
  refine WL_v rfl (ov_move rfl) ?_
  refine WL_v rfl (ov_extract rfl rfl) ?_
  refine WL_v rfl (ov_extract rfl rfl) ?_
  refine WL_v rfl (ov_assign rfl) ?_
  refine WL_v rfl (ov_assign rfl) ?_
  refine WL_nil ?_
  refine WT_seq ?_
  refine WT_region ?_
  refine WL_v rfl (ov_move rfl) ?_
  refine WL_v rfl (ov_move rfl) ?_
  clear hH
  by_cases hb : planOk p = true ∧ 1 ≤ a ∧ a ≤ 4
  case neg =>
    refine WL_call rfl rfl cf_impl_CrewNew (crewNew_no hH1 hP hb) ?_; rintro _ w2 ⟨rfl, hH2⟩
    refine WL_v rfl (ov_move rfl) ?_
    refine WL_v rfl (ov_extract rfl rfl) ?_
    refine WL_v rfl (ov_extract rfl rfl) ?_
    refine WL_alloc _ rfl hH2 zero_crew rfl ?_; rintro g5 w3 hH3
    refine WL_storeN hH3 rfl rfl (i := 0) rfl rfl rfl (ones_cons rfl (ones_cons rfl (ones_cons rfl (ones_cons rfl ones_nil)))) sz_impl_Crew ?_; rintro w4 hH4
    refine WL_v rfl (ov_assign rfl) ?_
    refine WL_nil ?_
    refine WT_seq ?_
    refine WT_region ?_
    refine WL_v rfl (ov_move rfl) ?_
    refine WL_v rfl (ov_move rfl) ?_
    refine WL_call rfl rfl cf_spec_CrewNew (sCrewNew_no hH4 hP (by omega) hb) ?_; rintro _ w5 ⟨rfl, hH5⟩
    refine WL_v rfl (ov_move rfl) ?_
    refine WL_v rfl (ov_extract rfl rfl) ?_
    refine WL_v rfl (ov_extract rfl rfl) ?_
    refine WL_alloc _ rfl hH5 zero_crew rfl ?_; rintro g7 w6 hH6
    refine WL_storeN hH6 rfl rfl (i := 0) rfl rfl rfl (ones_cons rfl (ones_cons rfl (ones_cons rfl (ones_cons rfl ones_nil)))) sz_impl_Crew ?_; rintro w7 hH7
    refine WL_v rfl (ov_assign rfl) ?_
    refine WL_nil ?_
    refine WT_seq ?_
    refine WT_seq ?_
    refine WT_region ?_
    refine WL_v rfl (ov_move rfl) ?_
    refine WL_v rfl (ov_move rfl) ?_
    refine WL_v rfl (ov_F (ov_neqB rfl rfl Try.underlying4) (by simp)) ?_
    refine WL_v rfl (ov_move rfl) ?_
    refine WL_guardOn rfl rfl ?_
    refine WL_v rfl (ov_loadN [nilV, nilV, nilV, nilV] rfl agg_impl_Crew rfl ((loadCrew (i := 1) rfl hH7))) ?_
    refine WL_guardOn rfl rfl ?_
    refine WL_v rfl (ov_loadN [nilV, nilV, nilV, nilV] rfl agg_impl_Crew rfl ((loadCrew (i := 0) rfl hH7))) ?_
    refine WL_guardOn rfl rfl ?_
    refine WL_call rfl rfl cf_laws_sameCrew (sameCrew_same hH7 (fun _ => RdCr.nils _ _) (fun _ => RdCr.nils _ _)) ?_; rintro _ w8 ⟨rfl, hH8⟩
    refine WL_guardOn rfl rfl ?_
    refine WL_v rfl (ov_F (ov_not rfl) (by first | exact decide_eq_false rfl | exact nb_F rfl | exact mb_F rfl | exact rfl | (simp only [decide_eq_false_iff_not]; omega) | simpa using rfl)) ?_
    refine WL_v rfl (ov_pickF rfl rfl) ?_
    refine WL_v rfl (ov_move rfl) ?_
    refine WL_guardOn rfl rfl ?_
    refine WL_v rfl (ov_move rfl) ?_
    refine WL_guardOn rfl rfl ?_
    refine WL_v rfl (ov_T (ov_not rfl) (by first | exact decide_eq_true rfl | exact nb_T rfl | exact mb_T rfl | exact rfl | (simp only [decide_eq_true_eq]; omega) | simpa using rfl)) ?_
    refine WL_v rfl (ov_pickF rfl rfl) ?_
    refine WL_nil ?_
    refine WT_condT rfl ?_
    refine WT_seq ?_
    refine WT_region ?_
    refine WL_v rfl (ov_move rfl) ?_
    refine WL_v rfl (ov_move rfl) ?_
    refine WL_v rfl (ov_T (ov_eqlB rfl rfl Try.underlying4) (by simp)) ?_
    refine WL_v rfl (ov_move rfl) ?_
    refine WL_guardOn rfl rfl ?_
    refine WL_v rfl (ov_loadN [nilV, nilV, nilV, nilV] rfl agg_impl_Crew rfl ((loadCrew (i := 1) rfl hH8))) ?_
    refine WL_guardOn rfl rfl ?_
    refine WL_v rfl (ov_loadN [nilV, nilV, nilV, nilV] rfl agg_impl_Crew rfl ((loadCrew (i := 0) rfl hH8))) ?_
    refine WL_guardOn rfl rfl ?_
    refine WL_call rfl rfl cf_laws_sameCrew (sameCrew_same hH8 (fun _ => RdCr.nils _ _) (fun _ => RdCr.nils _ _)) ?_; rintro _ w9 ⟨rfl, hH9⟩
    refine WL_v rfl (ov_pickT rfl rfl) ?_
    refine WL_v rfl (ov_assign rfl) ?_
    refine WL_nil ?_
    exact WT_ret1 Try.func3 Try.results3 rfl ⟨rfl, hH9.drop.drop.weak hle⟩
  obtain ⟨hv, ha3, ha4⟩ := hb
  obtain ⟨n, rfl⟩ : ∃ n : Nat, a = (n : Int) := ⟨a.toNat, by omega⟩
  have hn : 1 ≤ n ∧ n ≤ 4 := by omega
  have hok := newCr_ok hv hn
  have hlim := newCr_lim hv hn
  have hcl : crewLeft p (newCr p n) = (p.length : Int) := by
    rw [crewLeft, if_pos ((crewOk_iff _ _).2 hok)]
    simp [newCr]
  refine WL_call rfl rfl cf_impl_CrewNew (crewNew_yes hH1 hP hv hn) ?_; rintro _ w2 ⟨dv, cv, nv, rv, rfl, C, N, D, R, Ds, Rs, hO, hH2⟩; obtain ⟨h1, hle1, hH3, hR1⟩ := hO.freezeN hH2
  refine WL_v rfl (ov_move rfl) ?_
  refine WL_v rfl (ov_extract rfl rfl) ?_
  refine WL_v rfl (ov_extract rfl rfl) ?_
  refine WL_alloc _ rfl hH3 zero_crew rfl ?_; rintro g5 w3 hH4
  refine WL_storeN hH4 rfl rfl (i := 0) rfl rfl rfl (ones_cons (hR1 []).dq.sl.one (ones_cons (hR1 []).ct.sl.one (ones_cons (hR1 []).dn.sl.one (ones_cons (hR1 []).rw.sl.one ones_nil)))) sz_impl_Crew ?_; rintro w4 hH5
  refine WL_v rfl (ov_assign rfl) ?_
  refine WL_nil ?_
  refine WT_seq ?_
  refine WT_region ?_
  refine WL_v rfl (ov_move rfl) ?_
  refine WL_v rfl (ov_move rfl) ?_
  refine WL_call rfl rfl cf_spec_CrewNew (sCrewNew_yes hH5 (hP.mono hle1) hv hn) ?_; rintro _ w5 ⟨dv2, cv2, nv2, rv2, rfl, C2, N2, D2, R2, Ds2, Rs2, hO2, hH6⟩; obtain ⟨h2, hle2, hH7, hR2⟩ := hO2.freezeN hH6
  refine WL_v rfl (ov_move rfl) ?_
  refine WL_v rfl (ov_extract rfl rfl) ?_
  refine WL_v rfl (ov_extract rfl rfl) ?_
  refine WL_alloc _ rfl hH7 zero_crew rfl ?_; rintro g7 w6 hH8
  refine WL_storeN hH8 rfl rfl (i := 0) rfl rfl rfl (ones_cons (hR2 []).dq.sl.one (ones_cons (hR2 []).ct.sl.one (ones_cons (hR2 []).dn.sl.one (ones_cons (hR2 []).rw.sl.one ones_nil)))) sz_impl_Crew ?_; rintro w7 hH9
  refine WL_v rfl (ov_assign rfl) ?_
  refine WL_nil ?_
  refine WT_seq ?_
  refine WT_seq ?_
  refine WT_region ?_
  refine WL_v rfl (ov_move rfl) ?_
  refine WL_v rfl (ov_move rfl) ?_
  refine WL_v rfl (ov_F (ov_neqB rfl rfl Try.underlying4) (by simp)) ?_
  refine WL_v rfl (ov_move rfl) ?_
  refine WL_guardOn rfl rfl ?_
  refine WL_v rfl (ov_loadN [dv, cv, nv, rv] rfl agg_impl_Crew rfl ((loadCrew (i := 1) rfl hH9))) ?_
  refine WL_guardOn rfl rfl ?_
  refine WL_v rfl (ov_loadN [dv2, cv2, nv2, rv2] rfl agg_impl_Crew rfl ((loadCrew (i := 0) rfl hH9))) ?_
  refine WL_guardOn rfl rfl ?_
  refine WL_call rfl rfl cf_laws_sameCrew (sameCrew_same hH9 (fun Ms => (hR1 _).mono hle2) (fun Ms => hR2 _)) ?_; rintro _ w8 ⟨rfl, hH10⟩
  refine WL_guardOn rfl rfl ?_
  refine WL_v rfl (ov_F (ov_not rfl) (by first | exact decide_eq_false rfl | exact nb_F rfl | exact mb_F rfl | exact rfl | (simp only [decide_eq_false_iff_not]; omega) | simpa using rfl)) ?_
  refine WL_v rfl (ov_pickF rfl rfl) ?_
  refine WL_v rfl (ov_move rfl) ?_
  refine WL_guardOn rfl rfl ?_
  refine WL_v rfl (ov_move rfl) ?_
  refine WL_guardOn rfl rfl ?_
  refine WL_v rfl (ov_F (ov_not rfl) (by first | exact decide_eq_false rfl | exact nb_F rfl | exact mb_F rfl | exact rfl | (simp only [decide_eq_false_iff_not]; omega) | simpa using rfl)) ?_
  refine WL_v rfl (ov_pickF rfl rfl) ?_
  refine WL_nil ?_
  refine WT_condF rfl ?_
  have hcle := crewLeft_ok hH10 ((hP.mono hle1).mono hle2) hlim ((hR1 _).mono hle2)
  rw [hcl] at hcle
  refine WT_skip ?_
  refine WT_seq ?_
  refine WT_region ?_
  refine WL_v rfl (ov_move rfl) ?_
  refine WL_v rfl (ov_loadN [dv, cv, nv, rv] rfl agg_impl_Crew rfl ((loadCrew (i := 1) rfl hH10))) ?_
  refine WL_call rfl rfl cf_impl_CrewLeft (hcle) ?_; rintro _ w9 ⟨rfl, hH11⟩
  refine WL_v rfl (ov_move rfl) ?_
  refine WL_v rfl (ov_len rfl hP.sl st_sl_impl_Node) ?_
  refine WL_v rfl (ov_T (ov_eql rfl rfl) (by first | exact decide_eq_true rfl | exact nb_T rfl | exact mb_T rfl | exact rfl | (simp only [decide_eq_true_eq]; omega) | simpa using rfl)) ?_
  refine WL_v rfl (ov_assign rfl) ?_
  refine WL_nil ?_
  exact WT_ret1 Try.func3 Try.results3 rfl ⟨rfl, hH11.drop.drop.weak (hle.trans (hle1.trans hle2))⟩

set_option maxHeartbeats 1000000 in
theorem fnCrewNew_walk (hH : H w h Ls) {xv : Value} {bs : List Int} (hB : Bytes h xv bs) : Rets Try.prog 4 #[xv] w fun v w' => v = .bool true ∧ H w' h Ls := by
  refine rets_enter Try.func4 rfl Try.ntmps4 (by simp) ?_
  refine WT_seq ?_
  refine WT_region ?_
  refine WL_v rfl (ov_assign rfl) ?_
  refine WL_nil ?_
  refine WT_seq ?_
  refine WT_seq ?_
  refine WT_region ?_
  refine WL_v rfl (ov_move rfl) ?_
  refine WL_v rfl (ov_len rfl hB.sl st_sl_uint8) ?_
  refine WL_v rfl (ov_gtr rfl rfl) ?_
  refine WL_nil ?_
  refine WT_cond rfl (fun hl => ?_) (fun hl => ?_)
  · skip
    first | with_reducible replace hl := of_decide_eq_true hl | with_reducible replace hl := bn_T hl | with_reducible replace hl := bb_T hl | skip
    refine WT_seq ?_
    refine WT_region ?_
    refine WL_v rfl (ov_assign rfl) ?_
    refine WL_nil ?_
    exact WT_ret1 Try.func4 Try.results4 rfl ⟨rfl, hH⟩
  first | with_reducible replace hl := of_decide_eq_false hl | with_reducible replace hl := bn_F hl | with_reducible replace hl := bb_F hl | skip
  refine WT_skip ?_
  refine WT_seq ?_
  refine WT_region ?_
  refine WL_v rfl (ov_move rfl) ?_
  refine WL_call rfl rfl cf_spec_DrawCrewNew (drawNew_ok hH hB) ?_; rintro _ w1 ⟨pv, a, rfl, ha1, ha2, h', p, hle, hP, hpl, hH1⟩
  refine WL_v rfl (ov_move rfl) ?_
  refine WL_v rfl (ov_extract rfl rfl) ?_
  refine WL_v rfl (ov_extract rfl rfl) ?_
  refine WL_v rfl (ov_assign rfl) ?_
  refine WL_v rfl (ov_assign rfl) ?_
  refine WL_nil ?_
  refine WT_seq ?_
  refine WT_region ?_
  refine WL_v rfl (ov_move rfl) ?_
  refine WL_v rfl (ov_move rfl) ?_
  clear hH
  by_cases hb : planOk p = true ∧ 1 ≤ a ∧ a ≤ 4
  case neg =>
    refine WL_call rfl rfl cf_impl_CrewNew (crewNew_no hH1 hP hb) ?_; rintro _ w2 ⟨rfl, hH2⟩
    refine WL_v rfl (ov_move rfl) ?_
    refine WL_v rfl (ov_extract rfl rfl) ?_
    refine WL_v rfl (ov_extract rfl rfl) ?_
    refine WL_alloc _ rfl hH2 zero_crew rfl ?_; rintro g5 w3 hH3
    refine WL_storeN hH3 rfl rfl (i := 0) rfl rfl rfl (ones_cons rfl (ones_cons rfl (ones_cons rfl (ones_cons rfl ones_nil)))) sz_impl_Crew ?_; rintro w4 hH4
    refine WL_v rfl (ov_assign rfl) ?_
    refine WL_nil ?_
    refine WT_seq ?_
    refine WT_region ?_
    refine WL_v rfl (ov_move rfl) ?_
    refine WL_v rfl (ov_move rfl) ?_
    refine WL_call rfl rfl cf_spec_CrewNew (sCrewNew_no hH4 hP (by omega) hb) ?_; rintro _ w5 ⟨rfl, hH5⟩
    refine WL_v rfl (ov_move rfl) ?_
    refine WL_v rfl (ov_extract rfl rfl) ?_
    refine WL_v rfl (ov_extract rfl rfl) ?_
    refine WL_alloc _ rfl hH5 zero_crew rfl ?_; rintro g7 w6 hH6
    refine WL_storeN hH6 rfl rfl (i := 0) rfl rfl rfl (ones_cons rfl (ones_cons rfl (ones_cons rfl (ones_cons rfl ones_nil)))) sz_impl_Crew ?_; rintro w7 hH7
    refine WL_v rfl (ov_assign rfl) ?_
    refine WL_nil ?_
    refine WT_seq ?_
    refine WT_seq ?_
    refine WT_region ?_
    refine WL_v rfl (ov_move rfl) ?_
    refine WL_v rfl (ov_move rfl) ?_
    refine WL_v rfl (ov_F (ov_neqB rfl rfl Try.underlying4) (by simp)) ?_
    refine WL_v rfl (ov_move rfl) ?_
    refine WL_guardOn rfl rfl ?_
    refine WL_v rfl (ov_loadN [nilV, nilV, nilV, nilV] rfl agg_impl_Crew rfl ((loadCrew (i := 1) rfl hH7))) ?_
    refine WL_guardOn rfl rfl ?_
    refine WL_v rfl (ov_loadN [nilV, nilV, nilV, nilV] rfl agg_impl_Crew rfl ((loadCrew (i := 0) rfl hH7))) ?_
    refine WL_guardOn rfl rfl ?_
    refine WL_call rfl rfl cf_laws_sameCrew (sameCrew_same hH7 (fun _ => RdCr.nils _ _) (fun _ => RdCr.nils _ _)) ?_; rintro _ w8 ⟨rfl, hH8⟩
    refine WL_guardOn rfl rfl ?_
    refine WL_v rfl (ov_F (ov_not rfl) (by first | exact decide_eq_false rfl | exact nb_F rfl | exact mb_F rfl | exact rfl | (simp only [decide_eq_false_iff_not]; omega) | simpa using rfl)) ?_
    refine WL_v rfl (ov_pickF rfl rfl) ?_
    refine WL_v rfl (ov_move rfl) ?_
    refine WL_guardOn rfl rfl ?_
    refine WL_v rfl (ov_move rfl) ?_
    refine WL_guardOn rfl rfl ?_
    refine WL_v rfl (ov_T (ov_not rfl) (by first | exact decide_eq_true rfl | exact nb_T rfl | exact mb_T rfl | exact rfl | (simp only [decide_eq_true_eq]; omega) | simpa using rfl)) ?_
    refine WL_v rfl (ov_pickF rfl rfl) ?_
    refine WL_nil ?_
    refine WT_condT rfl ?_
    refine WT_seq ?_
    refine WT_region ?_
    refine WL_v rfl (ov_move rfl) ?_
    refine WL_v rfl (ov_move rfl) ?_
    refine WL_v rfl (ov_T (ov_eqlB rfl rfl Try.underlying4) (by simp)) ?_
    refine WL_v rfl (ov_move rfl) ?_
    refine WL_guardOn rfl rfl ?_
    refine WL_v rfl (ov_loadN [nilV, nilV, nilV, nilV] rfl agg_impl_Crew rfl ((loadCrew (i := 1) rfl hH8))) ?_
    refine WL_guardOn rfl rfl ?_
    refine WL_v rfl (ov_loadN [nilV, nilV, nilV, nilV] rfl agg_impl_Crew rfl ((loadCrew (i := 0) rfl hH8))) ?_
    refine WL_guardOn rfl rfl ?_
    refine WL_call rfl rfl cf_laws_sameCrew (sameCrew_same hH8 (fun _ => RdCr.nils _ _) (fun _ => RdCr.nils _ _)) ?_; rintro _ w9 ⟨rfl, hH9⟩
    refine WL_v rfl (ov_pickT rfl rfl) ?_
    refine WL_v rfl (ov_assign rfl) ?_
    refine WL_nil ?_
    exact WT_ret1 Try.func4 Try.results4 rfl ⟨rfl, hH9.drop.drop.weak hle⟩
  obtain ⟨hv, ha3, ha4⟩ := hb
  obtain ⟨n, rfl⟩ : ∃ n : Nat, a = (n : Int) := ⟨a.toNat, by omega⟩
  have hn : 1 ≤ n ∧ n ≤ 4 := by omega
  have hok := newCr_ok hv hn
  have hlim := newCr_lim hv hn
  have hrl := readyI_len_le p []
  have hdl : (newCr p n).dq.length = n := dealL_len _ _ _
  have hfl : (newCr p n).dq.flatten.Perm (readyI p []) := by
    have := deal_flat (L := readyI p []) (w := n) (by omega) (Nat.le_refl _)
    rwa [List.take_length] at this
  have hdn : (newCr p n).dn = [] := rfl
  have hcv := (crewOk_iff _ _).2 hok
  refine WL_call rfl rfl cf_impl_CrewNew (crewNew_yes hH1 hP hv hn) ?_; rintro _ w2 ⟨dv, cv, nv, rv, rfl, C, N, D, R, Ds, Rs, hO, hH2⟩; obtain ⟨h1, hle1, hH3, hR1⟩ := hO.freezeN hH2
  refine WL_v rfl (ov_move rfl) ?_
  refine WL_v rfl (ov_extract rfl rfl) ?_
  refine WL_v rfl (ov_extract rfl rfl) ?_
  refine WL_alloc _ rfl hH3 zero_crew rfl ?_; rintro g5 w3 hH4
  refine WL_storeN hH4 rfl rfl (i := 0) rfl rfl rfl (ones_cons (hR1 []).dq.sl.one (ones_cons (hR1 []).ct.sl.one (ones_cons (hR1 []).dn.sl.one (ones_cons (hR1 []).rw.sl.one ones_nil)))) sz_impl_Crew ?_; rintro w4 hH5
  refine WL_v rfl (ov_assign rfl) ?_
  refine WL_nil ?_
  refine WT_seq ?_
  refine WT_region ?_
  refine WL_v rfl (ov_move rfl) ?_
  refine WL_v rfl (ov_move rfl) ?_
  refine WL_call rfl rfl cf_spec_CrewNew (sCrewNew_yes hH5 (hP.mono hle1) hv hn) ?_; rintro _ w5 ⟨dv2, cv2, nv2, rv2, rfl, C2, N2, D2, R2, Ds2, Rs2, hO2, hH6⟩; obtain ⟨h2, hle2, hH7, hR2⟩ := hO2.freezeN hH6
  refine WL_v rfl (ov_move rfl) ?_
  refine WL_v rfl (ov_extract rfl rfl) ?_
  refine WL_v rfl (ov_extract rfl rfl) ?_
  refine WL_alloc _ rfl hH7 zero_crew rfl ?_; rintro g7 w6 hH8
  refine WL_storeN hH8 rfl rfl (i := 0) rfl rfl rfl (ones_cons (hR2 []).dq.sl.one (ones_cons (hR2 []).ct.sl.one (ones_cons (hR2 []).dn.sl.one (ones_cons (hR2 []).rw.sl.one ones_nil)))) sz_impl_Crew ?_; rintro w7 hH9
  refine WL_v rfl (ov_assign rfl) ?_
  refine WL_nil ?_
  refine WT_seq ?_
  refine WT_seq ?_
  refine WT_region ?_
  refine WL_v rfl (ov_move rfl) ?_
  refine WL_v rfl (ov_move rfl) ?_
  refine WL_v rfl (ov_F (ov_neqB rfl rfl Try.underlying4) (by simp)) ?_
  refine WL_v rfl (ov_move rfl) ?_
  refine WL_guardOn rfl rfl ?_
  refine WL_v rfl (ov_loadN [dv, cv, nv, rv] rfl agg_impl_Crew rfl ((loadCrew (i := 1) rfl hH9))) ?_
  refine WL_guardOn rfl rfl ?_
  refine WL_v rfl (ov_loadN [dv2, cv2, nv2, rv2] rfl agg_impl_Crew rfl ((loadCrew (i := 0) rfl hH9))) ?_
  refine WL_guardOn rfl rfl ?_
  refine WL_call rfl rfl cf_laws_sameCrew (sameCrew_same hH9 (fun Ms => (hR1 _).mono hle2) (fun Ms => hR2 _)) ?_; rintro _ w8 ⟨rfl, hH10⟩
  refine WL_guardOn rfl rfl ?_
  refine WL_v rfl (ov_F (ov_not rfl) (by first | exact decide_eq_false rfl | exact nb_F rfl | exact mb_F rfl | exact rfl | (simp only [decide_eq_false_iff_not]; omega) | simpa using rfl)) ?_
  refine WL_v rfl (ov_pickF rfl rfl) ?_
  refine WL_v rfl (ov_move rfl) ?_
  refine WL_guardOn rfl rfl ?_
  refine WL_v rfl (ov_move rfl) ?_
  refine WL_guardOn rfl rfl ?_
  refine WL_v rfl (ov_F (ov_not rfl) (by first | exact decide_eq_false rfl | exact nb_F rfl | exact mb_F rfl | exact rfl | (simp only [decide_eq_false_iff_not]; omega) | simpa using rfl)) ?_
  refine WL_v rfl (ov_pickF rfl rfl) ?_
  refine WL_nil ?_
  refine WT_condF rfl ?_
  have hR : ∀ Ms, RdCr h2 Ms dv cv nv rv (newCr p n) := fun Ms => (hR1 Ms).mono hle2
  have hP2 : Plan h2 pv p := (hP.mono hle1).mono hle2
  have hH11 : H w8 h2 (crbox g5 dv cv nv rv :: Ls) := hH10.drop
  have hcvo := fun {w : World} {Ls : List Heaplet} (hH : H w h2 Ls) => crewValid_ok hH hP2 hlim (hR Ls)
  rw [hcv] at hcvo
  generalize newCr p n = c at hR hlim hdl hfl hdn hcvo
  clear hO hO2 hH1 hH2 hH3 hH4 hH5 hH6 hH7 hH8 hH9 hH10 hR1 hR2
  refine WT_skip ?_
  refine WT_seq ?_
  refine WT_region ?_
  refine WL_v rfl (ov_move rfl) ?_
  refine WL_bsI0 rfl hH11 run_bs_int0 ?_; rintro Y yv w9 hY hH12
  refine WL_call rfl rfl cf_impl_ReadyOf (readyOf_ok hH12 hP2 (hY.rdl (i := 0) rfl) (by simp)) ?_; rintro qv w10 ⟨Q, hQ, hH13⟩
  refine WL_v rfl (ov_assign rfl) ?_
  refine WL_nil ?_
  refine WT_seq ?_
  refine WT_region ?_
  refine WL_v rfl (ov_assign rfl) ?_
  refine WL_nil ?_
  refine WT_seq ?_
  refine WT_seq ?_
  refine WT_region ?_
  refine WL_v rfl (ov_assign rfl) ?_
  refine WL_nil ?_
  refine WT_block ?_
  rw [readyI_of hv] at hQ
  refine WT_while (fun s : Nat => [(3, pv), (4, .int .i64 (n : Int)), (5, ptr g5), (9, qv), (10, .int .i64 ((c.dq.take s).flatten.length : Int)), (11, .int .i64 (s : Int))]) (fun s w => s ≤ c.dq.length ∧ H w h2 (Q :: crbox g5 dv cv nv rv :: Ls)) (fun s => c.dq.length - s) 0 (by repeat (first | exact trivial | refine ⟨rfl, ?_⟩)) ⟨by omega, hH13.del 1 rfl⟩ ?_
  clear hH11 hH12 hH13
  rintro k w6 ⟨hk, hH⟩ again
  refine WT_seq ?_
  refine WT_seq ?_
  refine WT_region ?_
  refine WL_v rfl (ov_move rfl) ?_
  refine WL_v rfl (ov_field rfl fo_impl_Crew_0) ?_
  refine WL_v rfl (ov_load rfl one_sl_sl_int (hH.cb 1 rfl 0)) ?_
  refine WL_v rfl (ov_len rfl (hR []).dq.sl st_sl_sl_int) ?_
  refine WL_v rfl (ov_lss rfl rfl) ?_
  refine WL_nil ?_
  refine WT_cond rfl (fun hc => ?_) (fun hc => ?_)
  · skip
    first | with_reducible replace hc := of_decide_eq_true hc | with_reducible replace hc := bn_T hc | with_reducible replace hc := bb_T hc | skip
    have hkl : k < c.dq.length := by omega
    obtain ⟨u, h3, h4⟩ := (hR (Q :: crbox g5 dv cv nv rv :: Ls)).dq.at_ hkl
    have htf := take_flat hkl
    have hle3 := take_flat_le c.dq (k + 1)
    have hlf := hfl.length_eq
    have hle2' : (c.dq.take (k + 1)).flatten.length = (c.dq.take k).flatten.length + c.dq[k].length := by rw [htf, List.length_append]
    have hsum : ((c.dq.take k).flatten.length : Int) + (c.dq[k].length : Int) = ((c.dq.take (k + 1)).flatten.length : Int) := by omega
    have hmem : ∀ {z}, z ∈ c.dq[k] → z ∈ readyI p [] := fun {z} hz => hfl.mem_iff.1 (List.mem_flatten.2 ⟨_, List.getElem_mem hkl, hz⟩)
    refine WT_skip ?_
    refine WT_seq ?_
    refine WT_block ?_
    refine WT_seq ?_
    refine WT_region ?_
    refine WL_v rfl (ov_move rfl) ?_
    refine WL_v rfl (ov_field rfl fo_impl_Crew_0) ?_
    refine WL_v rfl (ov_load rfl one_sl_sl_int (hH.cb 1 rfl 0)) ?_
    refine WL_v rfl (ov_move rfl) ?_
    refine WL_v rfl (ov_index rfl rfl st_sl_sl_int (hR []).dq.sl hkl) ?_
    refine WL_v rfl (ov_load rfl one_sl_int (h4 hH)) ?_
    refine WL_v rfl (ov_len rfl h3.sl st_sl_int) ?_
    refine WL_v rfl (ov_as (ov_add rfl rfl (by omega)) (congrArg (Value.int .i64) (hsum))) ?_
    refine WL_v rfl (ov_assign rfl) ?_
    refine WL_nil ?_
    refine WT_seq ?_
    refine WT_region ?_
    refine WL_v rfl (ov_assign rfl) ?_
    refine WL_nil ?_
    refine WT_block ?_
    refine WT_while (fun s : Nat => [(3, pv), (4, .int .i64 (n : Int)), (5, ptr g5), (9, qv), (10, .int .i64 ((c.dq.take (k + 1)).flatten.length : Int)), (11, .int .i64 (k : Int)), (12, .int .i64 (s : Int))]) (fun s w => s ≤ c.dq[k].length ∧ H w h2 (Q :: crbox g5 dv cv nv rv :: Ls)) (fun s => c.dq[k].length - s) 0 (by repeat (first | exact trivial | refine ⟨rfl, ?_⟩)) ⟨by omega, hH⟩ ?_
    clear hH
    rintro m w7 ⟨hm, hH⟩ again2
    refine WT_seq ?_
    refine WT_seq ?_
    refine WT_region ?_
    refine WL_v rfl (ov_move rfl) ?_
    refine WL_v rfl (ov_field rfl fo_impl_Crew_0) ?_
    refine WL_v rfl (ov_load rfl one_sl_sl_int (hH.cb 1 rfl 0)) ?_
    refine WL_v rfl (ov_move rfl) ?_
    refine WL_v rfl (ov_index rfl rfl st_sl_sl_int (hR []).dq.sl hkl) ?_
    refine WL_v rfl (ov_load rfl one_sl_int (h4 hH)) ?_
    refine WL_v rfl (ov_len rfl h3.sl st_sl_int) ?_
    refine WL_v rfl (ov_lss rfl rfl) ?_
    refine WL_nil ?_
    refine WT_cond rfl (fun hc2 => ?_) (fun hc2 => ?_)
    · skip
      first | with_reducible replace hc2 := of_decide_eq_true hc2 | with_reducible replace hc2 := bn_T hc2 | with_reducible replace hc2 := bb_T hc2 | skip
      have hml : m < c.dq[k].length := by omega
      have h5 := hasInt_ok hH (hQ.rdl (i := 0) rfl) c.dq[k][m]
      rw [decide_eq_true (hmem (List.getElem_mem hml))] at h5
      refine WT_skip ?_
      refine WT_seq ?_
      refine WT_block ?_
      refine WT_seq ?_
      refine WT_region ?_
      refine WL_v rfl (ov_move rfl) ?_
      refine WL_v rfl (ov_field rfl fo_impl_Crew_0) ?_
      refine WL_v rfl (ov_load rfl one_sl_sl_int (hH.cb 1 rfl 0)) ?_
      refine WL_v rfl (ov_move rfl) ?_
      refine WL_v rfl (ov_index rfl rfl st_sl_sl_int (hR []).dq.sl hkl) ?_
      refine WL_v rfl (ov_load rfl one_sl_int (h4 hH)) ?_
      refine WL_v rfl (ov_move rfl) ?_
      refine WL_v rfl (ov_index rfl rfl st_sl_int h3.sl hml) ?_
      refine WL_v rfl (ov_load rfl one_int (h3.cell hH hml)) ?_
      refine WL_call rfl rfl cf_laws_hasInt (h5) ?_; rintro _ w8 ⟨rfl, hH2⟩
      refine WL_v rfl (ov_F (ov_not rfl) (by first | exact decide_eq_false rfl | exact nb_F rfl | exact mb_F rfl | exact rfl | (simp only [decide_eq_false_iff_not]; omega) | simpa using rfl)) ?_
      refine WL_nil ?_
      refine WT_condF rfl ?_
      refine WT_skip ?_
      refine WT_inBlock ?_
      refine WT_region ?_
      refine WL_v rfl (ov_move rfl) ?_
      refine WL_v rfl (ov_add rfl rfl (by omega)) ?_
      refine WL_v rfl (ov_assign rfl) ?_
      refine WL_nil ?_
      refine again2 (m + 1) _ _ (by omega) (by repeat (first | exact trivial | refine ⟨rfl, ?_⟩)) ⟨by omega, hH2⟩
    first | with_reducible replace hc2 := of_decide_eq_false hc2 | with_reducible replace hc2 := bn_F hc2 | with_reducible replace hc2 := bb_F hc2 | skip
    refine WT_exit rfl ?_
    refine WT_inBlock ?_
    refine WT_region ?_
    refine WL_v rfl (ov_move rfl) ?_
    refine WL_v rfl (ov_add rfl rfl (by omega)) ?_
    refine WL_v rfl (ov_assign rfl) ?_
    refine WL_nil ?_
    refine again (k + 1) _ _ (by omega) (by repeat (first | exact trivial | refine ⟨rfl, ?_⟩)) ⟨by omega, hH⟩
  first | with_reducible replace hc := of_decide_eq_false hc | with_reducible replace hc := bn_F hc | with_reducible replace hc := bb_F hc | skip
  obtain rfl : k = c.dq.length := by omega
  rw [List.take_length]
  have hlf := hfl.length_eq
  have hd0 : c.dn.length = 0 := by rw [hdn]; rfl
  refine WT_exit rfl ?_
  refine WT_seq ?_
  refine WT_region ?_
  refine WL_v rfl (ov_move rfl) ?_
  refine WL_v rfl (ov_loadN [dv, cv, nv, rv] rfl agg_impl_Crew rfl ((loadCrew (i := 1) rfl hH))) ?_
  refine WL_call rfl rfl cf_impl_CrewValid (hcvo hH) ?_; rintro _ w9 ⟨rfl, hH2⟩
  refine WL_v rfl (ov_move rfl) ?_
  refine WL_guardOn rfl rfl ?_
  refine WL_v rfl (ov_field rfl fo_impl_Crew_2) ?_
  refine WL_guardOn rfl rfl ?_
  refine WL_v rfl (ov_load rfl one_sl_int (hH2.cb 1 rfl 2)) ?_
  refine WL_guardOn rfl rfl ?_
  refine WL_v rfl (ov_len rfl (hR []).dn.sl st_sl_int) ?_
  refine WL_guardOn rfl rfl ?_
  refine WL_v rfl (ov_T (ov_eql rfl rfl) (decide_eq_true (by omega))) ?_
  refine WL_v rfl (ov_pickT rfl rfl) ?_
  refine WL_v rfl (ov_move rfl) ?_
  refine WL_guardOn rfl rfl ?_
  refine WL_v rfl (ov_move rfl) ?_
  refine WL_guardOn rfl rfl ?_
  refine WL_v rfl (ov_move rfl) ?_
  refine WL_guardOn rfl rfl ?_
  refine WL_v rfl (ov_len rfl hQ.sl st_sl_int) ?_
  refine WL_guardOn rfl rfl ?_
  refine WL_v rfl (ov_T (ov_eql rfl rfl) (decide_eq_true (by omega))) ?_
  refine WL_v rfl (ov_pickT rfl rfl) ?_
  refine WL_v rfl (ov_move rfl) ?_
  refine WL_guardOn rfl rfl ?_
  refine WL_v rfl (ov_field rfl fo_impl_Crew_0) ?_
  refine WL_guardOn rfl rfl ?_
  refine WL_v rfl (ov_load rfl one_sl_sl_int (hH2.cb 1 rfl 0)) ?_
  refine WL_guardOn rfl rfl ?_
  refine WL_v rfl (ov_len rfl (hR []).dq.sl st_sl_sl_int) ?_
  refine WL_guardOn rfl rfl ?_
  refine WL_v rfl (ov_move rfl) ?_
  refine WL_guardOn rfl rfl ?_
  refine WL_v rfl (ov_T (ov_eql rfl rfl) (decide_eq_true (by omega))) ?_
  refine WL_v rfl (ov_pickT rfl rfl) ?_
  refine WL_v rfl (ov_assign rfl) ?_
  refine WL_nil ?_
  exact WT_ret1 Try.func4 Try.results4 rfl ⟨rfl, hH2.drop.drop.weak (hle.trans (hle1.trans hle2))⟩
end
end Go.Proofs.Yteagnhdhafiofaa
