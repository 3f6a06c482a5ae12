/- Walks: crews are drawn. -/
import Derived.Test.YtlmdmgjppdhelaaGreatBd5
namespace Go.Proofs.YtlmdmgjppdhelaaGreat
open Go.RowKit

theorem SmCr.lim {p : List Nd} {c : Cr} (h : SmCr p c) : CrLim c := ⟨by have := h.dq; omega, by have := h.dd; omega, by have := h.ct; omega, by have := h.dn; omega, by have := h.rw; omega, fun i hi => by have := h.rr i hi; omega⟩

section
variable {h : GH} {Ls : List Heaplet} {w : World}

theorem Cl.crew {C N D R X Y : Heaplet} {Ds Rs Ms : List Heaplet} (hH : H w h (C :: N :: D :: R :: (Ds ++ (Rs ++ X :: Y :: Ms)))) : Cl h [Y] w := Cl.sub [X] [Y] _ hH.behindCr
/-- A crew of one's own is shared from here on. -/
theorem OCr.freeze {C N D R : Heaplet} {Ds Rs : List Heaplet} {dv cv nv rv : Value} {c : Cr} (hO : OCr C N D R Ds Rs dv cv nv rv c) (hH : H w h (C :: N :: D :: R :: (Ds ++ (Rs ++ Ls)))) :
    ∃ h', h.Le h' ∧ H w h' Ls ∧ ∀ Ms, RdCr h' Ms dv cv nv rv c := by
  have hH' : H w h ((C :: N :: D :: R :: (Ds ++ Rs)).flatten :: Ls) := by simpa [H] using hH
  obtain ⟨h', hle, hH2, hX2, _, _⟩ := hH'.freeze
  have hb : ∀ X ∈ C :: N :: D :: R :: (Ds ++ Rs), ∀ q ∈ X, h'.blk q.1 = some q.2 := fun X hX q hq => (hX2 q (List.mem_flatten.2 ⟨X, hX, hq⟩)).1
  refine ⟨h', hle, hH2, fun Ms => ⟨(hO.dq.lists fun q hq => ?_).rdll Ms, (hO.ct.ints (hb C (by simp))).rdl Ms, (hO.dn.ints (hb N (by simp))).rdl Ms, (hO.rw.lists fun q hq => ?_).rdll Ms⟩⟩
  · obtain ⟨X, hX, hqX⟩ := List.mem_flatten.1 hq
    refine hb X ?_ q hqX
    rcases List.mem_cons.1 hX with rfl | hX
    · simp
    · simp [hX]
  · obtain ⟨X, hX, hqX⟩ := List.mem_flatten.1 hq
    refine hb X ?_ q hqX
    rcases List.mem_cons.1 hX with rfl | hX
    · simp
    · simp [hX]

/-- A plan, and a crew of one's own. -/
def L92V (h : GH) (Ls : List Heaplet) (g : Nat) (bv : Value) (p0 : Nat) (v : Value) (w' : World) : Prop :=
  ∃ h' p pv c dv cv nv rv p', v = .tuple #[pv, crV dv cv nv rv] ∧ h.Le h' ∧ Plan h' pv p ∧ p.length ≤ 11 ∧ SmCr p c ∧ p' ≤ p0 + 4100 ∧ OwnCr h' (rdr g bv p' :: Ls) c dv cv nv rv w'

set_option maxHeartbeats 4000000 in
theorem l92Crew_ok {g : Nat} {bv : Value} {p0 : Nat} {bs : List Int} (hH : H w h (rdr g bv p0 :: Ls)) (hB : Bytes h bv bs) (hp : p0 ≤ 100000) : Rets Tryz.prog 31 #[.pointer (some ⟨g, 0, none⟩)] w (L92V h Ls g bv p0) := by
  refine rets_enter Tryz.func31 rfl Tryz.ntmps31 (by simp) ?_
  refine WT_seq ?_
  refine WT_region ?_
  refine WL_v rfl (ov_assign rfl) ?_
  refine WL_alloc _ rfl hH zero_crew rfl ?_; rintro g3 w1 hH1
  refine WL_nil ?_
  refine WT_seq ?_
  refine WT_region ?_
  refine WL_v rfl (ov_move rfl) ?_
  refine WL_call rfl rfl cf_spec_l91Plan (l91Plan_ok hH1.swap hB hp) ?_; rintro pv w2 ⟨p, O, Is, p1, hO, hpl, hp1, hH2⟩
  refine WL_v rfl (ov_assign rfl) ?_
  refine WL_nil ?_
  refine WT_seq ?_
  refine WT_region ?_
  refine WL_v rfl (ov_move rfl) ?_
  refine WL_v rfl (ov_move rfl) ?_
  have hH2b : H w2 h (O :: (Is ++ (rdr g bv p1 :: cz9 g3 :: Ls))) := by
    refine hH2.perm ?_
    have := (List.perm_middle (a := rdr g bv p1) (l₁ := O :: Is) (l₂ := cz9 g3 :: Ls)).symm
    simpa using this
  obtain ⟨h1, hle, hH3, hP, _⟩ := hO.freeze hH2b
  replace hB := hB.mono hle
  clear hH hH1 hH2 hH2b hO
  refine WL_call rfl rfl cf_p_spec_l6Rd_pick (pick_ok hH3 hB (by omega) 4) ?_; rintro _ w3 ⟨r1, rfl, hr1, hH4⟩; have hr14 := hr1.1 (by omega)
  refine WL_v rfl (ov_as (ov_add rfl rfl (by omega)) (congrArg (Value.int .i64) ((show (1 : Int) + (r1 : Int) = ((1 + r1 : Nat) : Int) by omega)))) ?_
  by_cases hv : planOk p = true
  case neg =>
    refine WL_call rfl rfl cf_spec_CrewNew (sCrewNew_no hH4 hP (by omega) (fun hh => hv hh.1)) ?_; rintro _ w4 ⟨rfl, hH5⟩
    refine WL_v rfl (ov_move rfl) ?_
    refine WL_v rfl (ov_extract rfl rfl) ?_
    refine WL_v rfl (ov_extract rfl rfl) ?_
    refine WL_alloc _ rfl hH5 zero_crew rfl ?_; rintro g5 w5 hH6
    refine WL_storeN hH6 rfl rfl (i := 0) rfl rfl rfl (ones_cons rfl (ones_cons rfl (ones_cons rfl (ones_cons rfl ones_nil)))) sz_impl_Crew ?_; rintro w6 hH7
    refine WL_v rfl (ov_assign rfl) ?_
    refine WL_nil ?_
    refine WT_seq ?_
    refine WT_seq ?_
    refine WT_region ?_
    refine WL_v rfl (ov_move rfl) ?_
    refine WL_v rfl (ov_not rfl) ?_
    refine WL_nil ?_
    refine WT_condT rfl ?_
    refine WT_seq ?_
    refine WT_region ?_
    refine WL_v rfl (ov_move rfl) ?_
    refine WL_v rfl (ov_build rfl run_build_crew0) ?_
    refine WL_v rfl (ov_assign rfl) ?_
    refine WL_storeN hH7 rfl rfl (i := 2) rfl rfl rfl (ones_cons rfl (ones_cons rfl (ones_cons rfl (ones_cons rfl ones_nil)))) sz_impl_Crew ?_; rintro w7 hH8
    refine WL_nil ?_
    exact WT_retTC Tryz.func31 Tryz.results31 rfl rfl (lvCrew (i := 2) (dv := nilV) (cv := nilV) (nv := nilV) (rv := nilV) rfl hH8) ⟨h1, p, pv, ⟨[], [], [], []⟩, nilV, nilV, nilV, nilV, p1 + 1, rfl, hle, hP, hpl, SmCr.none p, by omega, OwnCr.none ((hH8.del 2 rfl).drop)⟩
  refine WL_call rfl rfl cf_spec_CrewNew (sCrewNew_yes hH4 hP hv (n := 1 + r1) (by omega)) ?_; rintro _ w4 ⟨dv0, cv0, nv0, rv0, rfl, C0, N0, D0, R0, Ds0, Rs0, hO0, hH5⟩; replace hH5 := H.behindCr hH5
  refine WL_v rfl (ov_move rfl) ?_
  refine WL_v rfl (ov_extract rfl rfl) ?_
  refine WL_v rfl (ov_extract rfl rfl) ?_
  refine WL_alloc _ rfl hH5 zero_crew rfl ?_; rintro g5 w5 hH6
  refine WL_storeN hH6 rfl rfl (i := 0) rfl rfl rfl (ones_cons hO0.dq.sl.one (ones_cons hO0.ct.sl.one (ones_cons hO0.dn.sl.one (ones_cons hO0.rw.sl.one ones_nil)))) sz_impl_Crew ?_; rintro w6 hH7
  refine WL_v rfl (ov_assign rfl) ?_
  refine WL_nil ?_
  refine WT_seq ?_
  refine WT_seq ?_
  refine WT_region ?_
  refine WL_v rfl (ov_move rfl) ?_
  refine WL_v rfl (ov_not rfl) ?_
  refine WL_nil ?_
  refine WT_condF rfl ?_
  have hsm0 := (newCr_ok hv (w := 1 + r1) (by omega)).small
  generalize newCr p (1 + r1) = c0 at hO0 hsm0
  have hlp := hP.sl
  refine WT_skip ?_
  refine WT_seq ?_
  refine WT_region ?_
  refine WL_v rfl (ov_move rfl) ?_
  refine WL_v rfl (ov_move rfl) ?_
  refine WL_v rfl (ov_len rfl hlp st_sl_impl_Node) ?_
  refine WL_v rfl (ov_as (ov_add rfl rfl (by omega)) (congrArg (Value.int .i64) ((show (p.length : Int) + 1 = ((p.length + 1 : Nat) : Int) by omega)))) ?_
  refine WL_call rfl rfl cf_p_spec_l6Rd_pick (pick_ok hH7.swap hB (by omega) ((p.length + 1 : Nat) : Int)) ?_; rintro _ w7 ⟨r2, rfl, hr2, hH8⟩
  refine WL_v rfl (ov_assign rfl) ?_
  refine WL_nil ?_
  refine WT_seq ?_
  refine WT_seq ?_
  refine WT_region ?_
  refine WL_v rfl (ov_assign rfl) ?_
  refine WL_nil ?_
  refine WT_block ?_
  have hr24 := hr2.1 (by omega)
  have hH9 : H w7 h1 ([crbox g5 dv0 cv0 nv0 rv0, rdr g bv (p1 + 1 + 1), cz9 g3] ++ (C0 :: N0 :: D0 :: R0 :: (Ds0 ++ (Rs0 ++ Ls)))) := hH8.swap
  clear hH3 hH4 hH5 hH6 hH7 hH8
  refine WT_while (fun s : Nat × Value × Value × Value × Value => [(0, ptr g), (3, ptr g3), (4, pv), (5, ptr g5), (7, .int .i64 (r2 : Int)), (8, .int .i64 (s.1 : Int))]) (fun s w => s.1 ≤ r2 ∧ ∃ c C N D R Ds Rs, OCr C N D R Ds Rs s.2.1 s.2.2.1 s.2.2.2.1 s.2.2.2.2 c ∧ SmCr p c ∧ H w h1 ([crbox g5 s.2.1 s.2.2.1 s.2.2.2.1 s.2.2.2.2, rdr g bv (p1 + 2 + s.1), cz9 g3] ++ (C :: N :: D :: R :: (Ds ++ (Rs ++ Ls))))) (fun s => r2 - s.1) (0, dv0, cv0, nv0, rv0) (by repeat (first | exact trivial | refine ⟨rfl, ?_⟩)) ⟨by simp, c0, C0, N0, D0, R0, Ds0, Rs0, hO0, hsm0, hH9⟩ ?_
  clear hH9 hO0 hsm0
  rintro ⟨k, dv, cv, nv, rv⟩ w8 ⟨hk, c, C, N, D, R, Ds, Rs, hO, hsm, hH⟩ again
  simp only at hk hO hH
  refine WT_seq ?_
  refine WT_seq ?_
  refine WT_region ?_
  refine WL_v rfl (ov_move rfl) ?_
  refine WL_v rfl (ov_move rfl) ?_
  refine WL_v rfl (ov_lss rfl rfl) ?_
  refine WL_nil ?_
  refine WT_cond rfl (fun hc => ?_) (fun hc => ?_)
  · skip
    first | with_reducible replace hc := of_decide_eq_true hc | with_reducible replace hc := bn_T hc | with_reducible replace hc := bb_T hc | skip
    have hkr : k < r2 := by simp only at hc; omega
    have hRd : ∀ {Ms : List Heaplet} (A : List Heaplet), Ms = A ++ (C :: N :: D :: R :: (Ds ++ (Rs ++ Ls))) → RdCr h1 Ms dv cv nv rv c := fun A hA => by
      rw [hA]; exact hO.rd.ups A
    have hdl := hsm.dq
    refine WT_skip ?_
    refine WT_seq ?_
    refine WT_block ?_
    refine WT_seq ?_
    refine WT_join (ι := Bool × Cr × Nat × Value × Value × Value × Value) (fun s => [(0, ptr g), (3, ptr g3), (4, pv), (5, ptr g5), (7, .int .i64 (r2 : Int)), (8, .int .i64 (k : Int)), (9, ptr s.2.2.1), (10, .bool s.1)]) (fun s w => SmCr p s.2.1 ∧ ∃ C2 N2 D2 R2 Ds2 Rs2, OCr C2 N2 D2 R2 Ds2 Rs2 s.2.2.2.1 s.2.2.2.2.1 s.2.2.2.2.2.1 s.2.2.2.2.2.2 s.2.1 ∧ H w h1 (rdr g bv (p1 + 2 + k + 1) :: crbox g5 dv cv nv rv :: crbox s.2.2.1 s.2.2.2.1 s.2.2.2.2.1 s.2.2.2.2.2.1 s.2.2.2.2.2.2 :: C2 :: N2 :: D2 :: R2 :: (Ds2 ++ (Rs2 ++ (cz9 g3 :: C :: N :: D :: R :: (Ds ++ (Rs ++ Ls))))))) (fun joined => ?_) ?_
    · skip
      have lift : ∀ {w : World} {B9 C2 N2 D2 R2 X Y : Heaplet} {Ds2 Rs2 Ms : List Heaplet}, H w h1 (B9 :: C2 :: N2 :: D2 :: R2 :: (Ds2 ++ (Rs2 ++ X :: Y :: Ms))) → H w h1 (X :: Y :: B9 :: C2 :: N2 :: D2 :: R2 :: (Ds2 ++ (Rs2 ++ Ms))) := fun {w B9 C2 N2 D2 R2 X Y Ds2 Rs2 Ms} hh => by
        have h9 : H w h1 (B9 :: ((C2 :: N2 :: D2 :: R2 :: (Ds2 ++ Rs2)) ++ X :: Y :: Ms)) := by simpa using hh
        have := H.behind2 h9
        simpa using this
      have hqs := hO.dq.sl
      refine WT_mixXS [(0, 1), (1, 0), (2, 1), (3, 1), (4, 0), (5, 1), (6, 2), (7, 3), (8, 1), (9, 1), (10, 1), (11, 2), (12, 3), (13, 1)] [(0, 1), (1, 0), (2, 1), (3, 1), (4, 0), (5, 1)] 8 #[true, true, true, true, true, true, false, false, false, false, false, false, false, false] [crbox g5 dv cv nv rv] (fun w' hh => Cl.sub [] [crbox g5 dv cv nv rv] _ hh) mixed (by kernel_rfl) hH ?_
      clear hH
      intro w9 hH hC
      refine WM_p rfl rfl (fun _ => ov_move rfl) ?_
      refine WM_v rfl rfl hC (fun _ ⟨_, hH⟩ => ov_loadN [dv, cv, nv, rv] rfl agg_impl_Crew rfl ((loadCrew (i := 1) rfl hH))) ?_
      refine WM_p rfl rfl (fun _ => ov_move rfl) ?_
      refine WM_p rfl rfl (fun _ => ov_field rfl fo_impl_Crew_0) ?_
      refine WM_v rfl rfl hC (fun _ ⟨_, hH⟩ => ov_load rfl one_sl_sl_int (hH.cb 1 rfl 0)) ?_
      refine WM_p rfl rfl (fun _ => ov_len rfl hqs st_sl_sl_int) ?_
      refine WM_fork 6 11 0 0 [] [(6, 2), (7, 3), (8, 1), (9, 1), (10, 1), (12, 3), (13, 1)] 7 0 #[true, true, true, true, true, true, true, false, false, false, false, false, false, false] #[true, true, true, true, true, true, true, true, true, true, true, true, true, true] (by kernel_rfl) ?_ ?_
      · skip
        refine WM_e rfl ?_
        refine WL_call rfl rfl cf_p_spec_l6Rd_pick (pick_ok hH.swap hB (by omega) _) ?_; rintro _ w10 ⟨r3, rfl, hr3, hH10⟩
        replace hC : Cl _ _ _ := Cl.sub [rdr g bv (p1 + 2 + k + 1)] [crbox g5 dv cv nv rv] _ hH10
        refine WL_mix (fun _ => hC) ?_
        refine WM_fork 7 11 1 0 [(8, 1), (9, 1), (10, 1), (11, 2), (12, 3), (13, 1)] [(7, 3), (8, 1), (9, 1), (10, 1), (12, 3), (13, 1)] 0 0 #[true, true, true, true, true, true, true, true, true, true, true, true, true, true] #[true, true, true, true, true, true, true, true, true, true, true, true, true, true] (by kernel_rfl) ?_ ?_
        · skip
          refine WM_e rfl ?_
          refine WL_call rfl rfl cf_spec_TurnNext (sTurnNext_ok hH10 hP (by omega) hsm.lim (hRd [rdr g bv (p1 + 2 + k + 1), crbox g5 dv cv nv rv, cz9 g3] rfl) _) ?_; rintro _ w11 ⟨ok, c2, dv2, cv2, nv2, rv2, rfl, hsm2, C2, N2, D2, R2, Ds2, Rs2, hO2, hH11⟩
          refine WL_mix (fun h => absurd rfl h) ?_
          refine WM_p rfl rfl (fun _ => ov_move rfl) ?_
          refine WM_p rfl rfl (fun _ => ov_extract rfl rfl) ?_
          refine WM_p rfl rfl (fun _ => ov_extract rfl rfl) ?_
          refine WM_e rfl ?_
          refine WL_alloc _ rfl hH11 zero_crew rfl ?_; rintro g9 w12 hH12
          replace hC : Cl _ _ _ := Cl.crew hH12.drop
          refine WL_mix (fun _ => hC) ?_
          refine WM_e rfl ?_
          refine WL_storeN hH12 rfl rfl (i := 0) rfl rfl rfl (ones_cons hO2.dq.sl.one (ones_cons hO2.ct.sl.one (ones_cons hO2.dn.sl.one (ones_cons hO2.rw.sl.one ones_nil)))) sz_impl_Crew ?_; rintro w13 hH13
          refine WL_mix (fun h => absurd rfl h) ?_
          refine WM_p rfl rfl (fun _ => ov_assign rfl) ?_
          refine WM_fin (by kernel_rfl) ?_
          exact joined (ok, c2, g9, dv2, cv2, nv2, rv2) _ _ (by repeat (first | exact trivial | refine ⟨rfl, ?_⟩)) ⟨hsm2, C2, N2, D2, R2, Ds2, Rs2, hO2, lift hH13⟩
        refine WM_e rfl ?_
        refine WL_alloc _ rfl hH10 zero_crew rfl ?_; rintro g9 w12 hH12
        replace hC : Cl _ _ _ := Cl.sub [cz9 g9, rdr g bv (p1 + 2 + k + 1)] [crbox g5 dv cv nv rv] _ hH12
        refine WL_mix (fun _ => hC) ?_
        refine WM_e rfl ?_
        refine WL_call rfl rfl cf_spec_TurnNext (sTurnNext_ok hH12 hP (by omega) hsm.lim (hRd [cz9 g9, rdr g bv (p1 + 2 + k + 1), crbox g5 dv cv nv rv, cz9 g3] rfl) _) ?_; rintro _ w11 ⟨ok, c2, dv2, cv2, nv2, rv2, rfl, hsm2, C2, N2, D2, R2, Ds2, Rs2, hO2, hH11⟩; replace hH11 := H.behindCr1 hH11
        refine WL_mix (fun h => absurd rfl h) ?_
        refine WM_p rfl rfl (fun _ => ov_move rfl) ?_
        refine WM_p rfl rfl (fun _ => ov_extract rfl rfl) ?_
        refine WM_p rfl rfl (fun _ => ov_extract rfl rfl) ?_
        refine WM_e rfl ?_
        refine WL_storeN hH11 rfl rfl (i := 0) rfl rfl rfl (ones_cons hO2.dq.sl.one (ones_cons hO2.ct.sl.one (ones_cons hO2.dn.sl.one (ones_cons hO2.rw.sl.one ones_nil)))) sz_impl_Crew ?_; rintro w13 hH13
        refine WL_mix (fun h => absurd rfl h) ?_
        refine WM_p rfl rfl (fun _ => ov_assign rfl) ?_
        refine WM_fin (by kernel_rfl) ?_
        exact joined (ok, c2, g9, dv2, cv2, nv2, rv2) _ _ (by repeat (first | exact trivial | refine ⟨rfl, ?_⟩)) ⟨hsm2, C2, N2, D2, R2, Ds2, Rs2, hO2, lift hH13⟩
      refine WM_e rfl ?_
      refine WL_alloc _ rfl hH zero_crew rfl ?_; rintro g9 w12 hH12
      replace hC : Cl _ _ _ := Cl.sub [cz9 g9] [crbox g5 dv cv nv rv] _ hH12
      refine WL_mix (fun _ => hC) ?_
      refine WM_e rfl ?_
      refine WL_call rfl rfl cf_p_spec_l6Rd_pick (pick_ok (hH12.pull 2 rfl) hB (by omega) _) ?_; rintro _ w10 ⟨r3, rfl, hr3, hH10⟩; replace hH10 := hH10.swap
      replace hC : Cl _ _ _ := Cl.sub [cz9 g9, rdr g bv (p1 + 2 + k + 1)] [crbox g5 dv cv nv rv] _ hH10
      refine WL_mix (fun _ => hC) ?_
      refine WM_e rfl ?_
      refine WL_call rfl rfl cf_spec_TurnNext (sTurnNext_ok hH10 hP (by omega) hsm.lim (hRd [cz9 g9, rdr g bv (p1 + 2 + k + 1), crbox g5 dv cv nv rv, cz9 g3] rfl) _) ?_; rintro _ w11 ⟨ok, c2, dv2, cv2, nv2, rv2, rfl, hsm2, C2, N2, D2, R2, Ds2, Rs2, hO2, hH11⟩; replace hH11 := H.behindCr1 hH11
      refine WL_mix (fun h => absurd rfl h) ?_
      refine WM_p rfl rfl (fun _ => ov_move rfl) ?_
      refine WM_p rfl rfl (fun _ => ov_extract rfl rfl) ?_
      refine WM_p rfl rfl (fun _ => ov_extract rfl rfl) ?_
      refine WM_e rfl ?_
      refine WL_storeN hH11 rfl rfl (i := 0) rfl rfl rfl (ones_cons hO2.dq.sl.one (ones_cons hO2.ct.sl.one (ones_cons hO2.dn.sl.one (ones_cons hO2.rw.sl.one ones_nil)))) sz_impl_Crew ?_; rintro w13 hH13
      refine WL_mix (fun h => absurd rfl h) ?_
      refine WM_p rfl rfl (fun _ => ov_assign rfl) ?_
      refine WM_fin (by kernel_rfl) ?_
      exact joined (ok, c2, g9, dv2, cv2, nv2, rv2) _ _ (by repeat (first | exact trivial | refine ⟨rfl, ?_⟩)) ⟨hsm2, C2, N2, D2, R2, Ds2, Rs2, hO2, lift hH13⟩
    clear hH
    rintro ⟨ok, c2, g9, dv2, cv2, nv2, rv2⟩ w9 ⟨hsm2, C2, N2, D2, R2, Ds2, Rs2, hO2, hH⟩
    simp only at hsm2 hO2 hH
    refine WT_seq ?_
    refine WT_region ?_
    refine WL_v rfl (ov_move rfl) ?_
    refine WL_nil ?_
    cases ok with
    | true =>
      refine WT_condT rfl ?_
      refine WT_region ?_
      refine WL_v rfl (ov_loadN [dv2, cv2, nv2, rv2] rfl agg_impl_Crew rfl ((loadCrew (i := 2) rfl hH))) ?_
      refine WL_storeN hH rfl rfl (i := 1) rfl rfl rfl (ones_cons hO2.dq.sl.one (ones_cons hO2.ct.sl.one (ones_cons hO2.dn.sl.one (ones_cons hO2.rw.sl.one ones_nil)))) sz_impl_Crew ?_; rintro w10 hH10
      refine WL_nil ?_
      refine WT_inBlock ?_
      refine WT_region ?_
      refine WL_v rfl (ov_move rfl) ?_
      refine WL_v rfl (ov_add rfl rfl (by omega)) ?_
      refine WL_v rfl (ov_assign rfl) ?_
      refine WL_nil ?_
      refine again (k + 1, dv2, cv2, nv2, rv2) _ _ (by simp only; omega) (by repeat (first | exact trivial | refine ⟨rfl, ?_⟩)) ⟨by simp only; omega, c2, C2, N2, D2, R2, Ds2, Rs2, hO2, hsm2, ?_⟩
      have h9 := hH10.del 2 rfl
      have h10 : H w10 h1 ((rdr g bv (p1 + 2 + k + 1) :: crbox g5 dv2 cv2 nv2 rv2 :: C2 :: N2 :: D2 :: R2 :: (Ds2 ++ Rs2)) ++ cz9 g3 :: ((C :: N :: D :: R :: (Ds ++ Rs)) ++ Ls)) := by simpa using h9
      have h11 := h10.perm List.perm_middle
      have h12 : H w10 h1 ((cz9 g3 :: rdr g bv (p1 + 2 + k + 1) :: crbox g5 dv2 cv2 nv2 rv2 :: C2 :: N2 :: D2 :: R2 :: (Ds2 ++ Rs2)) ++ ((C :: N :: D :: R :: (Ds ++ Rs)) ++ Ls)) := h11
      have h13 := H.dropMid h12
      have h14 := (h13.pull 2 rfl).pull 2 rfl
      have h15 := h14.swap
      simpa [Nat.add_assoc] using h15
    | false =>
      refine WT_condF rfl ?_
      refine WT_skip ?_
      refine WT_inBlock ?_
      refine WT_region ?_
      refine WL_v rfl (ov_move rfl) ?_
      refine WL_v rfl (ov_add rfl rfl (by omega)) ?_
      refine WL_v rfl (ov_assign rfl) ?_
      refine WL_nil ?_
      refine again (k + 1, dv, cv, nv, rv) _ _ (by simp only; omega) (by repeat (first | exact trivial | refine ⟨rfl, ?_⟩)) ⟨by simp only; omega, c, C, N, D, R, Ds, Rs, hO, hsm, ?_⟩
      have h10 : H w9 h1 ([rdr g bv (p1 + 2 + k + 1), crbox g5 dv cv nv rv] ++ ((crbox g9 dv2 cv2 nv2 rv2 :: C2 :: N2 :: D2 :: R2 :: (Ds2 ++ Rs2)) ++ (cz9 g3 :: C :: N :: D :: R :: (Ds ++ (Rs ++ Ls))))) := by simpa using hH
      have h13 := (H.dropMid h10).swap
      simpa [Nat.add_assoc] using h13
  first | with_reducible replace hc := of_decide_eq_false hc | with_reducible replace hc := bn_F hc | with_reducible replace hc := bb_F hc | skip
  have hk2 : k = r2 := by simp only at hc; omega
  subst hk2
  have hH2 := hH
  refine WT_exit rfl ?_
  refine WT_seq ?_
  refine WT_mixL [(0, 1), (1, 0), (2, 1), (3, 3)] mixed (by kernel_rfl) hH ?_
  clear hH
  intro w10 hH hC
  refine WM_p rfl rfl (fun _ => ov_move rfl) ?_
  refine WM_v rfl rfl hC (fun _ ⟨_, hH⟩ => ov_loadN [dv, cv, nv, rv] rfl agg_impl_Crew rfl ((loadCrew (i := 1) rfl hH))) ?_
  refine WM_p rfl rfl (fun _ => ov_assign rfl) ?_
  refine WM_e rfl ?_
  refine WL_storeN hH rfl rfl (i := 2) rfl rfl rfl (ones_cons hO.dq.sl.one (ones_cons hO.ct.sl.one (ones_cons hO.dn.sl.one (ones_cons hO.rw.sl.one ones_nil)))) sz_impl_Crew ?_; rintro w11 hH11
  refine WL_mix (fun h => absurd rfl h) ?_
  refine WM_nil ?_
  exact WT_retTC Tryz.func31 Tryz.results31 rfl rfl (lvCrew (i := 2) (dv := dv) (cv := cv) (nv := nv) (rv := rv) rfl hH11) ⟨h1, p, pv, c, dv, cv, nv, rv, p1 + 2 + k, rfl, hle, hP, hpl, hsm, by omega, C, N, D, R, Ds, Rs, hO, by
    have h9 := (hH11.del 2 rfl).drop
    have h10 : H w11 h1 (rdr g bv (p1 + 2 + k) :: ((C :: N :: D :: R :: (Ds ++ Rs)) ++ Ls)) := by simpa using h9
    have h11 := h10.perm (List.perm_middle (a := rdr g bv (p1 + 2 + k)) (l₁ := C :: N :: D :: R :: (Ds ++ Rs)) (l₂ := Ls)).symm
    simpa using h11⟩
end
end Go.Proofs.YtlmdmgjppdhelaaGreat

/- Walks: plans with crews are drawn, and shared. -/
namespace Go.Proofs.YtlmdmgjppdhelaaGreat
open Go.RowKit

section
variable {h : GH} {Ls : List Heaplet} {w : World}

/-- A drawn plan with a crew, shared. -/
def DrewCr (h : GH) (Ls : List Heaplet) (pv dv cv nv rv : Value) (w' : World) : Prop := ∃ h' p c, h.Le h' ∧ Plan h' pv p ∧ p.length ≤ 11 ∧ (∀ Ms, RdCr h' Ms dv cv nv rv c) ∧ CrLim c ∧ H w' h' Ls
theorem drewCr_of {h' : GH} {pv dv cv nv rv : Value} {p : List Nd} {c : Cr} (hle : h.Le h') (hP : Plan h' pv p) (hpl : p.length ≤ 11) (hl : CrLim c) {C N D R : Heaplet} {Ds Rs : List Heaplet} (hO : OCr C N D R Ds Rs dv cv nv rv c) (hH : H w h' (C :: N :: D :: R :: (Ds ++ (Rs ++ Ls)))) : DrewCr h Ls pv dv cv nv rv w := by
  obtain ⟨h2, hle2, hH2, hR⟩ := hO.freeze hH
  exact ⟨h2, p, c, hle.trans hle2, hP.mono hle2, hpl, hR, hl, hH2⟩

theorem drawCrewLeft_ok (hH : H w h Ls) {xv : Value} {bs : List Int} (hB : Bytes h xv bs) : Rets Tryz.prog 16 #[xv] w fun v w' => ∃ pv dv cv nv rv, v = .tuple #[pv, crV dv cv nv rv] ∧ DrewCr h Ls pv dv cv nv rv w' := by
  refine rets_enter Tryz.func16 rfl Tryz.ntmps16 (by simp) ?_
  refine WT_seq ?_
  refine WT_region ?_
  refine WL_v rfl (ov_assign rfl) ?_
  refine WL_alloc _ rfl hH zero_crew rfl ?_; rintro g3 w1 hH1
  refine WL_nil ?_
  refine WT_seq ?_
  refine WT_region ?_
  refine WL_v rfl (ov_move rfl) ?_
  refine WL_call rfl rfl cf_spec_l6Open (l6Open_ok hH1 hB) ?_; rintro _ w2 ⟨g, bv, bs', rfl, hB2, hH2⟩
  refine WL_call rfl rfl cf_spec_l92Crew (l92Crew_ok hH2 hB2 (by omega)) ?_; rintro _ w3 ⟨h', p, pv, c, dv, cv, nv, rv, p', rfl, hle, hP, hpl, hsm, hp', C, N, D, R, Ds, Rs, hO, hH3⟩; replace hH3 := H.behindCr hH3
  refine WL_v rfl (ov_extract rfl rfl) ?_
  refine WL_v rfl (ov_extract rfl rfl) ?_
  refine WL_v rfl (ov_assign rfl) ?_
  refine WL_storeN hH3 rfl rfl (i := 1) rfl rfl rfl (ones_cons hO.dq.sl.one (ones_cons hO.ct.sl.one (ones_cons hO.dn.sl.one (ones_cons hO.rw.sl.one ones_nil)))) sz_impl_Crew ?_; rintro w4 hH4
  refine WL_nil ?_
  exact WT_retTC Tryz.func16 Tryz.results16 rfl rfl (lvCrew (i := 1) (dv := dv) (cv := cv) (nv := nv) (rv := rv) rfl hH4) ⟨pv, dv, cv, nv, rv, rfl, drewCr_of hle hP hpl hsm.lim hO hH4.drop.drop⟩

theorem run_bs_five (W : World) : (Instr.buildSlice 25 1 #[(0, .int .i64 5)]).run Tryz.prog W = .ok (.slice (some ⟨W.heap.size, 0, none⟩) 1 1) (W.alloc (.cells [Value.int .i64 5].toArray 3)) := run_bs_int 5 W

set_option maxHeartbeats 4000000 in
theorem drawCrewValid_ok (hH : H w h Ls) {xv : Value} {bs : List Int} (hB : Bytes h xv bs) : Rets Tryz.prog 13 #[xv] w fun v w' => ∃ pv dv cv nv rv, v = .tuple #[pv, crV dv cv nv rv] ∧ DrewCr h Ls pv dv cv nv rv w' := by
  refine rets_enter Tryz.func13 rfl Tryz.ntmps13 (by simp) ?_
  refine WT_seq ?_
  refine WT_region ?_
  refine WL_v rfl (ov_assign rfl) ?_
  refine WL_alloc _ rfl hH zero_crew rfl ?_; rintro g3 w1 hH1
  refine WL_nil ?_
  refine WT_seq ?_
  refine WT_region ?_
  refine WL_v rfl (ov_move rfl) ?_
  refine WL_call rfl rfl cf_spec_l6Open (l6Open_ok hH1 hB) ?_; rintro _ w2 ⟨g, bv, bs', rfl, hB2, hH2⟩
  refine WL_v rfl (ov_assign rfl) ?_
  refine WL_nil ?_
  refine WT_seq ?_
  refine WT_region ?_
  refine WL_v rfl (ov_move rfl) ?_
  refine WL_call rfl rfl cf_spec_l92Crew (l92Crew_ok hH2 hB2 (by omega)) ?_; rintro _ w3 ⟨h', p, pv, c, dv, cv, nv, rv, p', rfl, hle, hP, hpl, hsm, hp', C, N, D, R, Ds, Rs, hO, hH3⟩; replace hH3 := H.behindCr hH3
  refine WL_v rfl (ov_move rfl) ?_
  refine WL_v rfl (ov_extract rfl rfl) ?_
  refine WL_v rfl (ov_extract rfl rfl) ?_
  refine WL_alloc _ rfl hH3 zero_crew rfl ?_; rintro g6 w4 hH4
  refine WL_v rfl (ov_assign rfl) ?_
  refine WL_storeN hH4 rfl rfl (i := 0) rfl rfl rfl (ones_cons hO.dq.sl.one (ones_cons hO.ct.sl.one (ones_cons hO.dn.sl.one (ones_cons hO.rw.sl.one ones_nil)))) sz_impl_Crew ?_; rintro w5 hH5
  refine WL_nil ?_
  refine WT_seq ?_
  refine WT_seq ?_
  refine WT_region ?_
  refine WL_v rfl (ov_move rfl) ?_
  replace hB := hB2.mono hle
  have hld := hsm.dd
  have hlq := hsm.dq
  have hlc := hsm.ct
  have hlr := hsm.rw
  clear hH hH1 hH2 hH3 hH4 hB2
  have hH6 : H w5 h' (crbox g6 dv cv nv rv :: rdr g bv p' :: cz9 g3 :: C :: N :: D :: R :: (Ds ++ (Rs ++ Ls))) := hH5
  clear hH5
  have hps := hP.sl
  by_cases hall : 0 < p.length ∧ 0 < c.ct.length ∧ 0 < c.dq.length
  · skip
    obtain ⟨g1, g2, g4⟩ := hall
    have hrl : c.rw.length = p.length := by
      rcases hsm.rl with h0 | h0
      · rw [h0] at g4; simp at g4
      · exact h0
    refine WL_v rfl (ov_len rfl hps st_sl_impl_Node) ?_
    refine WL_v rfl (ov_T (ov_gtr rfl rfl) (by first | exact decide_eq_true (by omega) | exact nb_T (by omega) | exact mb_T (by omega) | exact (by omega) | (simp only [decide_eq_true_eq]; omega) | simpa using (by omega))) ?_
    refine WL_v rfl (ov_move rfl) ?_
    refine WL_guardOn rfl rfl ?_
    refine WL_v rfl (ov_field rfl fo_impl_Crew_1) ?_
    refine WL_guardOn rfl rfl ?_
    refine WL_v rfl (ov_load rfl one_sl_int (hH6.cb 0 rfl 1)) ?_
    refine WL_guardOn rfl rfl ?_
    refine WL_v rfl (ov_len rfl hO.ct.sl st_sl_int) ?_
    refine WL_guardOn rfl rfl ?_
    refine WL_v rfl (ov_T (ov_gtr rfl rfl) (by first | exact decide_eq_true (by omega) | exact nb_T (by omega) | exact mb_T (by omega) | exact (by omega) | (simp only [decide_eq_true_eq]; omega) | simpa using (by omega))) ?_
    refine WL_v rfl (ov_pickT rfl rfl) ?_
    refine WL_v rfl (ov_move rfl) ?_
    refine WL_guardOn rfl rfl ?_
    refine WL_v rfl (ov_field rfl fo_impl_Crew_0) ?_
    refine WL_guardOn rfl rfl ?_
    refine WL_v rfl (ov_load rfl one_sl_sl_int (hH6.cb 0 rfl 0)) ?_
    refine WL_guardOn rfl rfl ?_
    refine WL_v rfl (ov_len rfl hO.dq.sl st_sl_sl_int) ?_
    refine WL_guardOn rfl rfl ?_
    refine WL_v rfl (ov_T (ov_gtr rfl rfl) (by first | exact decide_eq_true (by omega) | exact nb_T (by omega) | exact mb_T (by omega) | exact (by omega) | (simp only [decide_eq_true_eq]; omega) | simpa using (by omega))) ?_
    refine WL_v rfl (ov_pickT rfl rfl) ?_
    refine WL_nil ?_
    refine WT_join (ι := Unit) (fun _ => [(3, ptr g3), (5, pv), (6, ptr g6)]) (fun _ w => ∃ c' C N D R Ds Rs q, CrLim c' ∧ OCr C N D R Ds Rs dv cv nv rv c' ∧ H w h' (crbox g6 dv cv nv rv :: rdr g bv q :: cz9 g3 :: C :: N :: D :: R :: (Ds ++ (Rs ++ Ls)))) (fun joined => ?_) ?_
    · skip
      refine WT_condT rfl ?_
      refine WT_seq ?_
      refine WT_region ?_
      refine WL_v rfl (ov_move rfl) ?_
      refine WL_call rfl rfl cf_p_spec_l6Rd_pick (pick_ok hH6.swap hB (by omega) 8) ?_; rintro _ w6 ⟨r1, rfl, hr1, hH7⟩; replace hH7 := hH7.swap
      refine WL_nil ?_
      refine WT_block ?_
      refine WT_seq ?_
      refine WT_region ?_
      refine WL_v rfl (ov_eql rfl rfl) ?_
      refine WL_v rfl (ov_assign rfl) ?_
      refine WL_nil ?_
      refine WT_cond rfl (fun h0 => ?_) (fun h0 => ?_)
      · skip
        first | with_reducible replace h0 := of_decide_eq_true h0 | with_reducible replace h0 := bn_T h0 | with_reducible replace h0 := bb_T h0 | skip
        have hc0 := hsm.cv _ (List.getElem_mem g2)
        have hcs := hO.ct.sl
        refine WT_mixL [(0, 1), (1, 0), (2, 1), (3, 0), (4, 1), (5, 0), (6, 1), (7, 1), (8, 3)] mixed (by kernel_rfl) hH7 ?_
        clear hH7
        intro w7 hH7 hC
        refine WM_p rfl rfl (fun _ => ov_field rfl fo_impl_Crew_1) ?_
        refine WM_v rfl rfl hC (fun _ ⟨_, hH⟩ => ov_load rfl one_sl_int (hH.cb 1 rfl 1)) ?_
        refine WM_p rfl rfl (fun _ => ov_field rfl fo_impl_Crew_1) ?_
        refine WM_v rfl rfl hC (fun _ ⟨_, hH⟩ => ov_load rfl one_sl_int (hH.cb 1 rfl 1)) ?_
        refine WM_p rfl rfl (fun _ => ov_index (i := 0) rfl rfl st_sl_int hcs (by omega)) ?_
        refine WM_v rfl rfl hC (fun _ ⟨_, hH⟩ => ov_load rfl one_int (hO.ct.cell hH (i := 4) rfl g2)) ?_
        refine WM_p rfl rfl (fun _ => ov_add rfl rfl (by omega)) ?_
        refine WM_p rfl rfl (fun _ => ov_index (i := 0) rfl rfl st_sl_int hcs (by omega)) ?_
        refine WM_e rfl ?_
        refine WL_storeI (j := 0) hH7 rfl rfl (i := 3) rfl hO.ct g2 sz_int ?_; rintro C2 w8 hC2 hH8
        refine WL_mix (fun h => absurd rfl h) ?_
        refine WM_nil ?_
        refine WT_inBlock ?_
        refine joined () _ _ (by repeat (first | exact trivial | refine ⟨rfl, ?_⟩)) ⟨⟨c.dq, c.ct.set 0 (c.ct[0] + 1), c.dn, c.rw⟩, C2, N, D, R, Ds, Rs, _, ⟨hsm.lim.dq, hsm.lim.dd, by simp; omega, hsm.lim.dn, hsm.lim.rw, hsm.lim.rr⟩, ⟨hC2, hO.dn, hO.dq, hO.rw⟩, hH8⟩
      first | with_reducible replace h0 := of_decide_eq_false h0 | with_reducible replace h0 := bn_F h0 | with_reducible replace h0 := bb_F h0 | skip
      refine WT_seq ?_
      refine WT_region ?_
      refine WL_v rfl (ov_eql rfl rfl) ?_
      refine WL_v rfl (ov_assign rfl) ?_
      refine WL_nil ?_
      refine WT_cond rfl (fun h1 => ?_) (fun h1 => ?_)
      · skip
        first | with_reducible replace h1 := of_decide_eq_true h1 | with_reducible replace h1 := bn_T h1 | with_reducible replace h1 := bb_T h1 | skip
        obtain ⟨hilD, xsD, hRD, hatD⟩ := hO.dq
        have hxlD := hRD.len
        obtain ⟨u, F, e1, e2, e3⟩ := hatD _ g4
        have hul := e3.sl.one
        have hf0 := len_flat g4
        have hcu : ∀ {w' : World} {L : Heaplet}, H w' h' (L :: [crbox g6 dv cv nv rv, D]) → w'.cell? ((slA dv).add (0 * 1)) = some u := fun hH => by
          rw [Nat.mul_one]; exact hRD.cell hH (i := 2) rfl e1
        have hsub : ∀ {w' : World} {q : Nat} {Ms : List Heaplet} (A : List Heaplet), H w' h' (A ++ (crbox g6 dv cv nv rv :: rdr g bv q :: cz9 g3 :: C :: N :: D :: Ms)) → Cl h' [crbox g6 dv cv nv rv, D] w' := fun {w' q Ms} A hh => by
          have h1 : H w' h' ((A ++ [crbox g6 dv cv nv rv]) ++ ([rdr g bv q, cz9 g3, C, N] ++ (D :: Ms))) := by simpa using hh
          have h2 := H.dropMid h1
          have h3 : H w' h' (A ++ ([crbox g6 dv cv nv rv, D] ++ Ms)) := by simpa using h2
          exact Cl.sub A [crbox g6 dv cv nv rv, D] _ h3
        refine WT_mixS [(0, 1), (1, 0), (2, 1), (3, 0), (4, 1), (5, 0), (6, 2), (7, 2), (8, 1), (9, 3)] [crbox g6 dv cv nv rv, D] (fun w' hh => hsub [] hh) mixed (by kernel_rfl) hH7 ?_
        clear hH7
        intro w7 hH7 hC
        refine WM_p rfl rfl (fun _ => ov_field rfl fo_impl_Crew_0) ?_
        refine WM_v rfl rfl hC (fun _ ⟨_, hH⟩ => ov_load rfl one_sl_sl_int (hH.cb 1 rfl 0)) ?_
        refine WM_p rfl rfl (fun _ => ov_field rfl fo_impl_Crew_0) ?_
        refine WM_v rfl rfl hC (fun _ ⟨_, hH⟩ => ov_load rfl one_sl_sl_int (hH.cb 1 rfl 0)) ?_
        refine WM_p rfl rfl (fun _ => ov_index (i := 0) rfl rfl st_sl_sl_int hRD.sl (by omega)) ?_
        refine WM_v rfl rfl hC (fun _ ⟨_, hH⟩ => ov_load rfl one_sl_int (hcu hH)) ?_
        refine WM_e rfl ?_
        refine WL_bsI rfl hH7 rfl (run_bs_int _) ?_; rintro Z zv w8 hZ hH8
        replace hC : Cl _ _ _ := hsub [Z] hH8
        refine WL_mix (fun _ => hC) ?_
        refine WM_e rfl ?_
        refine WL_appI (i := 8 + 0) (j := 0) rfl hH8 rfl rfl st_sl_int (at_mid (A := [Z, crbox g6 dv cv nv rv, rdr g bv (p' + 1), cz9 g3, C, N, D, R]) e2) e3 rfl hZ (by simp; omega) (by simp; omega) ?_; rintro F2 u2 w9 hF2 hH9; replace hH9 := hH9.setMid (A := [Z, crbox g6 dv cv nv rv, rdr g bv (p' + 1), cz9 g3, C, N, D, R]) (by omega)
        replace hC : Cl _ _ _ := hsub [Z] hH9
        refine WL_mix (fun _ => hC) ?_
        refine WM_p rfl rfl (fun _ => ov_index (i := 0) rfl rfl st_sl_sl_int hRD.sl (by omega)) ?_
        refine WM_e rfl ?_
        refine WL_storeRow (j := 0 * 1) hH9 rfl rfl (i := 6) rfl hRD (by omega) hF2.sl.one sz_sl_int ?_; rintro D2 w10 hD2 hH10; rw [Nat.mul_one] at hD2
        refine WL_mix (fun h => absurd rfl h) ?_
        refine WM_nil ?_
        refine WT_inBlock ?_
        have hDQ := OLists.set g4 hilD (by omega) hatD hD2 hF2
        have hfs := flat_set_len c.dq 0 (c.dq[0] ++ [0])
        rw [List.length_append, List.length_singleton] at hfs
        refine joined () _ _ (by repeat (first | exact trivial | refine ⟨rfl, ?_⟩)) ⟨⟨c.dq.set 0 (c.dq[0] ++ [0]), c.ct, c.dn, c.rw⟩, C, N, D2, R, Ds.set 0 F2, Rs, _, ⟨by simp only [List.length_set]; exact hsm.lim.dq, by simp only; omega, hsm.lim.ct, hsm.lim.dn, hsm.lim.rw, hsm.lim.rr⟩, ⟨hO.ct, hO.dn, hDQ, hO.rw⟩, hH10.drop⟩
      first | with_reducible replace h1 := of_decide_eq_false h1 | with_reducible replace h1 := bn_F h1 | with_reducible replace h1 := bb_F h1 | skip
      refine WT_seq ?_
      refine WT_region ?_
      refine WL_v rfl (ov_eql rfl rfl) ?_
      refine WL_v rfl (ov_assign rfl) ?_
      refine WL_nil ?_
      refine WT_cond rfl (fun h2 => ?_) (fun h2 => ?_)
      · skip
        first | with_reducible replace h2 := of_decide_eq_true h2 | with_reducible replace h2 := bn_T h2 | with_reducible replace h2 := bb_T h2 | skip
        obtain ⟨hilR, xsR, hRR, hatR⟩ := hO.rw
        have hxlR := hRR.len
        have hlast : c.rw.length - 1 < c.rw.length := by omega
        refine WT_region ?_
        refine WL_v rfl (ov_field rfl fo_impl_Crew_3) ?_
        refine WL_v rfl (ov_load rfl one_sl_sl_int (hH7.cb 0 rfl 3)) ?_
        refine WL_v rfl (ov_field rfl fo_impl_Crew_3) ?_
        refine WL_v rfl (ov_load rfl one_sl_sl_int (hH7.cb 0 rfl 3)) ?_
        refine WL_v rfl (ov_len rfl hRR.sl st_sl_sl_int) ?_
        refine WL_v rfl (ov_as (ov_sub rfl rfl (by omega)) (congrArg (Value.int .i64) ((show (c.rw.length : Int) - 1 = ((c.rw.length - 1 : Nat) : Int) by omega)))) ?_
        refine WL_bsI rfl hH7 rfl (run_bs_int _) ?_; rintro Z zv w8 hZ hH8
        refine WL_v rfl (ov_index rfl rfl st_sl_sl_int hRR.sl hlast) ?_
        refine WL_storeRow hH8 rfl rfl (i := 7) rfl hRR (j := (c.rw.length - 1) * 1) (by omega) hZ.sl.one sz_sl_int ?_; rintro R2 w9 hR2 hH9; rw [Nat.mul_one] at hR2
        refine WL_nil ?_
        refine WT_inBlock ?_
        have hRW := OLists.set hlast hilR (by omega) hatR hR2 hZ
        have hH10 : H w9 h' (crbox g6 dv cv nv rv :: rdr g bv (p' + 1) :: cz9 g3 :: C :: N :: D :: R2 :: (Ds ++ (Rs.set (c.rw.length - 1) Z ++ Ls))) := by
          have h9 : H w9 h' (Z :: ((crbox g6 dv cv nv rv :: rdr g bv (p' + 1) :: cz9 g3 :: C :: N :: D :: R2 :: Ds) ++ (Rs ++ Ls))) := by simpa using hH9
          have := H.swapIn (m := c.rw.length - 1) (Rs := Rs) (by omega) h9
          simpa using this
        refine joined () _ _ (by repeat (first | exact trivial | refine ⟨rfl, ?_⟩)) ⟨⟨c.dq, c.ct, c.dn, c.rw.set (c.rw.length - 1) [5]⟩, C, N, D, R2, Ds, Rs.set (c.rw.length - 1) Z, _, ⟨hsm.lim.dq, hsm.lim.dd, hsm.lim.ct, hsm.lim.dn, by simp; omega, fun i hi => ?_⟩, ⟨hO.ct, hO.dn, hO.dq, hRW⟩, hH10⟩
        simp only [List.getElem_set]
        split
        · simp
        · exact hsm.lim.rr i (by simpa using hi)
      first | with_reducible replace h2 := of_decide_eq_false h2 | with_reducible replace h2 := bn_F h2 | with_reducible replace h2 := bb_F h2 | skip
      refine WT_skip ?_
      refine WT_inBlock ?_
      refine joined () _ _ (by repeat (first | exact trivial | refine ⟨rfl, ?_⟩)) ⟨c, C, N, D, R, Ds, Rs, _, hsm.lim, hO, hH7⟩
    clear hH6
    rintro _ w6 ⟨c', C, N, D, R, Ds, Rs, q, hlim, hO, hH6⟩
    refine WT_seq ?_
    refine WT_mixL [(0, 1), (1, 0), (2, 1), (3, 3)] mixed (by kernel_rfl) hH6 ?_
    clear hH6
    intro w10 hH6 hC
    refine WM_p rfl rfl (fun _ => ov_move rfl) ?_
    refine WM_v rfl rfl hC (fun _ ⟨_, hH⟩ => ov_loadN [dv, cv, nv, rv] rfl agg_impl_Crew rfl ((loadCrew (i := 1) rfl hH))) ?_
    refine WM_p rfl rfl (fun _ => ov_assign rfl) ?_
    refine WM_e rfl ?_
    refine WL_storeN hH6 rfl rfl (i := 2) rfl rfl rfl (ones_cons hO.dq.sl.one (ones_cons hO.ct.sl.one (ones_cons hO.dn.sl.one (ones_cons hO.rw.sl.one ones_nil)))) sz_impl_Crew ?_; rintro w11 hH11
    refine WL_mix (fun h => absurd rfl h) ?_
    refine WM_nil ?_
    exact WT_retTC Tryz.func13 Tryz.results13 rfl rfl (lvCrew (i := 2) (dv := dv) (cv := cv) (nv := nv) (rv := rv) rfl hH11) ⟨pv, dv, cv, nv, rv, rfl, drewCr_of hle hP hpl hlim hO hH11.drop.drop.drop⟩
  · skip
    by_cases g1 : 0 < p.length
    · skip
      by_cases g2 : 0 < c.ct.length
      · skip
        have g4 : ¬ 0 < c.dq.length := fun hh => hall ⟨g1, g2, hh⟩
        refine WL_v rfl (ov_len rfl hps st_sl_impl_Node) ?_
        refine WL_v rfl (ov_T (ov_gtr rfl rfl) (by first | exact decide_eq_true (by omega) | exact nb_T (by omega) | exact mb_T (by omega) | exact (by omega) | (simp only [decide_eq_true_eq]; omega) | simpa using (by omega))) ?_
        refine WL_v rfl (ov_move rfl) ?_
        refine WL_guardOn rfl rfl ?_
        refine WL_v rfl (ov_field rfl fo_impl_Crew_1) ?_
        refine WL_guardOn rfl rfl ?_
        refine WL_v rfl (ov_load rfl one_sl_int (hH6.cb 0 rfl 1)) ?_
        refine WL_guardOn rfl rfl ?_
        refine WL_v rfl (ov_len rfl hO.ct.sl st_sl_int) ?_
        refine WL_guardOn rfl rfl ?_
        refine WL_v rfl (ov_T (ov_gtr rfl rfl) (by first | exact decide_eq_true (by omega) | exact nb_T (by omega) | exact mb_T (by omega) | exact (by omega) | (simp only [decide_eq_true_eq]; omega) | simpa using (by omega))) ?_
        refine WL_v rfl (ov_pickT rfl rfl) ?_
        refine WL_v rfl (ov_move rfl) ?_
        refine WL_guardOn rfl rfl ?_
        refine WL_v rfl (ov_field rfl fo_impl_Crew_0) ?_
        refine WL_guardOn rfl rfl ?_
        refine WL_v rfl (ov_load rfl one_sl_sl_int (hH6.cb 0 rfl 0)) ?_
        refine WL_guardOn rfl rfl ?_
        refine WL_v rfl (ov_len rfl hO.dq.sl st_sl_sl_int) ?_
        refine WL_guardOn rfl rfl ?_
        refine WL_v rfl (ov_F (ov_gtr rfl rfl) (by first | exact decide_eq_false (by omega) | exact nb_F (by omega) | exact mb_F (by omega) | exact (by omega) | (simp only [decide_eq_false_iff_not]; omega) | simpa using (by omega))) ?_
        refine WL_v rfl (ov_pickT rfl rfl) ?_
        refine WL_nil ?_
        refine WT_condF rfl ?_
        refine WT_skip ?_
        refine WT_seq ?_
        refine WT_mixL [(0, 1), (1, 0), (2, 1), (3, 3)] mixed (by kernel_rfl) hH6 ?_
        clear hH6
        intro w10 hH6 hC
        refine WM_p rfl rfl (fun _ => ov_move rfl) ?_
        refine WM_v rfl rfl hC (fun _ ⟨_, hH⟩ => ov_loadN [dv, cv, nv, rv] rfl agg_impl_Crew rfl ((loadCrew (i := 1) rfl hH))) ?_
        refine WM_p rfl rfl (fun _ => ov_assign rfl) ?_
        refine WM_e rfl ?_
        refine WL_storeN hH6 rfl rfl (i := 2) rfl rfl rfl (ones_cons hO.dq.sl.one (ones_cons hO.ct.sl.one (ones_cons hO.dn.sl.one (ones_cons hO.rw.sl.one ones_nil)))) sz_impl_Crew ?_; rintro w11 hH11
        refine WL_mix (fun h => absurd rfl h) ?_
        refine WM_nil ?_
        exact WT_retTC Tryz.func13 Tryz.results13 rfl rfl (lvCrew (i := 2) (dv := dv) (cv := cv) (nv := nv) (rv := rv) rfl hH11) ⟨pv, dv, cv, nv, rv, rfl, drewCr_of hle hP hpl hsm.lim hO hH11.drop.drop.drop⟩
      · skip
        refine WL_v rfl (ov_len rfl hps st_sl_impl_Node) ?_
        refine WL_v rfl (ov_T (ov_gtr rfl rfl) (by first | exact decide_eq_true (by omega) | exact nb_T (by omega) | exact mb_T (by omega) | exact (by omega) | (simp only [decide_eq_true_eq]; omega) | simpa using (by omega))) ?_
        refine WL_v rfl (ov_move rfl) ?_
        refine WL_guardOn rfl rfl ?_
        refine WL_v rfl (ov_field rfl fo_impl_Crew_1) ?_
        refine WL_guardOn rfl rfl ?_
        refine WL_v rfl (ov_load rfl one_sl_int (hH6.cb 0 rfl 1)) ?_
        refine WL_guardOn rfl rfl ?_
        refine WL_v rfl (ov_len rfl hO.ct.sl st_sl_int) ?_
        refine WL_guardOn rfl rfl ?_
        refine WL_v rfl (ov_F (ov_gtr rfl rfl) (by first | exact decide_eq_false (by omega) | exact nb_F (by omega) | exact mb_F (by omega) | exact (by omega) | (simp only [decide_eq_false_iff_not]; omega) | simpa using (by omega))) ?_
        refine WL_v rfl (ov_pickT rfl rfl) ?_
        refine WL_v rfl (ov_move rfl) ?_
        refine WL_guardOff rfl rfl rfl rfl ?_
        refine WL_guardOff rfl rfl rfl rfl ?_
        refine WL_guardOff rfl rfl rfl rfl ?_
        refine WL_guardOff rfl rfl rfl rfl ?_
        refine WL_v rfl (ov_pickF rfl rfl) ?_
        refine WL_nil ?_
        refine WT_condF rfl ?_
        refine WT_skip ?_
        refine WT_seq ?_
        refine WT_mixL [(0, 1), (1, 0), (2, 1), (3, 3)] mixed (by kernel_rfl) hH6 ?_
        clear hH6
        intro w10 hH6 hC
        refine WM_p rfl rfl (fun _ => ov_move rfl) ?_
        refine WM_v rfl rfl hC (fun _ ⟨_, hH⟩ => ov_loadN [dv, cv, nv, rv] rfl agg_impl_Crew rfl ((loadCrew (i := 1) rfl hH))) ?_
        refine WM_p rfl rfl (fun _ => ov_assign rfl) ?_
        refine WM_e rfl ?_
        refine WL_storeN hH6 rfl rfl (i := 2) rfl rfl rfl (ones_cons hO.dq.sl.one (ones_cons hO.ct.sl.one (ones_cons hO.dn.sl.one (ones_cons hO.rw.sl.one ones_nil)))) sz_impl_Crew ?_; rintro w11 hH11
        refine WL_mix (fun h => absurd rfl h) ?_
        refine WM_nil ?_
        exact WT_retTC Tryz.func13 Tryz.results13 rfl rfl (lvCrew (i := 2) (dv := dv) (cv := cv) (nv := nv) (rv := rv) rfl hH11) ⟨pv, dv, cv, nv, rv, rfl, drewCr_of hle hP hpl hsm.lim hO hH11.drop.drop.drop⟩
    · skip
      refine WL_v rfl (ov_len rfl hps st_sl_impl_Node) ?_
      refine WL_v rfl (ov_F (ov_gtr rfl rfl) (by first | exact decide_eq_false (by omega) | exact nb_F (by omega) | exact mb_F (by omega) | exact (by omega) | (simp only [decide_eq_false_iff_not]; omega) | simpa using (by omega))) ?_
      refine WL_v rfl (ov_move rfl) ?_
      refine WL_guardOff rfl rfl rfl rfl ?_
      refine WL_guardOff rfl rfl rfl rfl ?_
      refine WL_guardOff rfl rfl rfl rfl ?_
      refine WL_guardOff rfl rfl rfl rfl ?_
      refine WL_v rfl (ov_pickF rfl rfl) ?_
      refine WL_v rfl (ov_move rfl) ?_
      refine WL_guardOff rfl rfl rfl rfl ?_
      refine WL_guardOff rfl rfl rfl rfl ?_
      refine WL_guardOff rfl rfl rfl rfl ?_
      refine WL_guardOff rfl rfl rfl rfl ?_
      refine WL_v rfl (ov_pickF rfl rfl) ?_
      refine WL_nil ?_
      refine WT_condF rfl ?_
      refine WT_skip ?_
      refine WT_seq ?_
      refine WT_mixL [(0, 1), (1, 0), (2, 1), (3, 3)] mixed (by kernel_rfl) hH6 ?_
      clear hH6
      intro w10 hH6 hC
      refine WM_p rfl rfl (fun _ => ov_move rfl) ?_
      refine WM_v rfl rfl hC (fun _ ⟨_, hH⟩ => ov_loadN [dv, cv, nv, rv] rfl agg_impl_Crew rfl ((loadCrew (i := 1) rfl hH))) ?_
      refine WM_p rfl rfl (fun _ => ov_assign rfl) ?_
      refine WM_e rfl ?_
      refine WL_storeN hH6 rfl rfl (i := 2) rfl rfl rfl (ones_cons hO.dq.sl.one (ones_cons hO.ct.sl.one (ones_cons hO.dn.sl.one (ones_cons hO.rw.sl.one ones_nil)))) sz_impl_Crew ?_; rintro w11 hH11
      refine WL_mix (fun h => absurd rfl h) ?_
      refine WM_nil ?_
      exact WT_retTC Tryz.func13 Tryz.results13 rfl rfl (lvCrew (i := 2) (dv := dv) (cv := cv) (nv := nv) (rv := rv) rfl hH11) ⟨pv, dv, cv, nv, rv, rfl, drewCr_of hle hP hpl hsm.lim hO hH11.drop.drop.drop⟩

/-- A drawn plan with a crew and a number. -/
theorem l92Worker_ok {g : Nat} {bv : Value} {bs : List Int} (hH : H w h (rdr g bv 0 :: Ls)) (hB : Bytes h bv bs) : Rets Tryz.prog 47 #[.pointer (some ⟨g, 0, none⟩)] w fun v w' => ∃ pv dv cv nv rv a, v = .tuple #[pv, crV dv cv nv rv, .int .i64 a] ∧ -1 ≤ a ∧ a ≤ 100 ∧ DrewCr h Ls pv dv cv nv rv w' := by
  refine rets_enter Tryz.func47 rfl Tryz.ntmps47 (by simp) ?_
  refine WT_seq ?_
  refine WT_region ?_
  refine WL_v rfl (ov_assign rfl) ?_
  refine WL_alloc _ rfl hH zero_crew rfl ?_; rintro g3 w1 hH1
  refine WL_v rfl (ov_assign rfl) ?_
  refine WL_nil ?_
  refine WT_seq ?_
  refine WT_region ?_
  refine WL_v rfl (ov_move rfl) ?_
  refine WL_call rfl rfl cf_spec_l92Crew (l92Crew_ok hH1.swap hB (by omega)) ?_; rintro _ w3 ⟨h', p, pv, c, dv, cv, nv, rv, p', rfl, hle, hP, hpl, hsm, hp', C, N, D, R, Ds, Rs, hO, hH3⟩; replace hH3 := H.behindCr hH3
  refine WL_v rfl (ov_move rfl) ?_
  refine WL_v rfl (ov_extract rfl rfl) ?_
  refine WL_v rfl (ov_extract rfl rfl) ?_
  refine WL_alloc _ rfl hH3 zero_crew rfl ?_; rintro g6 w4 hH4
  refine WL_v rfl (ov_assign rfl) ?_
  refine WL_storeN hH4 rfl rfl (i := 0) rfl rfl rfl (ones_cons hO.dq.sl.one (ones_cons hO.ct.sl.one (ones_cons hO.dn.sl.one (ones_cons hO.rw.sl.one ones_nil)))) sz_impl_Crew ?_; rintro w5 hH5
  refine WL_nil ?_
  refine WT_seq ?_
  replace hB := hB.mono hle
  have hlq := hsm.dq
  clear hH hH1 hH3 hH4
  have hH6 : H w5 h' ([crbox g6 dv cv nv rv] ++ (rdr g bv p' :: cz9 g3 :: C :: N :: D :: R :: (Ds ++ (Rs ++ Ls)))) := hH5
  have hqs := hO.dq.sl
  clear hH5
  refine WT_mixS [(0, 1), (1, 0), (2, 1), (3, 1), (4, 0), (5, 1), (6, 1), (8, 1), (7, 2), (9, 2), (10, 1), (11, 1), (12, 1), (13, 2), (14, 1)] [crbox g6 dv cv nv rv] (fun w' hh => Cl.sub [] [crbox g6 dv cv nv rv] _ hh) mixed (by kernel_rfl) hH6 ?_
  clear hH6
  intro w6 hH6 hC
  refine WM_p rfl rfl (fun _ => ov_move rfl) ?_
  refine WM_v rfl rfl hC (fun _ ⟨_, hH⟩ => ov_loadN [dv, cv, nv, rv] rfl agg_impl_Crew rfl ((loadCrew (i := 1) rfl hH))) ?_
  refine WM_p rfl rfl (fun _ => ov_move rfl) ?_
  refine WM_p rfl rfl (fun _ => ov_field rfl fo_impl_Crew_0) ?_
  refine WM_v rfl rfl hC (fun _ ⟨_, hH⟩ => ov_load rfl one_sl_sl_int (hH.cb 1 rfl 0)) ?_
  refine WM_p rfl rfl (fun _ => ov_len rfl hqs st_sl_sl_int) ?_
  refine WM_p rfl rfl (fun _ => ov_as (ov_add rfl rfl (by omega)) (congrArg (Value.int .i64) ((show (c.dq.length : Int) + 1 = ((c.dq.length + 1 : Nat) : Int) by omega)))) ?_
  refine WM_p rfl rfl (fun _ => ov_move rfl) ?_
  refine WM_e rfl ?_
  refine WL_call rfl rfl cf_p_spec_l6Rd_pick (pick_ok hH6.swap hB (by omega) ((c.dq.length + 1 : Nat) : Int)) ?_; rintro _ w7 ⟨r1, rfl, hr1, hH7⟩; have hr14 := hr1.1 (by omega)
  replace hC : Cl _ _ _ := Cl.sub [rdr g bv (p' + 1)] [crbox g6 dv cv nv rv] _ hH7
  refine WL_mix (fun _ => hC) ?_
  refine WM_e rfl ?_
  refine WL_call rfl rfl cf_p_spec_l6Rd_pick (pick_ok hH7 hB (by omega) 20) ?_; rintro _ w8 ⟨r2, rfl, hr2, hH8⟩; have hr24 := hr2.1 (by omega)
  replace hC : Cl _ _ _ := Cl.sub [rdr g bv (p' + 1 + 1)] [crbox g6 dv cv nv rv] _ hH8
  refine WL_mix (fun _ => hC) ?_
  refine WM_p rfl rfl (fun _ => ov_quo rfl rfl (by omega) (by omega) (by omega)) ?_
  refine WM_p rfl rfl (fun _ => ov_sub rfl rfl (by omega)) ?_
  refine WM_p rfl rfl (fun _ => ov_assign rfl) ?_
  refine WM_e rfl ?_
  refine WL_storeN hH8 rfl rfl (i := 2) rfl rfl rfl (ones_cons hO.dq.sl.one (ones_cons hO.ct.sl.one (ones_cons hO.dn.sl.one (ones_cons hO.rw.sl.one ones_nil)))) sz_impl_Crew ?_; rintro w9 hH9
  replace hC : Cl _ _ _ := Cl.sub [rdr g bv (p' + 1 + 1)] [crbox g6 dv cv nv rv] _ hH9
  refine WL_mix (fun _ => hC) ?_
  refine WM_p rfl rfl (fun _ => ov_assign rfl) ?_
  refine WM_nil ?_
  exact WT_retTCT Tryz.func47 Tryz.results47 rfl rfl rfl (lvCrew (i := 2) (dv := dv) (cv := cv) (nv := nv) (rv := rv) rfl hH9) ⟨pv, dv, cv, nv, rv, _, rfl, by omega, by omega, drewCr_of hle hP hpl hsm.lim hO hH9.drop.drop.drop⟩
theorem drawTurnFrom_ok (hH : H w h Ls) {xv : Value} {bs : List Int} (hB : Bytes h xv bs) : Rets Tryz.prog 19 #[xv] w fun v w' => ∃ pv dv cv nv rv a, v = .tuple #[pv, crV dv cv nv rv, .int .i64 a] ∧ -1 ≤ a ∧ a ≤ 100 ∧ DrewCr h Ls pv dv cv nv rv w' := by
  refine rets_enter Tryz.func19 rfl Tryz.ntmps19 (by simp) ?_
  refine WT_seq ?_
  refine WT_region ?_
  refine WL_v rfl (ov_assign rfl) ?_
  refine WL_alloc _ rfl hH zero_crew rfl ?_; rintro g3 w1 hH1
  refine WL_v rfl (ov_assign rfl) ?_
  refine WL_nil ?_
  refine WT_seq ?_
  refine WT_region ?_
  refine WL_v rfl (ov_move rfl) ?_
  refine WL_call rfl rfl cf_spec_l6Open (l6Open_ok hH1 hB) ?_; rintro _ w2 ⟨g, bv, bs', rfl, hB2, hH2⟩
  refine WL_call rfl rfl cf_spec_l92Worker (l92Worker_ok hH2 hB2) ?_; rintro _ w3 ⟨pv, dv, cv, nv, rv, a, rfl, ha1, ha2, h', p, c, hle, hP, hpl, hR, hlim, hH3⟩
  refine WL_v rfl (ov_extract rfl rfl) ?_
  refine WL_v rfl (ov_extract rfl rfl) ?_
  refine WL_v rfl (ov_extract rfl rfl) ?_
  refine WL_v rfl (ov_assign rfl) ?_
  refine WL_storeN hH3 rfl rfl (i := 0) rfl rfl rfl (ones_cons (hR []).dq.sl.one (ones_cons (hR []).ct.sl.one (ones_cons (hR []).dn.sl.one (ones_cons (hR []).rw.sl.one ones_nil)))) sz_impl_Crew ?_; rintro w4 hH4
  refine WL_v rfl (ov_assign rfl) ?_
  refine WL_nil ?_
  exact WT_retTCT Tryz.func19 Tryz.results19 rfl rfl rfl (lvCrew (i := 0) (dv := dv) (cv := cv) (nv := nv) (rv := rv) rfl hH4) ⟨pv, dv, cv, nv, rv, a, rfl, ha1, ha2, h', p, c, hle, hP, hpl, hR, hlim, hH4.drop⟩

set_option maxHeartbeats 2000000 in
theorem drawCrewAt_ok (hH : H w h Ls) {xv : Value} {bs : List Int} (hB : Bytes h xv bs) : Rets Tryz.prog 27 #[xv] w fun v w' => ∃ pv dv cv nv rv a, v = .tuple #[pv, crV dv cv nv rv, .int .i64 a] ∧ -1 ≤ a ∧ a ≤ 100 ∧ DrewCr h Ls pv dv cv nv rv w' := by
  refine rets_enter Tryz.func27 rfl Tryz.ntmps27 (by simp) ?_
  refine WT_seq ?_
  refine WT_region ?_
  refine WL_v rfl (ov_assign rfl) ?_
  refine WL_alloc _ rfl hH zero_crew rfl ?_; rintro g3 w1 hH1
  refine WL_v rfl (ov_assign rfl) ?_
  refine WL_nil ?_
  refine WT_seq ?_
  refine WT_region ?_
  refine WL_v rfl (ov_move rfl) ?_
  refine WL_call rfl rfl cf_spec_l6Open (l6Open_ok hH1 hB) ?_; rintro _ w2 ⟨g, bv, bs', rfl, hB2, hH2⟩
  refine WL_v rfl (ov_assign rfl) ?_
  refine WL_nil ?_
  refine WT_seq ?_
  refine WT_region ?_
  refine WL_v rfl (ov_move rfl) ?_
  refine WL_call rfl rfl cf_spec_l92Crew (l92Crew_ok hH2 hB2 (by omega)) ?_; rintro _ w3 ⟨h', p, pv, c, dv, cv, nv, rv, p', rfl, hle, hP, hpl, hsm, hp', C, N, D, R, Ds, Rs, hO, hH3⟩; replace hH3 := H.behindCr hH3
  refine WL_v rfl (ov_move rfl) ?_
  refine WL_v rfl (ov_extract rfl rfl) ?_
  refine WL_v rfl (ov_extract rfl rfl) ?_
  refine WL_alloc _ rfl hH3 zero_crew rfl ?_; rintro g6 w4 hH4
  refine WL_v rfl (ov_assign rfl) ?_
  refine WL_storeN hH4 rfl rfl (i := 0) rfl rfl rfl (ones_cons hO.dq.sl.one (ones_cons hO.ct.sl.one (ones_cons hO.dn.sl.one (ones_cons hO.rw.sl.one ones_nil)))) sz_impl_Crew ?_; rintro w5 hH5
  refine WL_nil ?_
  refine WT_seq ?_
  refine WT_region ?_
  refine WL_v rfl (ov_move rfl) ?_
  refine WL_v rfl (ov_field rfl fo_impl_Crew_2) ?_
  replace hB := hB2.mono hle
  have hH6 : H w5 h' (crbox g6 dv cv nv rv :: rdr g bv p' :: cz9 g3 :: C :: N :: D :: R :: (Ds ++ (Rs ++ Ls))) := hH5
  clear hH hH1 hH2 hH3 hH4 hH5 hB2
  have hrd := hO.rd (h := h') (Ls := Ls)
  have hdn := hsm.dn
  refine WL_v rfl (ov_load rfl one_sl_int (hH6.cb 0 rfl 2)) ?_
  refine WL_call rfl rfl cf_spec_ReadyOf (sReadyOf_ok hH6 hP ((hrd.ups [crbox g6 dv cv nv rv, rdr g bv p', cz9 g3]).dn) (by omega)) ?_; rintro qv w6 ⟨Q, hQ, hH7⟩
  refine WL_v rfl (ov_assign rfl) ?_
  refine WL_nil ?_
  refine WT_seq ?_
  refine WT_seq ?_
  refine WT_region ?_
  refine WL_v rfl (ov_move rfl) ?_
  have hrb : ∀ a ∈ readyOf p c.dn, 0 ≤ a ∧ a ≤ 11 := fun a ha => by
    unfold readyOf at ha
    split at ha
    · obtain ⟨i, hi, rfl⟩ := List.mem_map.1 ha
      have := (mem_readyL.1 hi).1
      omega
    · simp at ha
  generalize readyOf p c.dn = rd at hQ hrb
  have hH8 : H w6 h' (rdr g bv p' :: Q :: crbox g6 dv cv nv rv :: cz9 g3 :: C :: N :: D :: R :: (Ds ++ (Rs ++ Ls))) := (hH7.pull 2 rfl)
  clear hH6 hH7
  have hQl := hQ.sl.lim
  by_cases hne : 0 < rd.length
  · skip
    refine WL_v rfl (ov_len rfl hQ.sl st_sl_int) ?_
    refine WL_v rfl (ov_T (ov_gtr rfl rfl) (by first | exact decide_eq_true (by omega) | exact nb_T (by omega) | exact mb_T (by omega) | exact (by omega) | (simp only [decide_eq_true_eq]; omega) | simpa using (by omega))) ?_
    refine WL_v rfl (ov_move rfl) ?_
    refine WL_guardOn rfl rfl ?_
    refine WL_v rfl (ov_move rfl) ?_
    refine WL_guardOn rfl rfl ?_
    refine WL_call rfl rfl cf_p_spec_l6Rd_pick (pick_ok hH8 hB (by omega) 3) ?_; rintro _ w7 ⟨r1, rfl, hr1, hH9⟩
    refine WL_guardOn rfl rfl ?_
    refine WL_v rfl (ov_gtr rfl rfl) ?_
    refine WL_v rfl (ov_pickT rfl rfl) ?_
    refine WL_nil ?_
    refine WT_cond rfl (fun hc => ?_) (fun hc => ?_)
    · skip
      first | with_reducible replace hc := of_decide_eq_true hc | with_reducible replace hc := bn_T hc | with_reducible replace hc := bb_T hc | skip
      have hQs := hQ.sl
      refine WT_seq ?_
      refine WT_mixS [(0, 1), (1, 0), (2, 1), (3, 1), (4, 1), (5, 1), (6, 2), (7, 1), (8, 0), (9, 1), (10, 2), (11, 1)] [Q, crbox g6 dv cv nv rv] (fun w' hh => Cl.sub [rdr g bv (p' + 1)] [Q, crbox g6 dv cv nv rv] _ hh) mixed (by kernel_rfl) hH9 ?_
      clear hH9
      intro w8 hH9 hC
      refine WM_p rfl rfl (fun _ => ov_move rfl) ?_
      refine WM_v rfl rfl hC (fun _ ⟨_, hH⟩ => ov_loadN [dv, cv, nv, rv] rfl agg_impl_Crew rfl ((loadCrew (i := 2) rfl hH))) ?_
      refine WM_p rfl rfl (fun _ => ov_move rfl) ?_
      refine WM_p rfl rfl (fun _ => ov_move rfl) ?_
      refine WM_p rfl rfl (fun _ => ov_move rfl) ?_
      refine WM_p rfl rfl (fun _ => ov_len rfl hQs st_sl_int) ?_
      refine WM_e rfl ?_
      refine WL_call rfl rfl cf_p_spec_l6Rd_pick (pick_ok hH9 hB (by omega) ((rd.length : Nat) : Int)) ?_; rintro _ w9 ⟨r2, rfl, hr2, hH10⟩; have hr24 := hr2.1 (by omega)
      replace hC : Cl _ _ _ := Cl.sub [rdr g bv (p' + 1 + 1)] [Q, crbox g6 dv cv nv rv] _ hH10
      refine WL_mix (fun _ => hC) ?_
      refine WM_p rfl rfl (fun _ => ov_index rfl rfl st_sl_int hQs (by omega)) ?_
      refine WM_v rfl rfl hC (fun _ ⟨_, hH⟩ => ov_load rfl one_int (hQ.cell hH (i := 1) rfl (show r2 < rd.length by omega))) ?_
      refine WM_p rfl rfl (fun _ => ov_assign rfl) ?_
      refine WM_e rfl ?_
      refine WL_storeN hH10 rfl rfl (i := 3) rfl rfl rfl (ones_cons hO.dq.sl.one (ones_cons hO.ct.sl.one (ones_cons hO.dn.sl.one (ones_cons hO.rw.sl.one ones_nil)))) sz_impl_Crew ?_; rintro w11 hH11
      replace hC : Cl _ _ _ := Cl.sub [rdr g bv (p' + 1 + 1)] [Q, crbox g6 dv cv nv rv] _ hH11
      refine WL_mix (fun _ => hC) ?_
      refine WM_p rfl rfl (fun _ => ov_assign rfl) ?_
      refine WM_nil ?_
      exact WT_retTCT Tryz.func27 Tryz.results27 rfl rfl rfl (lvCrew (i := 3) (dv := dv) (cv := cv) (nv := nv) (rv := rv) rfl hH11) ⟨pv, dv, cv, nv, rv, _, rfl, by have := hrb _ (List.getElem_mem (show r2 < rd.length by omega)); omega, by have := hrb _ (List.getElem_mem (show r2 < rd.length by omega)); omega, drewCr_of hle hP hpl hsm.lim hO hH11.drop.drop.drop.drop⟩
    first | with_reducible replace hc := of_decide_eq_false hc | with_reducible replace hc := bn_F hc | with_reducible replace hc := bb_F hc | skip
    refine WT_skip ?_
    refine WT_seq ?_
    refine WT_mixS [(0, 1), (1, 0), (2, 1), (3, 2), (4, 1), (5, 3), (6, 1)] [Q, crbox g6 dv cv nv rv] (fun w' hh => Cl.sub [rdr g bv (p' + 1)] [Q, crbox g6 dv cv nv rv] _ hh) mixed (by kernel_rfl) hH9 ?_
    clear hH9
    intro w8 hH9 hC
    refine WM_p rfl rfl (fun _ => ov_move rfl) ?_
    refine WM_v rfl rfl hC (fun _ ⟨_, hH⟩ => ov_loadN [dv, cv, nv, rv] rfl agg_impl_Crew rfl ((loadCrew (i := 2) rfl hH))) ?_
    refine WM_p rfl rfl (fun _ => ov_move rfl) ?_
    refine WM_e rfl ?_
    refine WL_call rfl rfl cf_p_spec_l6Rd_pick (pick_ok hH9 hB (by omega) 10) ?_; rintro _ w9 ⟨r2, rfl, hr2, hH10⟩; have hr24 := hr2.1 (by omega)
    replace hC : Cl _ _ _ := Cl.sub [rdr g bv (p' + 1 + 1)] [Q, crbox g6 dv cv nv rv] _ hH10
    refine WL_mix (fun _ => hC) ?_
    refine WM_p rfl rfl (fun _ => ov_assign rfl) ?_
    refine WM_e rfl ?_
    refine WL_storeN hH10 rfl rfl (i := 3) rfl rfl rfl (ones_cons hO.dq.sl.one (ones_cons hO.ct.sl.one (ones_cons hO.dn.sl.one (ones_cons hO.rw.sl.one ones_nil)))) sz_impl_Crew ?_; rintro w11 hH11
    refine WL_mix (fun h => absurd rfl h) ?_
    refine WM_p rfl rfl (fun _ => ov_assign rfl) ?_
    refine WM_nil ?_
    exact WT_retTCT Tryz.func27 Tryz.results27 rfl rfl rfl (lvCrew (i := 3) (dv := dv) (cv := cv) (nv := nv) (rv := rv) rfl hH11) ⟨pv, dv, cv, nv, rv, _, rfl, by omega, by omega, drewCr_of hle hP hpl hsm.lim hO hH11.drop.drop.drop.drop⟩
  · skip
    refine WL_v rfl (ov_len rfl hQ.sl st_sl_int) ?_
    refine WL_v rfl (ov_F (ov_gtr rfl rfl) (by first | exact decide_eq_false (by omega) | exact nb_F (by omega) | exact mb_F (by omega) | exact (by omega) | (simp only [decide_eq_false_iff_not]; omega) | simpa using (by omega))) ?_
    refine WL_v rfl (ov_move rfl) ?_
    refine WL_guardOff rfl rfl rfl rfl ?_
    refine WL_guardOff rfl rfl rfl rfl ?_
    refine WL_guardOff rfl rfl rfl rfl ?_
    refine WL_v rfl (ov_pickF rfl rfl) ?_
    refine WL_nil ?_
    refine WT_condF rfl ?_
    refine WT_skip ?_
    refine WT_seq ?_
    refine WT_mixS [(0, 1), (1, 0), (2, 1), (3, 2), (4, 1), (5, 3), (6, 1)] [Q, crbox g6 dv cv nv rv] (fun w' hh => Cl.sub [rdr g bv p'] [Q, crbox g6 dv cv nv rv] _ hh) mixed (by kernel_rfl) hH8 ?_
    clear hH8
    intro w8 hH8 hC
    refine WM_p rfl rfl (fun _ => ov_move rfl) ?_
    refine WM_v rfl rfl hC (fun _ ⟨_, hH⟩ => ov_loadN [dv, cv, nv, rv] rfl agg_impl_Crew rfl ((loadCrew (i := 2) rfl hH))) ?_
    refine WM_p rfl rfl (fun _ => ov_move rfl) ?_
    refine WM_e rfl ?_
    refine WL_call rfl rfl cf_p_spec_l6Rd_pick (pick_ok hH8 hB (by omega) 10) ?_; rintro _ w9 ⟨r2, rfl, hr2, hH10⟩; have hr24 := hr2.1 (by omega)
    replace hC : Cl _ _ _ := Cl.sub [rdr g bv (p' + 1)] [Q, crbox g6 dv cv nv rv] _ hH10
    refine WL_mix (fun _ => hC) ?_
    refine WM_p rfl rfl (fun _ => ov_assign rfl) ?_
    refine WM_e rfl ?_
    refine WL_storeN hH10 rfl rfl (i := 3) rfl rfl rfl (ones_cons hO.dq.sl.one (ones_cons hO.ct.sl.one (ones_cons hO.dn.sl.one (ones_cons hO.rw.sl.one ones_nil)))) sz_impl_Crew ?_; rintro w11 hH11
    refine WL_mix (fun h => absurd rfl h) ?_
    refine WM_p rfl rfl (fun _ => ov_assign rfl) ?_
    refine WM_nil ?_
    exact WT_retTCT Tryz.func27 Tryz.results27 rfl rfl rfl (lvCrew (i := 3) (dv := dv) (cv := cv) (nv := nv) (rv := rv) rfl hH11) ⟨pv, dv, cv, nv, rv, _, rfl, by omega, by omega, drewCr_of hle hP hpl hsm.lim hO hH11.drop.drop.drop.drop⟩
end
end Go.Proofs.YtlmdmgjppdhelaaGreat

/- Walks: what is left of a crew's work; who has a node; who takes from whom. -/
namespace Go.Proofs.YtlmdmgjppdhelaaGreat
open Go.RowKit

def crewLeft (p : List Nd) (c : Cr) : Int := if crewOk p c = true then (p.length : Int) - (c.dn.length : Int) else -1
def crewAt (p : List Nd) (c : Cr) (a : Int) : Int := if crewOk p c = true then lastW c.dq a c.dq.length else -1

section
variable {h : GH} {Ls : List Heaplet} {w : World}

theorem crewLeft_ok (hH : H w h Ls) {pv dv cv nv rv : Value} {p : List Nd} {c : Cr} (hP : Plan h pv p) (hl : CrLim c) (hC : RdCr h Ls dv cv nv rv c) : Rets Tryz.prog 17 #[pv, crV dv cv nv rv] w fun v w' => v = .int .i64 (crewLeft p c) ∧ H w' h Ls := by
  have hln := hl.dn
  have hlp := hP.sl
  have hcv := fun {w : World} {X : Heaplet} (hH : H w h (X :: Ls)) => crewValid_ok hH hP hl hC.up
  obtain ⟨A2, c2, rfl, _⟩ := hC.dq.sl.form
  obtain ⟨A3, c3, rfl, _⟩ := hC.ct.sl.form
  obtain ⟨A4, c4, rfl, _⟩ := hC.dn.sl.form
  obtain ⟨A5, c5, rfl, _⟩ := hC.rw.sl.form
  refine rets_enter Tryz.func17 rfl Tryz.ntmps17 (by simp) ?_
  refine WT_seq ?_
  refine WT_region ?_
  refine WL_box _ rfl hH rfl rfl ?_; rintro b w1 hH1; replace hH1 : H w1 h (crbox b (.slice A2 c.dq.length c2) (.slice A3 c.ct.length c3) (.slice A4 c.dn.length c4) (.slice A5 c.rw.length c5) :: Ls) := hH1
  refine WL_v rfl (ov_assign rfl) ?_
  refine WL_nil ?_
  refine WT_seq ?_
  refine WT_seq ?_
  refine WT_region ?_
  refine WL_v rfl (ov_move rfl) ?_
  by_cases hv : crewOk p c = true
  · skip
    rw [crewLeft, if_pos hv]
    rw [hv] at hcv
    have hlen := PlanOk.len ((crewOk_iff p c).1 hv).plan
    refine WL_v rfl (ov_loadN [.slice A2 c.dq.length c2, .slice A3 c.ct.length c3, .slice A4 c.dn.length c4, .slice A5 c.rw.length c5] rfl agg_impl_Crew rfl ((loadCrew (i := 0) rfl hH1))) ?_
    refine WL_call rfl rfl cf_impl_CrewValid (hcv hH1) ?_; rintro _ w2 ⟨rfl, hH2⟩
    refine WL_v rfl (ov_not rfl) ?_
    refine WL_nil ?_
    refine WT_condF rfl ?_
    refine WT_skip ?_
    refine WT_seq ?_
    refine WT_region ?_
    refine WL_v rfl (ov_move rfl) ?_
    refine WL_v rfl (ov_len rfl hlp st_sl_impl_Node) ?_
    refine WL_v rfl (ov_field rfl fo_impl_Crew_2) ?_
    refine WL_v rfl (ov_load rfl one_sl_int (hH2.cb 0 rfl 2)) ?_
    refine WL_v rfl (ov_len rfl hC.dn.sl st_sl_int) ?_
    refine WL_v rfl (ov_sub rfl rfl (by omega)) ?_
    refine WL_v rfl (ov_assign rfl) ?_
    refine WL_nil ?_
    exact WT_ret1 Tryz.func17 Tryz.results17 rfl ⟨rfl, hH2.drop⟩
  · skip
    rw [crewLeft, if_neg hv]
    have hv' : crewOk p c = false := by simpa using hv
    rw [hv'] at hcv
    refine WL_v rfl (ov_loadN [.slice A2 c.dq.length c2, .slice A3 c.ct.length c3, .slice A4 c.dn.length c4, .slice A5 c.rw.length c5] rfl agg_impl_Crew rfl ((loadCrew (i := 0) rfl hH1))) ?_
    refine WL_call rfl rfl cf_impl_CrewValid (hcv hH1) ?_; rintro _ w2 ⟨rfl, hH2⟩
    refine WL_v rfl (ov_not rfl) ?_
    refine WL_nil ?_
    refine WT_condT rfl ?_
    refine WT_seq ?_
    refine WT_region ?_
    refine WL_v rfl (ov_assign rfl) ?_
    refine WL_nil ?_
    exact WT_ret1 Tryz.func17 Tryz.results17 rfl ⟨rfl, hH2.drop⟩

theorem sCrewLeft_ok (hH : H w h Ls) {pv dv cv nv rv : Value} {p : List Nd} {c : Cr} (hP : Plan h pv p) (hpl : p.length ≤ 1000000000) (hl : CrLim c) (hC : RdCr h Ls dv cv nv rv c) : Rets Tryz.prog 18 #[pv, crV dv cv nv rv] w fun v w' => v = .int .i64 (crewLeft p c) ∧ H w' h Ls := by
  have hln := hl.dn
  have hlp := hP.sl
  have hcv := fun {w : World} {X : Heaplet} (hH : H w h (X :: Ls)) => sCrewValid_ok hH hP hpl hl hC.up
  obtain ⟨A2, c2, rfl, _⟩ := hC.dq.sl.form
  obtain ⟨A3, c3, rfl, _⟩ := hC.ct.sl.form
  obtain ⟨A4, c4, rfl, _⟩ := hC.dn.sl.form
  obtain ⟨A5, c5, rfl, _⟩ := hC.rw.sl.form
  refine rets_enter Tryz.func18 rfl Tryz.ntmps18 (by simp) ?_
  refine WT_seq ?_
  refine WT_region ?_
  refine WL_box _ rfl hH rfl rfl ?_; rintro b w1 hH1; replace hH1 : H w1 h (crbox b (.slice A2 c.dq.length c2) (.slice A3 c.ct.length c3) (.slice A4 c.dn.length c4) (.slice A5 c.rw.length c5) :: Ls) := hH1
  refine WL_v rfl (ov_assign rfl) ?_
  refine WL_nil ?_
  refine WT_seq ?_
  refine WT_seq ?_
  refine WT_region ?_
  refine WL_v rfl (ov_move rfl) ?_
  by_cases hv : crewOk p c = true
  · skip
    rw [crewLeft, if_pos hv]
    rw [hv] at hcv
    have hlen := PlanOk.len ((crewOk_iff p c).1 hv).plan
    refine WL_v rfl (ov_loadN [.slice A2 c.dq.length c2, .slice A3 c.ct.length c3, .slice A4 c.dn.length c4, .slice A5 c.rw.length c5] rfl agg_impl_Crew rfl ((loadCrew (i := 0) rfl hH1))) ?_
    refine WL_call rfl rfl cf_spec_CrewValid (hcv hH1) ?_; rintro _ w2 ⟨rfl, hH2⟩
    refine WL_v rfl (ov_not rfl) ?_
    refine WL_nil ?_
    refine WT_condF rfl ?_
    refine WT_skip ?_
    refine WT_seq ?_
    refine WT_region ?_
    refine WL_v rfl (ov_move rfl) ?_
    refine WL_v rfl (ov_len rfl hlp st_sl_impl_Node) ?_
    refine WL_v rfl (ov_field rfl fo_impl_Crew_2) ?_
    refine WL_v rfl (ov_load rfl one_sl_int (hH2.cb 0 rfl 2)) ?_
    refine WL_v rfl (ov_len rfl hC.dn.sl st_sl_int) ?_
    refine WL_v rfl (ov_sub rfl rfl (by omega)) ?_
    refine WL_v rfl (ov_assign rfl) ?_
    refine WL_nil ?_
    exact WT_ret1 Tryz.func18 Tryz.results18 rfl ⟨rfl, hH2.drop⟩
  · skip
    rw [crewLeft, if_neg hv]
    have hv' : crewOk p c = false := by simpa using hv
    rw [hv'] at hcv
    refine WL_v rfl (ov_loadN [.slice A2 c.dq.length c2, .slice A3 c.ct.length c3, .slice A4 c.dn.length c4, .slice A5 c.rw.length c5] rfl agg_impl_Crew rfl ((loadCrew (i := 0) rfl hH1))) ?_
    refine WL_call rfl rfl cf_spec_CrewValid (hcv hH1) ?_; rintro _ w2 ⟨rfl, hH2⟩
    refine WL_v rfl (ov_not rfl) ?_
    refine WL_nil ?_
    refine WT_condT rfl ?_
    refine WT_seq ?_
    refine WT_region ?_
    refine WL_v rfl (ov_assign rfl) ?_
    refine WL_nil ?_
    exact WT_ret1 Tryz.func18 Tryz.results18 rfl ⟨rfl, hH2.drop⟩

theorem sCrewAt_ok (hH : H w h Ls) {pv dv cv nv rv : Value} {p : List Nd} {c : Cr} (hP : Plan h pv p) (hpl : p.length ≤ 1000000000) (hl : CrLim c) (hC : RdCr h Ls dv cv nv rv c) (a : Int) : Rets Tryz.prog 29 #[pv, crV dv cv nv rv, .int .i64 a] w fun v w' => v = .int .i64 (crewAt p c a) ∧ H w' h Ls := by
  have hcv := fun {w : World} {X : Heaplet} (hH : H w h (X :: Ls)) => sCrewValid_ok hH hP hpl hl hC.up
  have hat := fun {w : World} {X : Heaplet} (hH : H w h (X :: Ls)) => l13At_ok hH hl hC.up a
  obtain ⟨A2, c2, rfl, _⟩ := hC.dq.sl.form
  obtain ⟨A3, c3, rfl, _⟩ := hC.ct.sl.form
  obtain ⟨A4, c4, rfl, _⟩ := hC.dn.sl.form
  obtain ⟨A5, c5, rfl, _⟩ := hC.rw.sl.form
  refine rets_enter Tryz.func29 rfl Tryz.ntmps29 (by simp) ?_
  refine WT_seq ?_
  refine WT_region ?_
  refine WL_box _ rfl hH rfl rfl ?_; rintro b w1 hH1; replace hH1 : H w1 h (crbox b (.slice A2 c.dq.length c2) (.slice A3 c.ct.length c3) (.slice A4 c.dn.length c4) (.slice A5 c.rw.length c5) :: Ls) := hH1
  refine WL_v rfl (ov_assign rfl) ?_
  refine WL_nil ?_
  refine WT_seq ?_
  refine WT_seq ?_
  refine WT_region ?_
  refine WL_v rfl (ov_move rfl) ?_
  by_cases hv : crewOk p c = true
  · skip
    rw [crewAt, if_pos hv]
    rw [hv] at hcv
    refine WL_v rfl (ov_loadN [.slice A2 c.dq.length c2, .slice A3 c.ct.length c3, .slice A4 c.dn.length c4, .slice A5 c.rw.length c5] rfl agg_impl_Crew rfl ((loadCrew (i := 0) rfl hH1))) ?_
    refine WL_call rfl rfl cf_spec_CrewValid (hcv hH1) ?_; rintro _ w2 ⟨rfl, hH2⟩
    refine WL_v rfl (ov_not rfl) ?_
    refine WL_nil ?_
    refine WT_condF rfl ?_
    refine WT_skip ?_
    refine WT_seq ?_
    refine WT_region ?_
    refine WL_v rfl (ov_loadN [.slice A2 c.dq.length c2, .slice A3 c.ct.length c3, .slice A4 c.dn.length c4, .slice A5 c.rw.length c5] rfl agg_impl_Crew rfl ((loadCrew (i := 0) rfl hH2))) ?_
    refine WL_v rfl (ov_move rfl) ?_
    refine WL_call rfl rfl cf_spec_l13At (hat hH2) ?_; rintro _ w3 ⟨rfl, hH3⟩
    refine WL_v rfl (ov_move rfl) ?_
    refine WL_v rfl (ov_extract rfl rfl) ?_
    refine WL_v rfl (ov_extract rfl rfl) ?_
    refine WL_v rfl (ov_assign rfl) ?_
    refine WL_v rfl (ov_assign rfl) ?_
    refine WL_nil ?_
    refine WT_seq ?_
    refine WT_region ?_
    refine WL_v rfl (ov_move rfl) ?_
    refine WL_v rfl (ov_assign rfl) ?_
    refine WL_nil ?_
    exact WT_ret1 Tryz.func29 Tryz.results29 rfl ⟨rfl, hH3.drop⟩
  · skip
    rw [crewAt, if_neg hv]
    have hv' : crewOk p c = false := by simpa using hv
    rw [hv'] at hcv
    refine WL_v rfl (ov_loadN [.slice A2 c.dq.length c2, .slice A3 c.ct.length c3, .slice A4 c.dn.length c4, .slice A5 c.rw.length c5] rfl agg_impl_Crew rfl ((loadCrew (i := 0) rfl hH1))) ?_
    refine WL_call rfl rfl cf_spec_CrewValid (hcv hH1) ?_; rintro _ w2 ⟨rfl, hH2⟩
    refine WL_v rfl (ov_not rfl) ?_
    refine WL_nil ?_
    refine WT_condT rfl ?_
    refine WT_seq ?_
    refine WT_region ?_
    refine WL_v rfl (ov_assign rfl) ?_
    refine WL_nil ?_
    exact WT_ret1 Tryz.func29 Tryz.results29 rfl ⟨rfl, hH2.drop⟩

theorem crewAt_ok (hH : H w h Ls) {pv dv cv nv rv : Value} {p : List Nd} {c : Cr} (hP : Plan h pv p) (hl : CrLim c) (hC : RdCr h Ls dv cv nv rv c) (a : Int) : Rets Tryz.prog 28 #[pv, crV dv cv nv rv, .int .i64 a] w fun v w' => v = .int .i64 (crewAt p c a) ∧ H w' h Ls := by
  have hlq := hl.dq
  have hcv := fun {w : World} {X : Heaplet} (hH : H w h (X :: Ls)) => crewValid_ok hH hP hl hC.up
  obtain ⟨A2, c2, rfl, _⟩ := hC.dq.sl.form
  obtain ⟨A3, c3, rfl, _⟩ := hC.ct.sl.form
  obtain ⟨A4, c4, rfl, _⟩ := hC.dn.sl.form
  obtain ⟨A5, c5, rfl, _⟩ := hC.rw.sl.form
  refine rets_enter Tryz.func28 rfl Tryz.ntmps28 (by simp) ?_
  refine WT_seq ?_
  refine WT_region ?_
  refine WL_box _ rfl hH rfl rfl ?_; rintro b w1 hH1; replace hH1 : H w1 h (crbox b (.slice A2 c.dq.length c2) (.slice A3 c.ct.length c3) (.slice A4 c.dn.length c4) (.slice A5 c.rw.length c5) :: Ls) := hH1
  refine WL_v rfl (ov_assign rfl) ?_
  refine WL_nil ?_
  refine WT_seq ?_
  refine WT_seq ?_
  refine WT_region ?_
  refine WL_v rfl (ov_move rfl) ?_
  by_cases hv : crewOk p c = true
  · skip
    rw [crewAt, if_pos hv]
    rw [hv] at hcv
    have hnd := ((crewOk_iff p c).1 hv).nodup
    refine WL_v rfl (ov_loadN [.slice A2 c.dq.length c2, .slice A3 c.ct.length c3, .slice A4 c.dn.length c4, .slice A5 c.rw.length c5] rfl agg_impl_Crew rfl ((loadCrew (i := 0) rfl hH1))) ?_
    refine WL_call rfl rfl cf_impl_CrewValid (hcv hH1) ?_; rintro _ w2 ⟨rfl, hH2⟩
    refine WL_v rfl (ov_not rfl) ?_
    refine WL_nil ?_
    refine WT_condF rfl ?_
    refine WT_skip ?_
    refine WT_seq ?_
    refine WT_seq ?_
    refine WT_region ?_
    refine WL_v rfl (ov_field rfl fo_impl_Crew_0) ?_
    refine WL_v rfl (ov_load rfl one_sl_sl_int (hH2.cb 0 rfl 0)) ?_
    refine WL_v rfl (ov_len rfl hC.dq.sl st_sl_sl_int) ?_
    refine WL_v rfl (ov_move rfl) ?_
    refine WL_nil ?_
    refine WT_block ?_
    refine WT_while (fun s : Nat => [(2, .int .i64 a), (14, .slice A2 c.dq.length c2), (15, .int .i64 (c.dq.length : Int)), (16, .int .i64 (s : Int))]) (fun s w => s ≤ c.dq.length ∧ (∀ j, j < s → a ∉ c.dq.getD j []) ∧ H w h (crbox b (.slice A2 c.dq.length c2) (.slice A3 c.ct.length c3) (.slice A4 c.dn.length c4) (.slice A5 c.rw.length c5) :: Ls)) (fun s => c.dq.length - s) 0 (by repeat (first | exact trivial | refine ⟨rfl, ?_⟩)) ⟨by omega, by omega, hH2⟩ ?_
    clear hH hH1 hH2
    rintro k w3 ⟨hk, hall, hH⟩ again
    refine WT_seq ?_
    refine WT_region ?_
    refine WL_v rfl (ov_lss rfl rfl) ?_
    refine WL_nil ?_
    refine WT_seq ?_
    refine WT_cond rfl (fun hc => ?_) (fun hc => ?_)
    · skip
      first | with_reducible replace hc := of_decide_eq_true hc | with_reducible replace hc := bn_T hc | with_reducible replace hc := bb_T hc | skip
      have hkd : k < c.dq.length := by omega
      obtain ⟨u, h1, h2⟩ := hC.dq.at_ hkd
      have hgd : c.dq.getD k [] = c.dq[k] := getLD hkd
      refine WT_skip ?_
      refine WT_seq ?_
      refine WT_block ?_
      refine WT_seq ?_
      refine WT_region ?_
      refine WL_v rfl (ov_move rfl) ?_
      refine WL_v rfl (ov_index rfl rfl st_sl_sl_int hC.dq.sl hkd) ?_
      refine WL_v rfl (ov_load rfl one_sl_int (h2 hH.drop)) ?_
      refine WL_v rfl (ov_assign rfl) ?_
      refine WL_v rfl (ov_assign rfl) ?_
      refine WL_nil ?_
      refine WT_seq ?_
      refine WT_region ?_
      refine WL_v rfl (ov_move rfl) ?_
      refine WL_v rfl (ov_move rfl) ?_
      refine WL_call rfl rfl cf_slices_Contains_sl_int_int (contains_ok hH h1.up a) ?_; rintro _ w4 ⟨rfl, hH4⟩
      refine WL_nil ?_
      refine WT_cond rfl (fun hm => ?_) (fun hm => ?_)
      · skip
        first | with_reducible replace hm := of_decide_eq_true hm | with_reducible replace hm := bn_T hm | with_reducible replace hm := bb_T hm | skip
        have hm' : a ∈ c.dq.getD k [] := by rw [hgd]; exact hm
        refine WT_seq ?_
        refine WT_region ?_
        refine WL_v rfl (ov_move rfl) ?_
        refine WL_v rfl (ov_assign rfl) ?_
        refine WL_nil ?_
        exact WT_ret1 Tryz.func28 Tryz.results28 rfl ⟨congrArg (Value.int .i64) (lastW_at hm' hkd fun w hw1 hw2 hw3 => by have := flat_once hnd hm' hw3; omega).symm, hH4.drop⟩
      first | with_reducible replace hm := of_decide_eq_false hm | with_reducible replace hm := bn_F hm | with_reducible replace hm := bb_F hm | skip
      refine WT_skip ?_
      refine WT_inBlock ?_
      refine WT_region ?_
      refine WL_v rfl (ov_add rfl rfl (by omega)) ?_
      refine WL_v rfl (ov_move rfl) ?_
      refine WL_nil ?_
      refine again (k + 1) _ _ (by omega) (by repeat (first | exact trivial | refine ⟨rfl, ?_⟩)) ⟨by omega, fun j hj => ?_, hH4⟩
      rcases Nat.lt_or_ge j k with h3 | h3
      · exact hall j h3
      · obtain rfl : j = k := by omega
        rw [hgd]; exact hm
    first | with_reducible replace hc := of_decide_eq_false hc | with_reducible replace hc := bn_F hc | with_reducible replace hc := bb_F hc | skip
    obtain rfl : k = c.dq.length := by omega
    refine WT_exit rfl ?_
    refine WT_seq ?_
    refine WT_region ?_
    refine WL_v rfl (ov_assign rfl) ?_
    refine WL_nil ?_
    exact WT_ret1 Tryz.func28 Tryz.results28 rfl ⟨congrArg (Value.int .i64) (lastW_no hall).symm, hH.drop⟩
  · skip
    rw [crewAt, if_neg hv]
    have hv' : crewOk p c = false := by simpa using hv
    rw [hv'] at hcv
    refine WL_v rfl (ov_loadN [.slice A2 c.dq.length c2, .slice A3 c.ct.length c3, .slice A4 c.dn.length c4, .slice A5 c.rw.length c5] rfl agg_impl_Crew rfl ((loadCrew (i := 0) rfl hH1))) ?_
    refine WL_call rfl rfl cf_impl_CrewValid (hcv hH1) ?_; rintro _ w2 ⟨rfl, hH2⟩
    refine WL_v rfl (ov_not rfl) ?_
    refine WL_nil ?_
    refine WT_condT rfl ?_
    refine WT_seq ?_
    refine WT_region ?_
    refine WL_v rfl (ov_assign rfl) ?_
    refine WL_nil ?_
    exact WT_ret1 Tryz.func28 Tryz.results28 rfl ⟨rfl, hH2.drop⟩

theorem isWorker_ok (hH : H w h Ls) {dv cv nv rv : Value} {c : Cr} (hC : RdCr h Ls dv cv nv rv c) (a : Int) : Rets Tryz.prog 48 #[crV dv cv nv rv, .int .i64 a] w fun v w' => v = .bool (decide (0 ≤ a ∧ a < (c.dq.length : Int))) ∧ H w' h Ls := by
  obtain ⟨A2, c2, rfl, _⟩ := hC.dq.sl.form
  obtain ⟨A3, c3, rfl, _⟩ := hC.ct.sl.form
  obtain ⟨A4, c4, rfl, _⟩ := hC.dn.sl.form
  obtain ⟨A5, c5, rfl, _⟩ := hC.rw.sl.form
  refine rets_enter Tryz.func48 rfl Tryz.ntmps48 (by simp) ?_
  by_cases h0 : 0 ≤ a
  · skip
    refine WT_seq ?_
    refine WT_region ?_
    refine WL_box _ rfl hH rfl rfl ?_; rintro b w1 hH1; replace hH1 : H w1 h (crbox b (.slice A2 c.dq.length c2) (.slice A3 c.ct.length c3) (.slice A4 c.dn.length c4) (.slice A5 c.rw.length c5) :: Ls) := hH1
    refine WL_v rfl (ov_assign rfl) ?_
    refine WL_nil ?_
    refine WT_seq ?_
    refine WT_region ?_
    refine WL_v rfl (ov_move rfl) ?_
    refine WL_v rfl (ov_T (ov_geq rfl rfl) (by first | exact decide_eq_true h0 | exact nb_T h0 | exact mb_T h0 | exact h0 | (simp only [decide_eq_true_eq]; omega) | simpa using h0)) ?_
    refine WL_v rfl (ov_move rfl) ?_
    refine WL_guardOn rfl rfl ?_
    refine WL_v rfl (ov_move rfl) ?_
    refine WL_guardOn rfl rfl ?_
    refine WL_v rfl (ov_field rfl fo_impl_Crew_0) ?_
    refine WL_guardOn rfl rfl ?_
    refine WL_v rfl (ov_load rfl one_sl_sl_int (hH1.cb 0 rfl 0)) ?_
    refine WL_guardOn rfl rfl ?_
    refine WL_v rfl (ov_len rfl hC.dq.sl st_sl_sl_int) ?_
    refine WL_guardOn rfl rfl ?_
    refine WL_v rfl (ov_lss rfl rfl) ?_
    refine WL_v rfl (ov_pickT rfl rfl) ?_
    refine WL_v rfl (ov_assign rfl) ?_
    refine WL_nil ?_
    exact WT_ret1 Tryz.func48 Tryz.results48 rfl ⟨congrArg Value.bool (decide_eq_decide.2 (by omega)), hH1.drop⟩
  · skip
    refine WT_seq ?_
    refine WT_region ?_
    refine WL_box _ rfl hH rfl rfl ?_; rintro b w1 hH1; replace hH1 : H w1 h (crbox b (.slice A2 c.dq.length c2) (.slice A3 c.ct.length c3) (.slice A4 c.dn.length c4) (.slice A5 c.rw.length c5) :: Ls) := hH1
    refine WL_v rfl (ov_assign rfl) ?_
    refine WL_nil ?_
    refine WT_seq ?_
    refine WT_region ?_
    refine WL_v rfl (ov_move rfl) ?_
    refine WL_v rfl (ov_F (ov_geq rfl rfl) (by first | exact decide_eq_false h0 | exact nb_F h0 | exact mb_F h0 | exact h0 | (simp only [decide_eq_false_iff_not]; omega) | simpa using h0)) ?_
    refine WL_v rfl (ov_move rfl) ?_
    refine WL_guardOff rfl rfl rfl rfl ?_
    refine WL_guardOff rfl rfl rfl rfl ?_
    refine WL_guardOff rfl rfl rfl rfl ?_
    refine WL_guardOff rfl rfl rfl rfl ?_
    refine WL_guardOff rfl rfl rfl rfl ?_
    refine WL_v rfl (ov_pickF rfl rfl) ?_
    refine WL_v rfl (ov_assign rfl) ?_
    refine WL_nil ?_
    exact WT_ret1 Tryz.func48 Tryz.results48 rfl ⟨congrArg Value.bool (decide_eq_false (fun hh => h0 hh.1)).symm, hH1.drop⟩

theorem turnFrom_ok (hH : H w h Ls) {pv dv cv nv rv : Value} {p : List Nd} {c : Cr} (hP : Plan h pv p) (hl : CrLim c) (hC : RdCr h Ls dv cv nv rv c) (wk : Int) : Rets Tryz.prog 20 #[pv, crV dv cv nv rv, .int .i64 wk] w fun v w' => v = .int .i64 (crewFrom p c wk) ∧ H w' h Ls := by
  have hlq := hl.dq
  have hscv := fun {w : World} {X : Heaplet} (hH : H w h (X :: Ls)) => crewValid_ok hH hP hl hC.up
  have hli := fun {w : World} {X : Heaplet} (hH : H w h (X :: Ls)) => isWorker_ok hH hC.up wk
  obtain ⟨A2, c2, rfl, _⟩ := hC.dq.sl.form
  obtain ⟨A3, c3, rfl, _⟩ := hC.ct.sl.form
  obtain ⟨A4, c4, rfl, _⟩ := hC.dn.sl.form
  obtain ⟨A5, c5, rfl, _⟩ := hC.rw.sl.form
  refine rets_enter Tryz.func20 rfl Tryz.ntmps20 (by simp) ?_
  refine WT_seq ?_
  refine WT_region ?_
  refine WL_box _ rfl hH rfl rfl ?_; rintro b w1 hH1; replace hH1 : H w1 h (crbox b (.slice A2 c.dq.length c2) (.slice A3 c.ct.length c3) (.slice A4 c.dn.length c4) (.slice A5 c.rw.length c5) :: Ls) := hH1
  refine WL_v rfl (ov_assign rfl) ?_
  refine WL_nil ?_
  refine WT_seq ?_
  refine WT_seq ?_
  refine WT_region ?_
  refine WL_v rfl (ov_move rfl) ?_
  by_cases hv : crewOk p c = true
  · skip
    rw [hv] at hscv
    by_cases hw : 0 ≤ wk ∧ wk < (c.dq.length : Int)
    · skip
      rw [decide_eq_true hw] at hli
      obtain ⟨m, hm⟩ := Int.eq_ofNat_of_zero_le hw.1
      rw [crewFrom, if_pos ⟨hv, hw⟩]
      subst hm
      rw [Int.toNat_natCast]
      have hq := ((crewOk_iff p c).1 hv).dq
      refine WL_v rfl (ov_loadN [.slice A2 c.dq.length c2, .slice A3 c.ct.length c3, .slice A4 c.dn.length c4, .slice A5 c.rw.length c5] rfl agg_impl_Crew rfl ((loadCrew (i := 0) rfl hH1))) ?_
      refine WL_call rfl rfl cf_impl_CrewValid (hscv hH1) ?_; rintro _ w2 ⟨rfl, hH2⟩
      refine WL_v rfl (ov_not rfl) ?_
      refine WL_v rfl (ov_move rfl) ?_
      refine WL_guardOn rfl rfl ?_
      refine WL_v rfl (ov_loadN [.slice A2 c.dq.length c2, .slice A3 c.ct.length c3, .slice A4 c.dn.length c4, .slice A5 c.rw.length c5] rfl agg_impl_Crew rfl ((loadCrew (i := 0) rfl hH2))) ?_
      refine WL_guardOn rfl rfl ?_
      refine WL_v rfl (ov_move rfl) ?_
      refine WL_guardOn rfl rfl ?_
      refine WL_call rfl rfl cf_impl_isWorker (hli hH2) ?_; rintro _ w3 ⟨rfl, hH3⟩
      refine WL_guardOn rfl rfl ?_
      refine WL_v rfl (ov_not rfl) ?_
      refine WL_v rfl (ov_pickF rfl rfl) ?_
      refine WL_nil ?_
      refine WT_condF rfl ?_
      refine WT_skip ?_
      refine WT_seq ?_
      refine WT_seq ?_
      refine WT_region ?_
      refine WL_v rfl (ov_field rfl fo_impl_Crew_0) ?_
      refine WL_v rfl (ov_load rfl one_sl_sl_int (hH3.cb 0 rfl 0)) ?_
      refine WL_v rfl (ov_len rfl hC.dq.sl st_sl_sl_int) ?_
      refine WL_v rfl (ov_move rfl) ?_
      refine WL_nil ?_
      refine WT_block ?_
      refine WT_while (fun s : Nat => [(2, .int .i64 (m : Int)), (4, ptr b), (21, .int .i64 (c.dq.length : Int)), (22, .int .i64 (s : Int))]) (fun s w => s ≤ c.dq.length ∧ (∀ j, j < s → c.dq.getD ((m + j) % c.dq.length) [] = []) ∧ H w h (crbox b (.slice A2 c.dq.length c2) (.slice A3 c.ct.length c3) (.slice A4 c.dn.length c4) (.slice A5 c.rw.length c5) :: Ls)) (fun s => c.dq.length - s) 0 (by repeat (first | exact trivial | refine ⟨rfl, ?_⟩)) ⟨by omega, by omega, hH3⟩ ?_
      clear hH hH1 hH2 hH3
      rintro k w6 ⟨hk, hall, hH⟩ again
      refine WT_seq ?_
      refine WT_region ?_
      refine WL_v rfl (ov_lss rfl rfl) ?_
      refine WL_nil ?_
      refine WT_seq ?_
      refine WT_cond rfl (fun hc => ?_) (fun hc => ?_)
      · skip
        first | with_reducible replace hc := of_decide_eq_true hc | with_reducible replace hc := bn_T hc | with_reducible replace hc := bb_T hc | skip
        have hkd : k < c.dq.length := by omega
        have hmm : (m + k) % c.dq.length < c.dq.length := Nat.mod_lt _ (by omega)
        have hmod : ((m : Nat) : Int) + ((k : Nat) : Int) = ((m + k : Nat) : Int) := by omega
        have hmod2 : ((m + k : Nat) : Int) % ((c.dq.length : Nat) : Int) = (((m + k) % c.dq.length : Nat) : Int) := (Int.natCast_emod _ _).symm
        obtain ⟨u, h1, h2⟩ := hC.dq.at_ hmm
        have hgd : c.dq.getD ((m + k) % c.dq.length) [] = c.dq[(m + k) % c.dq.length] := getLD hmm
        have hsl := h1.sl.lim
        refine WT_skip ?_
        refine WT_seq ?_
        refine WT_block ?_
        refine WT_seq ?_
        refine WT_region ?_
        refine WL_v rfl (ov_move rfl) ?_
        refine WL_v rfl (ov_assign rfl) ?_
        refine WL_nil ?_
        refine WT_seq ?_
        refine WT_region ?_
        refine WL_v rfl (ov_move rfl) ?_
        refine WL_v rfl (ov_move rfl) ?_
        refine WL_v rfl (ov_as (ov_add rfl rfl (by omega)) (congrArg (Value.int .i64) (hmod))) ?_
        refine WL_v rfl (ov_field rfl fo_impl_Crew_0) ?_
        refine WL_v rfl (ov_load rfl one_sl_sl_int (hH.cb 0 rfl 0)) ?_
        refine WL_v rfl (ov_len rfl hC.dq.sl st_sl_sl_int) ?_
        refine WL_v rfl (ov_as (ov_rem rfl rfl (by omega) (by omega)) (congrArg (Value.int .i64) hmod2)) ?_
        refine WL_v rfl (ov_assign rfl) ?_
        refine WL_nil ?_
        refine WT_seq ?_
        refine WT_region ?_
        refine WL_v rfl (ov_field rfl fo_impl_Crew_0) ?_
        refine WL_v rfl (ov_load rfl one_sl_sl_int (hH.cb 0 rfl 0)) ?_
        refine WL_v rfl (ov_move rfl) ?_
        refine WL_v rfl (ov_index rfl rfl st_sl_sl_int hC.dq.sl hmm) ?_
        refine WL_v rfl (ov_load rfl one_sl_int (h2 hH.drop)) ?_
        refine WL_v rfl (ov_len rfl h1.sl st_sl_int) ?_
        refine WL_v rfl (ov_neq rfl rfl) ?_
        refine WL_nil ?_
        refine WT_cond rfl (fun hne => ?_) (fun hne => ?_)
        · skip
          first | with_reducible replace hne := of_decide_eq_true hne | with_reducible replace hne := bn_T hne | with_reducible replace hne := bb_T hne | skip
          refine WT_seq ?_
          refine WT_region ?_
          refine WL_v rfl (ov_move rfl) ?_
          refine WL_v rfl (ov_assign rfl) ?_
          refine WL_nil ?_
          exact WT_ret1 Tryz.func20 Tryz.results20 rfl ⟨congrArg (Value.int .i64) (fromW_at hkd (by rw [hgd]; intro hh; rw [hh] at hne; simp at hne) hall).symm, hH.drop⟩
        first | with_reducible replace hne := of_decide_eq_false hne | with_reducible replace hne := bn_F hne | with_reducible replace hne := bb_F hne | skip
        refine WT_skip ?_
        refine WT_inBlock ?_
        refine WT_region ?_
        refine WL_v rfl (ov_add rfl rfl (by omega)) ?_
        refine WL_v rfl (ov_move rfl) ?_
        refine WL_nil ?_
        refine again (k + 1) _ _ (by omega) (by repeat (first | exact trivial | refine ⟨rfl, ?_⟩)) ⟨by omega, fun j hj => ?_, hH⟩
        rcases Nat.lt_or_ge j k with h3 | h3
        · exact hall j h3
        · obtain rfl : j = k := by omega
          rw [hgd]
          exact List.eq_nil_of_length_eq_zero (by omega)
      first | with_reducible replace hc := of_decide_eq_false hc | with_reducible replace hc := bn_F hc | with_reducible replace hc := bb_F hc | skip
      obtain rfl : k = c.dq.length := by omega
      refine WT_exit rfl ?_
      refine WT_seq ?_
      refine WT_region ?_
      refine WL_v rfl (ov_assign rfl) ?_
      refine WL_nil ?_
      exact WT_ret1 Tryz.func20 Tryz.results20 rfl ⟨congrArg (Value.int .i64) (fromW_none hall).symm, hH.drop⟩
    · skip
      rw [crewFrom, if_neg (fun hh => hw hh.2)]
      rw [decide_eq_false hw] at hli
      refine WL_v rfl (ov_loadN [.slice A2 c.dq.length c2, .slice A3 c.ct.length c3, .slice A4 c.dn.length c4, .slice A5 c.rw.length c5] rfl agg_impl_Crew rfl ((loadCrew (i := 0) rfl hH1))) ?_
      refine WL_call rfl rfl cf_impl_CrewValid (hscv hH1) ?_; rintro _ w2 ⟨rfl, hH2⟩
      refine WL_v rfl (ov_not rfl) ?_
      refine WL_v rfl (ov_move rfl) ?_
      refine WL_guardOn rfl rfl ?_
      refine WL_v rfl (ov_loadN [.slice A2 c.dq.length c2, .slice A3 c.ct.length c3, .slice A4 c.dn.length c4, .slice A5 c.rw.length c5] rfl agg_impl_Crew rfl ((loadCrew (i := 0) rfl hH2))) ?_
      refine WL_guardOn rfl rfl ?_
      refine WL_v rfl (ov_move rfl) ?_
      refine WL_guardOn rfl rfl ?_
      refine WL_call rfl rfl cf_impl_isWorker (hli hH2) ?_; rintro _ w3 ⟨rfl, hH3⟩
      refine WL_guardOn rfl rfl ?_
      refine WL_v rfl (ov_not rfl) ?_
      refine WL_v rfl (ov_pickF rfl rfl) ?_
      refine WL_nil ?_
      refine WT_condT rfl ?_
      refine WT_seq ?_
      refine WT_region ?_
      refine WL_v rfl (ov_assign rfl) ?_
      refine WL_nil ?_
      exact WT_ret1 Tryz.func20 Tryz.results20 rfl ⟨rfl, hH3.drop⟩
  · skip
    rw [crewFrom, if_neg (fun hh => hv hh.1)]
    have hv' : crewOk p c = false := by simpa using hv
    rw [hv'] at hscv
    refine WL_v rfl (ov_loadN [.slice A2 c.dq.length c2, .slice A3 c.ct.length c3, .slice A4 c.dn.length c4, .slice A5 c.rw.length c5] rfl agg_impl_Crew rfl ((loadCrew (i := 0) rfl hH1))) ?_
    refine WL_call rfl rfl cf_impl_CrewValid (hscv hH1) ?_; rintro _ w2 ⟨rfl, hH2⟩
    refine WL_v rfl (ov_not rfl) ?_
    refine WL_v rfl (ov_move rfl) ?_
    refine WL_guardOff rfl rfl rfl rfl ?_
    refine WL_guardOff rfl rfl rfl rfl ?_
    refine WL_guardOff rfl rfl rfl rfl ?_
    refine WL_guardOff rfl rfl rfl rfl ?_
    refine WL_v rfl (ov_pickT rfl rfl) ?_
    refine WL_nil ?_
    refine WT_condT rfl ?_
    refine WT_seq ?_
    refine WT_region ?_
    refine WL_v rfl (ov_assign rfl) ?_
    refine WL_nil ?_
    exact WT_ret1 Tryz.func20 Tryz.results20 rfl ⟨rfl, hH2.drop⟩
end
end Go.Proofs.YtlmdmgjppdhelaaGreat

/- Plain: laws of valid crews. No program in sight. -/
namespace Go.Proofs.YtlmdmgjppdhelaaGreat

theorem CrewOk.dn_le {p : List Nd} {c : Cr} (h : CrewOk p c) : c.dn.length ≤ p.length := nodup_lenI (order_nodup h.ord) (fun _ ha => order_mem h.ord ha)
theorem CrewOk.both {p : List Nd} {c : Cr} (h : CrewOk p c) : (c.dn ++ readyI p c.dn).Nodup := by
  refine List.nodup_append.2 ⟨order_nodup h.ord, readyI_nodup p c.dn, fun a ha b hb he => ?_⟩
  subst he
  exact (mem_readyI.1 hb).2.1 ha
theorem CrewOk.sum_le {p : List Nd} {c : Cr} (h : CrewOk p c) : c.dn.length + (readyI p c.dn).length ≤ p.length := by
  have := nodup_lenI h.both (n := p.length) fun a ha => by
    rcases List.mem_append.1 ha with ha | ha
    · exact order_mem h.ord ha
    · exact (mem_readyI.1 ha).1
  rw [List.length_append] at this
  exact this
/-- If nothing is ready all is done. -/
theorem CrewOk.all {p : List Nd} {c : Cr} (h : CrewOk p c) : readyI p c.dn = [] ↔ c.dn.length = p.length := by
  constructor
  · intro hr
    have hall : ∀ n, ∀ i, i < n → i < p.length → (i : Int) ∈ c.dn := by
      intro n
      induction n with
      | zero => intro i hi; omega
      | succ n ih =>
        intro i hi hip
        by_cases hm : (i : Int) ∈ c.dn
        · exact hm
        · have : (i : Int) ∈ readyI p c.dn := mem_readyI.2 ⟨by omega, hm, fun f hf => by
            rw [Int.toNat_natCast] at hf
            have hfp := frm_pos h.plan hip f hf
            have := ih f.toNat (by omega) (by omega)
            rw [Int.toNat_of_nonneg hfp.1] at this
            exact this⟩
          rw [hr] at this
          simp at this
    have h1 : ((List.range p.length).map fun (j : Nat) => (j : Int)).Nodup := List.pairwise_map.2 (List.nodup_range.imp fun hab => by omega)
    have h2 := h1.length_le_of_subset (l₂ := c.dn) fun a ha => by
      obtain ⟨i, hi, rfl⟩ := List.mem_map.1 ha
      exact hall p.length i (List.mem_range.1 hi) (List.mem_range.1 hi)
    rw [List.length_map, List.length_range] at h2
    have := h.dn_le
    omega
  · intro hl
    have := h.sum_le
    exact List.eq_nil_of_length_eq_zero (by omega)
theorem lastW_spec (dq : List (List Int)) (a : Int) : ∀ n, (lastW dq a n = -1 ∧ ∀ w, w < n → a ∉ dq.getD w []) ∨ ∃ w, w < n ∧ lastW dq a n = (w : Int) ∧ a ∈ dq.getD w []
  | 0 => .inl ⟨rfl, fun w hw => by omega⟩
  | n + 1 => by
    rw [lastW]
    by_cases hm : a ∈ dq.getD n []
    · rw [if_pos hm]
      exact .inr ⟨n, by omega, rfl, hm⟩
    · rw [if_neg hm]
      rcases lastW_spec dq a n with ⟨h1, h2⟩ | ⟨w, h1, h2, h3⟩
      · refine .inl ⟨h1, fun w hw => ?_⟩
        rcases Nat.lt_or_ge w n with h | h
        · exact h2 w h
        · obtain rfl : w = n := by omega
          exact hm
      · exact .inr ⟨w, by omega, h2, h3⟩
theorem lastW_neg {dq : List (List Int)} {a : Int} : lastW dq a dq.length = -1 ↔ a ∉ dq.flatten := by
  rw [mem_flatD]
  rcases lastW_spec dq a dq.length with ⟨h1, h2⟩ | ⟨w, h1, h2, h3⟩
  · rw [h1]
    exact ⟨fun _ ⟨w, hw, ha⟩ => h2 w hw ha, fun _ => rfl⟩
  · rw [h2]
    exact ⟨fun h => by omega, fun h => absurd ⟨w, h1, h3⟩ h⟩
/-- Every deque is come to. -/
theorem turn_all {dq : List (List Int)} {k : Nat} (hk : k < dq.length) (h : ∀ j, j < dq.length → dq.getD ((k + j) % dq.length) [] = []) : dq.flatten = [] := by
  have h1 : ∀ i, i < dq.length → dq.getD i [] = [] := fun i hi => by
    rcases Nat.lt_or_ge i k with h2 | h2
    · have := h (i + dq.length - k) (by omega)
      rw [show k + (i + dq.length - k) = i + dq.length by omega, Nat.add_mod_right, Nat.mod_eq_of_lt hi] at this
      exact this
    · have := h (i - k) (by omega)
      rw [show k + (i - k) = i by omega, Nat.mod_eq_of_lt hi] at this
      exact this
  refine List.eq_nil_iff_forall_not_mem.2 fun a ha => ?_
  obtain ⟨w, hw, hm⟩ := mem_flatD.1 ha
  rw [h1 w hw] at hm
  simp at hm
theorem zeros_all {p : List Nd} {c : Cr} (h : CrewOk p c) {z : Int} : z ∈ ((List.range c.ct.length).filter fun i => decide (c.ct.getD i 0 = 0)).map (fun (j : Nat) => (j : Int)) ↔ z ∈ c.dn ∨ z ∈ readyI p c.dn := by
  rw [← h.ct, cntL_len]
  constructor
  · intro hz
    obtain ⟨i, hi, rfl⟩ := List.mem_map.1 hz
    obtain ⟨h1, h2⟩ := List.mem_filter.1 hi
    have hip := List.mem_range.1 h1
    have h3 := of_decide_eq_true h2
    rw [cntL_getD hip] at h3
    have h4 := (cntB_zero h.plan (D := c.dn) hip).1 (by omega)
    by_cases hm : (i : Int) ∈ c.dn
    · exact .inl hm
    · exact .inr (mem_readyI.2 ⟨by omega, hm, by rw [Int.toNat_natCast]; exact h4⟩)
  · intro hz
    have hrg : 0 ≤ z ∧ z < (p.length : Int) := by
      rcases hz with hz | hz
      · exact order_mem h.ord hz
      · exact (mem_readyI.1 hz).1
    have hnd : ∀ f ∈ (p.getD z.toNat default).frm, f ∈ c.dn := by
      rcases hz with hz | hz
      · exact order_needs h.ord hz
      · exact (mem_readyI.1 hz).2.2
    obtain ⟨i, hi⟩ := Int.eq_ofNat_of_zero_le hrg.1
    subst hi
    rw [Int.toNat_natCast] at hnd
    have hip : i < p.length := by omega
    refine List.mem_map.2 ⟨i, List.mem_filter.2 ⟨List.mem_range.2 hip, decide_eq_true ?_⟩, rfl⟩
    rw [cntL_getD hip, (cntB_zero h.plan hip).2 hnd]
    rfl
theorem zeros_len {p : List Nd} {c : Cr} (h : CrewOk p c) : ((List.range c.ct.length).filter fun i => decide (c.ct.getD i 0 = 0)).length = c.dn.length + (readyI p c.dn).length := by
  have h1 : (((List.range c.ct.length).filter fun i => decide (c.ct.getD i 0 = 0)).map (fun (j : Nat) => (j : Int))).Nodup := List.pairwise_map.2 ((List.nodup_range.filter _).imp fun hab => by omega)
  have h2 := (List.perm_ext_iff_of_nodup h1 h.both).2 fun a => by rw [List.mem_append]; exact zeros_all h
  have := h2.length_eq
  rw [List.length_map, List.length_append] at this
  exact this
/-- Whoever has which deque. -/
theorem CrewOk.deal {p : List Nd} {c : Cr} (h : CrewOk p c) {dq : List (List Int)} (hp : dq.flatten.Perm c.dq.flatten) (hl : dq.length = c.dq.length) : CrewOk p ⟨dq, c.ct, c.dn, c.rw⟩ :=
  ⟨h.plan, by rw [hl]; exact h.dq, h.ord, h.ct, h.rl, (isort_eq (readyI_le p c.dn)).2 (hp.trans h.perm), h.rows⟩
end Go.Proofs.YtlmdmgjppdhelaaGreat
