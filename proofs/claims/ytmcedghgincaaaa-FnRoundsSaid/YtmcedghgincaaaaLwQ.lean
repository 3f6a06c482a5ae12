/- The law FnRounds. -/
import Derived.Test.YtmcedghgincaaaaWkGG
import Derived.Test.YtmcedghgincaaaaWkW
namespace Go.Proofs.Ytmcedghgincaaaa
open Go.RowKit

section
variable {h : GH} {Ls : List Heaplet} {w : World}

/-- A drawn plan and a number of workers. -/
def DrewW (h : GH) (Ls : List Heaplet) (v : Value) (w' : World) : Prop := ∃ pv a, v = .tuple #[pv, .int .i64 a] ∧ -3 ≤ a ∧ a ≤ 4 ∧ Drew h Ls pv w'

theorem turnsNo {p : List Nd} {a : Int} {v : Value} (hok : turnsOk p a = false) (hT : TurnsV p a v) : v = .tuple #[.int .i64 0, .bool false] := by
  rcases hT with ⟨_, h2⟩ | ⟨k, r, _, h2, _⟩
  · exact h2
  · rw [hok] at h2; cases h2
theorem turnsYes {p : List Nd} {a : Int} {v : Value} (hok : turnsOk p a = true) (hT : TurnsV p a v) : ∃ k r : Nat, v = .tuple #[.int .i64 (r : Int), .bool true] ∧ a = (k : Int) ∧ Rounds p k r := by
  rcases hT with ⟨h2, _⟩ | ⟨k, r, h1, _, h3, h4⟩
  · rw [hok] at h2; cases h2
  · exact ⟨k, r, h4, h1, h3⟩
theorem schedule_no (hH : H w h Ls) {pv : Value} {p : List Nd} (hP : Plan h pv p) {n : Int} (hok : turnsOk p n = false) : Rets Try.prog 42 #[pv, .int .i64 n] w fun v w' => v = .tuple #[.int .i64 0, .bool false] ∧ H w' h Ls :=
  (schedule_ok hH hP n).mono fun _ _ hh => ⟨turnsNo hok hh.1, hh.2⟩
theorem schedule_yes (hH : H w h Ls) {pv : Value} {p : List Nd} (hP : Plan h pv p) {n : Int} (hok : turnsOk p n = true) : Rets Try.prog 42 #[pv, .int .i64 n] w fun v w' => ∃ k r : Nat, v = .tuple #[.int .i64 (r : Int), .bool true] ∧ n = (k : Int) ∧ Rounds p k r ∧ H w' h Ls :=
  (schedule_ok hH hP n).mono fun _ _ hh => by obtain ⟨k, r, h1, h2, h3⟩ := turnsYes hok hh.1; exact ⟨k, r, h1, h2, h3, hh.2⟩
theorem sSchedule_no (hH : H w h Ls) {pv : Value} {p : List Nd} (hP : Plan h pv p) (hl : p.length ≤ 1000000000) {n : Int} (hok : turnsOk p n = false) : Rets Try.prog 43 #[pv, .int .i64 n] w fun v w' => v = .tuple #[.int .i64 0, .bool false] ∧ H w' h Ls :=
  (sSchedule_ok hH hP hl n).mono fun _ _ hh => ⟨turnsNo hok hh.1, hh.2⟩
theorem sSchedule_yes (hH : H w h Ls) {pv : Value} {p : List Nd} (hP : Plan h pv p) (hl : p.length ≤ 1000000000) {n : Int} (hok : turnsOk p n = true) : Rets Try.prog 43 #[pv, .int .i64 n] w fun v w' => ∃ k r : Nat, v = .tuple #[.int .i64 (r : Int), .bool true] ∧ n = (k : Int) ∧ Rounds p k r ∧ H w' h Ls :=
  (sSchedule_ok hH hP hl n).mono fun _ _ hh => by obtain ⟨k, r, h1, h2, h3⟩ := turnsYes hok hh.1; exact ⟨k, r, h1, h2, h3, hh.2⟩

theorem drawCrewNew_ok (hH : H w h Ls) {cv : Value} {bs : List Int} (hB : Bytes h cv bs) : Rets Try.prog 86 #[cv] w (DrewW h Ls) := by
  refine rets_enter Try.func86 rfl Try.ntmps86 (by simp) ?_
  refine WT_seq ?_
  refine WT_region ?_
  refine WL_v rfl (ov_assign rfl) ?_
  refine WL_v rfl (ov_assign rfl) ?_
  refine WL_nil ?_
  refine WT_seq ?_
  refine WT_region ?_
  refine WL_v rfl (ov_move rfl) ?_
  refine WL_call rfl rfl cf_spec_l6Open (l6Open_ok hH hB) ?_; rintro _ w1 ⟨g, bv, bs', rfl, hB', hH1⟩
  refine WL_v rfl (ov_assign rfl) ?_
  refine WL_nil ?_
  refine WT_seq ?_
  refine WT_region ?_
  refine WL_v rfl (ov_move rfl) ?_
  refine WL_call rfl rfl cf_spec_l91Plan (l91Plan_ok hH1 hB' (by omega)) ?_; rintro pv w2 ⟨p, O, Is, p', hO, hl, hp', hH2⟩
  refine WL_v rfl (ov_assign rfl) ?_
  refine WL_nil ?_
  refine WT_seq ?_
  refine WT_region ?_
  refine WL_v rfl (ov_move rfl) ?_
  refine WL_v rfl (ov_move rfl) ?_
  refine WL_call rfl rfl cf_p_spec_l6Rd_pick (pick_ok hH2 hB' (by omega) 4) ?_; rintro _ w3 ⟨r1, rfl, hr1, hH3⟩
  refine WL_v rfl (ov_add rfl rfl (by have := hr1.1 (by omega); omega)) ?_
  refine WL_v rfl (ov_move rfl) ?_
  refine WL_call rfl rfl cf_p_spec_l6Rd_pick (pick_ok hH3 hB' (by omega) 20) ?_; rintro _ w4 ⟨r2, rfl, hr2, hH4⟩
  have hr14 := hr1.1 (by omega)
  have hr24 := hr2.1 (by omega)
  refine WL_v rfl (ov_quo rfl rfl (by omega) (by omega) (by omega)) ?_
  refine WL_v rfl (ov_mul rfl rfl (by omega)) ?_
  refine WL_v rfl (ov_sub rfl rfl (by omega)) ?_
  refine WL_v rfl (ov_assign rfl) ?_
  refine WL_v rfl (ov_assign rfl) ?_
  refine WL_nil ?_
  exact WT_ret2 Try.func86 Try.results86 rfl rfl ⟨pv, _, rfl, by omega, by omega, drew_of hO hl hH4⟩
theorem drawSchedule_ok (hH : H w h Ls) {cv : Value} {bs : List Int} (hB : Bytes h cv bs) : Rets Try.prog 41 #[cv] w (DrewW h Ls) := by
  refine rets_enter Try.func41 rfl Try.ntmps41 (by simp) ?_
  refine WT_seq ?_
  refine WT_region ?_
  refine WL_v rfl (ov_assign rfl) ?_
  refine WL_v rfl (ov_assign rfl) ?_
  refine WL_nil ?_
  refine WT_seq ?_
  refine WT_region ?_
  refine WL_v rfl (ov_move rfl) ?_
  refine WL_call rfl rfl cf_spec_DrawCrewNew (drawCrewNew_ok hH hB) ?_; rintro _ w1 ⟨pv, a, rfl, ha1, ha2, hd⟩
  refine WL_v rfl (ov_extract rfl rfl) ?_
  refine WL_v rfl (ov_extract rfl rfl) ?_
  refine WL_v rfl (ov_assign rfl) ?_
  refine WL_v rfl (ov_assign rfl) ?_
  refine WL_nil ?_
  exact WT_ret2 Try.func41 Try.results41 rfl rfl ⟨pv, a, rfl, ha1, ha2, hd⟩

theorem fnRounds_walk (hH : H w h Ls) {cv : Value} {bs : List Int} (hB : Bytes h cv bs) : Rets Try.prog 7 #[cv] w fun v w' => v = .bool true ∧ H w' h Ls := by
  refine rets_enter Try.func7 rfl Try.ntmps7 (by simp) ?_
  refine WT_seq ?_
  refine WT_region ?_
  refine WL_v rfl (ov_assign rfl) ?_
  refine WL_nil ?_
  refine WT_seq ?_
  refine WT_seq ?_
  refine WT_region ?_
  refine WL_v rfl (ov_move rfl) ?_
  refine WL_v rfl (ov_len rfl hB.sl st_sl_uint8) ?_
  refine WL_v rfl (ov_gtr rfl rfl) ?_
  refine WL_nil ?_
  refine WT_cond rfl (fun hl => ?_) (fun hl => ?_)
  · skip
    first | with_reducible replace hl := of_decide_eq_true hl | with_reducible replace hl := bn_T hl | with_reducible replace hl := bb_T hl | skip
    refine WT_seq ?_
    refine WT_region ?_
    refine WL_v rfl (ov_assign rfl) ?_
    refine WL_nil ?_
    exact WT_ret1 Try.func7 Try.results7 rfl ⟨rfl, hH⟩
  first | with_reducible replace hl := of_decide_eq_false hl | with_reducible replace hl := bn_F hl | with_reducible replace hl := bb_F hl | skip
  refine WT_skip ?_
  refine WT_seq ?_
  refine WT_region ?_
  refine WL_v rfl (ov_move rfl) ?_
  refine WL_call rfl rfl cf_spec_DrawScheduleTurns (drawSchedule_ok hH hB) ?_; rintro _ w1 ⟨pv, a, rfl, ha1, ha2, h', p, hle, hP, hpl, hH1⟩
  refine WL_v rfl (ov_move rfl) ?_
  refine WL_v rfl (ov_extract rfl rfl) ?_
  refine WL_v rfl (ov_extract rfl rfl) ?_
  refine WL_v rfl (ov_assign rfl) ?_
  refine WL_v rfl (ov_assign rfl) ?_
  refine WL_nil ?_
  refine WT_seq ?_
  refine WT_region ?_
  refine WL_v rfl (ov_move rfl) ?_
  refine WL_v rfl (ov_move rfl) ?_
  by_cases hok : turnsOk p a = true
  case neg =>
    have hok' : turnsOk p a = false := by simpa using hok
    refine WL_call rfl rfl cf_impl_ScheduleTurns (schedule_no hH1 hP hok') ?_; rintro _ w2 ⟨rfl, hH2⟩
    refine WL_v rfl (ov_move rfl) ?_
    refine WL_v rfl (ov_extract rfl rfl) ?_
    refine WL_v rfl (ov_extract rfl rfl) ?_
    refine WL_v rfl (ov_assign rfl) ?_
    refine WL_v rfl (ov_assign rfl) ?_
    refine WL_nil ?_
    refine WT_seq ?_
    refine WT_region ?_
    refine WL_v rfl (ov_move rfl) ?_
    refine WL_v rfl (ov_move rfl) ?_
    refine WL_call rfl rfl cf_spec_ScheduleTurns (sSchedule_no hH2 hP (by omega) hok') ?_; rintro _ w3 ⟨rfl, hH3⟩
    refine WL_v rfl (ov_move rfl) ?_
    refine WL_v rfl (ov_extract rfl rfl) ?_
    refine WL_v rfl (ov_extract rfl rfl) ?_
    refine WL_v rfl (ov_assign rfl) ?_
    refine WL_v rfl (ov_assign rfl) ?_
    refine WL_nil ?_
    refine WT_seq ?_
    refine WT_seq ?_
    refine WT_region ?_
    refine WL_v rfl (ov_move rfl) ?_
    refine WL_v rfl (ov_move rfl) ?_
    refine WL_v rfl (ov_F (ov_neqB rfl rfl Try.underlying4) (by simp)) ?_
    refine WL_v rfl (ov_move rfl) ?_
    refine WL_guardOn rfl rfl ?_
    refine WL_v rfl (ov_move rfl) ?_
    refine WL_guardOn rfl rfl ?_
    refine WL_v rfl (ov_move rfl) ?_
    refine WL_guardOn rfl rfl ?_
    refine WL_v rfl (ov_F (ov_neq rfl rfl) (by simp)) ?_
    refine WL_v rfl (ov_pickF rfl rfl) ?_
    refine WL_v rfl (ov_move rfl) ?_
    refine WL_guardOn rfl rfl ?_
    refine WL_v rfl (ov_move rfl) ?_
    refine WL_guardOn rfl rfl ?_
    refine WL_v rfl (ov_not rfl) ?_
    refine WL_v rfl (ov_pickF rfl rfl) ?_
    refine WL_nil ?_
    refine WT_condT rfl ?_
    refine WT_seq ?_
    refine WT_region ?_
    refine WL_v rfl (ov_move rfl) ?_
    refine WL_v rfl (ov_move rfl) ?_
    refine WL_v rfl (ov_T (ov_eqlB rfl rfl Try.underlying4) (by simp)) ?_
    refine WL_v rfl (ov_move rfl) ?_
    refine WL_guardOn rfl rfl ?_
    refine WL_v rfl (ov_move rfl) ?_
    refine WL_guardOn rfl rfl ?_
    refine WL_v rfl (ov_move rfl) ?_
    refine WL_guardOn rfl rfl ?_
    refine WL_v rfl (ov_eql rfl rfl) ?_
    refine WL_v rfl (ov_pickT rfl rfl) ?_
    refine WL_v rfl (ov_assign rfl) ?_
    refine WL_nil ?_
    exact WT_ret1 Try.func7 Try.results7 rfl ⟨rfl, hH3.weak hle⟩
  refine WL_call rfl rfl cf_impl_ScheduleTurns (schedule_yes hH1 hP hok) ?_; rintro _ w2 ⟨k, r, rfl, hk1, hR, hH2⟩
  refine WL_v rfl (ov_move rfl) ?_
  refine WL_v rfl (ov_extract rfl rfl) ?_
  refine WL_v rfl (ov_extract rfl rfl) ?_
  refine WL_v rfl (ov_assign rfl) ?_
  refine WL_v rfl (ov_assign rfl) ?_
  refine WL_nil ?_
  refine WT_seq ?_
  refine WT_region ?_
  refine WL_v rfl (ov_move rfl) ?_
  refine WL_v rfl (ov_move rfl) ?_
  refine WL_call rfl rfl cf_spec_ScheduleTurns (sSchedule_yes hH2 hP (by omega) hok) ?_; rintro _ w3 ⟨k2, r2, rfl, hk2, hR2, hH3⟩
  refine WL_v rfl (ov_move rfl) ?_
  refine WL_v rfl (ov_extract rfl rfl) ?_
  refine WL_v rfl (ov_extract rfl rfl) ?_
  refine WL_v rfl (ov_assign rfl) ?_
  refine WL_v rfl (ov_assign rfl) ?_
  refine WL_nil ?_
  refine WT_seq ?_
  refine WT_seq ?_
  refine WT_region ?_
  refine WL_v rfl (ov_move rfl) ?_
  refine WL_v rfl (ov_move rfl) ?_
  subst hk1
  obtain rfl : k2 = k := by omega
  obtain rfl := hR.uniq hR2
  have hok2 := hok
  unfold turnsOk at hok2
  rw [Bool.and_eq_true, decide_eq_true_eq] at hok2
  obtain ⟨hv, hk⟩ := hok2
  have hle1 := hR.le hv (by omega)
  have hmul := hR.mul
  have hlv := hR.lev hv
  have hcr := levCount_rg hv
  have hll := levelsL_len p
  have hlo : levelsOf p = levelsL p := by unfold levelsOf; rw [if_pos hv]
  have hmz : (p.length : Int) ≤ (r : Int) * (k2 : Int) := by exact_mod_cast hmul
  have hmz2 : (r : Int) * (k2 : Int) ≤ 100 := by
    have h1 : r * k2 ≤ 11 * 4 := Nat.mul_le_mul (by omega) (by omega)
    have : ((r * k2 : Nat) : Int) ≤ 100 := by omega
    simpa using this
  refine WL_v rfl (ov_F (ov_neqB rfl rfl Try.underlying4) (by simp)) ?_
  refine WL_v rfl (ov_move rfl) ?_
  refine WL_guardOn rfl rfl ?_
  refine WL_v rfl (ov_move rfl) ?_
  refine WL_guardOn rfl rfl ?_
  refine WL_v rfl (ov_move rfl) ?_
  refine WL_guardOn rfl rfl ?_
  refine WL_v rfl (ov_F (ov_neq rfl rfl) (by simp)) ?_
  refine WL_v rfl (ov_pickF rfl rfl) ?_
  refine WL_v rfl (ov_move rfl) ?_
  refine WL_guardOn rfl rfl ?_
  refine WL_v rfl (ov_move rfl) ?_
  refine WL_guardOn rfl rfl ?_
  refine WL_v rfl (ov_not rfl) ?_
  refine WL_v rfl (ov_pickF rfl rfl) ?_
  refine WL_nil ?_
  refine WT_condF rfl ?_
  refine WT_skip ?_
  refine WT_seq ?_
  refine WT_region ?_
  refine WL_v rfl (ov_move rfl) ?_
  refine WL_v rfl (ov_move rfl) ?_
  refine WL_call rfl rfl cf_impl_LevelsOf (levelsOf_ok hH3 hP) ?_; rintro lv w4 ⟨O, Is, hO, hH4⟩
  refine WL_v rfl (ov_len rfl hO.sl st_sl_sl_int) ?_; rw [hlo, hll]
  refine WL_v rfl (ov_T (ov_geq rfl rfl) (decide_eq_true (by omega))) ?_
  refine WL_v rfl (ov_move rfl) ?_
  refine WL_guardOn rfl rfl ?_
  refine WL_v rfl (ov_move rfl) ?_
  refine WL_guardOn rfl rfl ?_
  refine WL_v rfl (ov_move rfl) ?_
  refine WL_guardOn rfl rfl ?_
  refine WL_v rfl (ov_mul rfl rfl (by omega)) ?_
  refine WL_guardOn rfl rfl ?_
  refine WL_v rfl (ov_move rfl) ?_
  refine WL_guardOn rfl rfl ?_
  refine WL_v rfl (ov_len rfl hP.sl st_sl_impl_Node) ?_
  refine WL_guardOn rfl rfl ?_
  refine WL_v rfl (ov_T (ov_geq rfl rfl) (decide_eq_true (by omega))) ?_
  refine WL_v rfl (ov_pickT rfl rfl) ?_
  refine WL_v rfl (ov_move rfl) ?_
  refine WL_guardOn rfl rfl ?_
  refine WL_v rfl (ov_move rfl) ?_
  refine WL_guardOn rfl rfl ?_
  refine WL_v rfl (ov_move rfl) ?_
  refine WL_guardOn rfl rfl ?_
  refine WL_v rfl (ov_len rfl hP.sl st_sl_impl_Node) ?_
  refine WL_guardOn rfl rfl ?_
  refine WL_v rfl (ov_T (ov_leq rfl rfl) (decide_eq_true (by omega))) ?_
  refine WL_v rfl (ov_pickT rfl rfl) ?_
  refine WL_v rfl (ov_assign rfl) ?_
  refine WL_nil ?_
  exact WT_ret1 Try.func7 Try.results7 rfl ⟨rfl, ((hH4.drops (O :: Is)).weak hle)⟩
end
end Go.Proofs.Ytmcedghgincaaaa
