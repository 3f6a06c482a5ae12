/- Walks: CrewNew (impl), and crews that are the same. -/
import Derived.Test.YteagnhdhafiofaaGreatBg6
namespace Go.Proofs.YteagnhdhafiofaaGreat
open Go.RowKit

section
variable {h : GH} {Ls : List Heaplet} {w : World}

theorem sameCrew_same (hH : H w h Ls) {dv cv nv rv dv2 cv2 nv2 rv2 : Value} {c : Cr} (hA : ∀ Ms, RdCr h (Ms ++ Ls) dv cv nv rv c) (hB : ∀ Ms, RdCr h (Ms ++ Ls) dv2 cv2 nv2 rv2 c) : Rets Tryz.prog 14 #[crV dv cv nv rv, crV dv2 cv2 nv2 rv2] w fun v w' => v = .bool true ∧ H w' h Ls := by
  obtain ⟨A2, c2, rfl, _⟩ := (hA []).dq.sl.form
  obtain ⟨A3, c3, rfl, _⟩ := (hA []).ct.sl.form
  obtain ⟨A4, c4, rfl, _⟩ := (hA []).dn.sl.form
  obtain ⟨A5, c5, rfl, _⟩ := (hA []).rw.sl.form
  obtain ⟨B2, d2, rfl, _⟩ := (hB []).dq.sl.form
  obtain ⟨B3, d3, rfl, _⟩ := (hB []).ct.sl.form
  obtain ⟨B4, d4, rfl, _⟩ := (hB []).dn.sl.form
  obtain ⟨B5, d5, rfl, _⟩ := (hB []).rw.sl.form
  have e1 := fun {w : World} {Ms : List Heaplet} (hH : H w h (Ms ++ Ls)) => sameRows_ok hH (hA _).dq (hB _).dq
  have e2 := fun {w : World} {Ms : List Heaplet} (hH : H w h (Ms ++ Ls)) => sameRow_ok hH (hA _).ct (hB _).ct
  have e3 := fun {w : World} {Ms : List Heaplet} (hH : H w h (Ms ++ Ls)) => sameRow_ok hH (hA _).dn (hB _).dn
  have e4 := fun {w : World} {Ms : List Heaplet} (hH : H w h (Ms ++ Ls)) => sameRows_ok hH (hA _).rw (hB _).rw
  rw [decide_eq_true rfl] at e1 e2 e3 e4
  refine rets_enter Tryz.func14 rfl Tryz.ntmps14 (by simp) ?_
  refine WT_seq ?_
  refine WT_region ?_
  refine WL_box _ rfl hH rfl rfl ?_; rintro b1 w1 hH1
  refine WL_box _ rfl hH1 rfl rfl ?_; rintro b2 w2 hH2; replace hH2 : H w2 h ([crbox b2 (.slice B2 c.dq.length d2) (.slice B3 c.ct.length d3) (.slice B4 c.dn.length d4) (.slice B5 c.rw.length d5), crbox b1 (.slice A2 c.dq.length c2) (.slice A3 c.ct.length c3) (.slice A4 c.dn.length c4) (.slice A5 c.rw.length c5)] ++ Ls) := hH2
  refine WL_v rfl (ov_assign rfl) ?_
  refine WL_nil ?_
  refine WT_seq ?_
  refine WT_region ?_
  refine WL_v rfl (ov_field rfl fo_impl_Crew_0) ?_
  refine WL_v rfl (ov_load rfl one_sl_sl_int (hH2.cb 1 rfl 0)) ?_
  refine WL_v rfl (ov_field rfl fo_impl_Crew_0) ?_
  refine WL_v rfl (ov_load rfl one_sl_sl_int (hH2.cb 0 rfl 0)) ?_
  refine WL_call rfl rfl cf_laws_sameRows (e1 hH2) ?_; rintro _ w3 ⟨rfl, hH3⟩
  refine WL_v rfl (ov_move rfl) ?_
  refine WL_guardOn rfl rfl ?_
  refine WL_v rfl (ov_field rfl fo_impl_Crew_1) ?_
  refine WL_guardOn rfl rfl ?_
  refine WL_v rfl (ov_load rfl one_sl_int (hH3.cb 1 rfl 1)) ?_
  refine WL_guardOn rfl rfl ?_
  refine WL_v rfl (ov_field rfl fo_impl_Crew_1) ?_
  refine WL_guardOn rfl rfl ?_
  refine WL_v rfl (ov_load rfl one_sl_int (hH3.cb 0 rfl 1)) ?_
  refine WL_guardOn rfl rfl ?_
  refine WL_call rfl rfl cf_laws_sameRow (e2 hH3) ?_; rintro _ w4 ⟨rfl, hH4⟩
  refine WL_v rfl (ov_pickT rfl rfl) ?_
  refine WL_v rfl (ov_move rfl) ?_
  refine WL_guardOn rfl rfl ?_
  refine WL_v rfl (ov_field rfl fo_impl_Crew_2) ?_
  refine WL_guardOn rfl rfl ?_
  refine WL_v rfl (ov_load rfl one_sl_int (hH4.cb 1 rfl 2)) ?_
  refine WL_guardOn rfl rfl ?_
  refine WL_v rfl (ov_field rfl fo_impl_Crew_2) ?_
  refine WL_guardOn rfl rfl ?_
  refine WL_v rfl (ov_load rfl one_sl_int (hH4.cb 0 rfl 2)) ?_
  refine WL_guardOn rfl rfl ?_
  refine WL_call rfl rfl cf_laws_sameRow (e3 hH4) ?_; rintro _ w5 ⟨rfl, hH5⟩
  refine WL_v rfl (ov_pickT rfl rfl) ?_
  refine WL_v rfl (ov_move rfl) ?_
  refine WL_guardOn rfl rfl ?_
  refine WL_v rfl (ov_field rfl fo_impl_Crew_3) ?_
  refine WL_guardOn rfl rfl ?_
  refine WL_v rfl (ov_load rfl one_sl_sl_int (hH5.cb 1 rfl 3)) ?_
  refine WL_guardOn rfl rfl ?_
  refine WL_v rfl (ov_field rfl fo_impl_Crew_3) ?_
  refine WL_guardOn rfl rfl ?_
  refine WL_v rfl (ov_load rfl one_sl_sl_int (hH5.cb 0 rfl 3)) ?_
  refine WL_guardOn rfl rfl ?_
  refine WL_call rfl rfl cf_laws_sameRows (e4 hH5) ?_; rintro _ w6 ⟨rfl, hH6⟩
  refine WL_v rfl (ov_pickT rfl rfl) ?_
  refine WL_v rfl (ov_assign rfl) ?_
  refine WL_nil ?_
  exact WT_ret1 Tryz.func14 Tryz.results14 rfl ⟨rfl, hH6.drop.drop⟩

end
end Go.Proofs.YteagnhdhafiofaaGreat
