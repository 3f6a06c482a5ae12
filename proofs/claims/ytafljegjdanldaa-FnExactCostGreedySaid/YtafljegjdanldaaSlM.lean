/- Rules: three effects are ready; results in variables beside others. -/
import Derived.Test.YtafljegjdanldaaSlL
namespace Go.Proofs.Ytafljegjdanldaa
open Go.RowKit

section
variable {F : Fx} {env : Env} {w : World} {k : List Item} {ops : Array Oper} {C : World → Prop}
/-- Three effects are ready: each may come first. -/
theorem WM_fork3 {tg : List (Nat × Nat)} {n : Nat} {listed : Array Bool} (i j m ti tj tm : Nat) (ri rj rm : List (Nat × Nat)) (ni nj nm : Nat) (li lj lm : Array Bool)
    (hB : (Region.noSelect ops && sinkB ops (tagOf tg) && (tagOf tg i == ti + 2 && tagOf tg j == tj + 2 && tagOf tg m == tm + 2) && (ni + ri.length + 1 == n && nj + rj.length + 1 == n && nm + rm.length + 1 == n) && Region.ready .any ops listed == [i, j, m]
      && walkL ops (tagOf tg) ri (listed.setIfInBounds i true) == some li && walkL ops (tagOf tg) rj (listed.setIfInBounds j true) == some lj && walkL ops (tagOf tg) rm (listed.setIfInBounds m true) == some lm) = true)
    (hi : WMK F ops C ((i, ti + 2) :: ri) (Xk F ops C tg ni li k) env w) (hj : WMK F ops C ((j, tj + 2) :: rj) (Xk F ops C tg nj lj k) env w) (hm : WMK F ops C ((m, tm + 2) :: rm) (Xk F ops C tg nm lm k) env w) : WMK F ops C [] (Xk F ops C tg n listed k) env w := fun T hT => by
  simp only [Bool.and_eq_true, beq_iff_eq] at hB
  obtain ⟨⟨⟨⟨⟨⟨⟨h1, h2⟩, ⟨hti, htj⟩, htm⟩, ⟨hni, hnj⟩, hnm⟩, hr⟩, hwi⟩, hwj⟩, hwm⟩ := hB
  refine ⟨rfl, fun hdc => ?_⟩
  obtain ⟨q, rfl⟩ : ∃ q, n = q + 1 := ⟨_, hni.symm⟩
  refine ⟨fun h0 => by simp [hr] at h0, fun x hx => ?_⟩
  have hx' : x = i ∨ x = j ∨ x = m := by simpa [hr] using hx
  rcases hx' with rfl | rfl | rfl
  · obtain rfl : ni + ri.length = q := by omega
    have hh := hi T hT
    exact wpOp_post (wpOp_mono (fun a' w' h' => ⟨fun hh => h'.1 (hti ▸ hh.2), wpMix_walkL h2 h1 (fun a w h => h) ri _ _ _ (hdc.next hx) hwi h'.2⟩) hh)
  · obtain rfl : nj + rj.length = q := by omega
    have hh := hj T hT
    exact wpOp_post (wpOp_mono (fun a' w' h' => ⟨fun hh => h'.1 (htj ▸ hh.2), wpMix_walkL h2 h1 (fun a w h => h) rj _ _ _ (hdc.next hx) hwj h'.2⟩) hh)
  · obtain rfl : nm + rm.length = q := by omega
    have hh := hm T hT
    exact wpOp_post (wpOp_mono (fun a' w' h' => ⟨fun hh => h'.1 (htm ▸ hh.2), wpMix_walkL h2 h1 (fun a w h => h) rm _ _ _ (hdc.next hx) hwm h'.2⟩) hh)

/-- Readers that lean on some of the own parts alone. -/
theorem WT_mixS {id : Nat} {l : List Oper} (π : List (Nat × Nat)) (S : List Heaplet) {h : GH} {Ls : List Heaplet} (hS : ∀ w', H w' h Ls → Cl h S w') (hm : F.P.follows .mixedOrders = true)
    (hB : (Region.noSelect l.toArray && sinkB l.toArray (tagOf π) && π.length == l.length && walkB l.toArray (tagOf π) π (Array.replicate l.length false)) = true)
    (hH : H w h Ls) (hk : ∀ w', H w' h Ls → Cl h S w' → WM F l.toArray (Cl h S) π k env w') : WT F (.code (.region id l.toArray true) :: k) env w :=
  WT_mix π (Cl h S) hm hB hH fun w' hw => hk w' hw (hS w' hw)

theorem WT_mixXS {id : Nat} {l : List Oper} (tg : List (Nat × Nat)) (π : List (Nat × Nat)) (n : Nat) (l2 : Array Bool) (S : List Heaplet) {h : GH} {Ls : List Heaplet} (hS : ∀ w', H w' h Ls → Cl h S w') (hm : F.P.follows .mixedOrders = true)
    (hB : (Region.noSelect l.toArray && sinkB l.toArray (tagOf tg) && n + π.length == l.length && walkL l.toArray (tagOf tg) π (Array.replicate l.length false) == some l2) = true)
    (hH : H w h Ls) (hk : ∀ w', H w' h Ls → Cl h S w' → WMK F l.toArray (Cl h S) π (Xk F l.toArray (Cl h S) tg n l2 k) env w') : WT F (.code (.region id l.toArray true) :: k) env w := fun T hT => by
  simp only [Bool.and_eq_true, beq_iff_eq] at hB
  obtain ⟨⟨⟨h1, h2⟩, h3⟩, h4⟩ := hB
  refine WA_of_wp (wp_region_any hm (wpAny_of_mix (C := Cl h S) (tg := tagOf tg) _ _ _ _ ?_))
  have hd := hH.drew (w.drawn + 1)
  have := wpMix_walkL (P := F.P) (C := Cl h S) (κ := It F k) (n := n) h2 h1 (fun a w h => h) π (Array.replicate l.length false) ⟨T, []⟩ _ (Dc.start _ _) h4 (hk _ hd (hS _ hd) T hT)
  simpa [h3] using this

theorem results_ct {fn : Func} {p q : Tmp} {ty : TypeId} (hr : fn.results = #[.cell p ty, .tmp q]) {T : Array Value} {P : Program} {a : Addr} {u v : Value} (hv : T.getD p undef = .pointer (some a)) (hl : (loadVar ty a).run P w = .ok v w) (hq : T.getD q undef = u) : (results fn T).run P w = .ok (.tuple #[v, u]) w := by
  simp only [Array.getD_eq_getD_getElem?] at hv hq
  simp [results, hr, hv, asAddr, hl, hq]
theorem results_tc {fn : Func} {p q : Tmp} {ty : TypeId} (hr : fn.results = #[.tmp q, .cell p ty]) {T : Array Value} {P : Program} {a : Addr} {u v : Value} (hv : T.getD p undef = .pointer (some a)) (hl : (loadVar ty a).run P w = .ok v w) (hq : T.getD q undef = u) : (results fn T).run P w = .ok (.tuple #[u, v]) w := by
  simp only [Array.getD_eq_getD_getElem?] at hv hq
  simp [results, hr, hv, asAddr, hl, hq]
theorem results_tct {fn : Func} {p q r : Tmp} {ty : TypeId} (hr : fn.results = #[.tmp q, .cell p ty, .tmp r]) {T : Array Value} {P : Program} {a : Addr} {u v x : Value} (hv : T.getD p undef = .pointer (some a)) (hl : (loadVar ty a).run P w = .ok v w) (hq : T.getD q undef = u) (hx : T.getD r undef = x) : (results fn T).run P w = .ok (.tuple #[u, v, x]) w := by
  simp only [Array.getD_eq_getD_getElem?] at hv hq hx
  simp [results, hr, hv, asAddr, hl, hq, hx]
theorem WT_retCT {fn : Func} {p q : Tmp} {ty : TypeId} {a : Addr} {u v : Value} (hf : F.P.funcs[F.f]? = some fn) (hr : fn.results = #[.cell p ty, .tmp q]) (hv : lk env p = some (.pointer (some a))) (hq : lk env q = some u) (hl : (loadVar ty a).run F.P w = .ok v w) (hR : F.R (.tuple #[v, u]) w) : WT F (.code .ret :: k) env w :=
  WT_retG hf (fun _ hT => results_ct hr (hT.getD hv) hl (hT.getD hq)) hR
theorem WT_retTC {fn : Func} {p q : Tmp} {ty : TypeId} {a : Addr} {u v : Value} (hf : F.P.funcs[F.f]? = some fn) (hr : fn.results = #[.tmp q, .cell p ty]) (hv : lk env p = some (.pointer (some a))) (hq : lk env q = some u) (hl : (loadVar ty a).run F.P w = .ok v w) (hR : F.R (.tuple #[u, v]) w) : WT F (.code .ret :: k) env w :=
  WT_retG hf (fun _ hT => results_tc hr (hT.getD hv) hl (hT.getD hq)) hR
theorem WT_retTCT {fn : Func} {p q r : Tmp} {ty : TypeId} {a : Addr} {u v x : Value} (hf : F.P.funcs[F.f]? = some fn) (hr : fn.results = #[.tmp q, .cell p ty, .tmp r]) (hv : lk env p = some (.pointer (some a))) (hq : lk env q = some u) (hx : lk env r = some x) (hl : (loadVar ty a).run F.P w = .ok v w) (hR : F.R (.tuple #[u, v, x]) w) : WT F (.code .ret :: k) env w :=
  WT_retG hf (fun _ hT => results_tct hr (hT.getD hv) hl (hT.getD hq) (hT.getD hx)) hR
end
end Go.Proofs.Ytafljegjdanldaa
