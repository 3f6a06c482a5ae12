/- Own rules: maps of one's own. No program is named here. -/
import Derived.Test.YtafljegjdanldaaSlJ
import Derived.WideKeyMaps2
import Derived.DeepKeys5
namespace Go.Proofs.Ytafljegjdanldaa
open Go.RowKit

/-- What is asked of the keys of a map type. -/
structure MLaw (P : Program) (k : TypeId) (G : Value → Prop) : Prop where
  check : ∀ (w : World) (em : Bool) {v : Value}, G v → (Instr.checkKey em 10000 k v).run P w = .ok () w
  find : ∀ (w : World) {x : Value}, G x → ∀ es : List MapEntry, (∀ e ∈ es, G e.key) →
    ((Instr.findKey k x es).run P w = .ok none w ∧ ∀ e ∈ es, e.key ≠ x) ∨ ∃ j e, (Instr.findKey k x es).run P w = .ok (some (j, e.val)) w ∧ es[j]? = some e ∧ e.key = x
  stays : ∀ (w : World) {v : Value}, G v → (Instr.keyThatStays v v).run P w = .ok v w

theorem MLaw.deep {P : Program} {k : TypeId} (K : WideMaps.KeyLaw P k) : MLaw P k (fun v => ∃ l, keyOf P k v = some l) :=
  ⟨fun w em _ ⟨_, h⟩ => K.check w em h, fun w _ ⟨_, h⟩ es hes => K.find w h es hes, fun w _ ⟨_, h⟩ => K.stays w h⟩

theorem findNow_int {x : Int} : ∀ (es : List MapEntry) (i : Nat), (∀ e ∈ es, ∃ n, e.key = .int .i64 n) →
    (Instr.findNow (.int .i64) (.int .i64 x) es i = some none ∧ ∀ e ∈ es, e.key ≠ .int .i64 x) ∨ ∃ j e, Instr.findNow (.int .i64) (.int .i64 x) es i = some (some (i + j, e.val)) ∧ es[j]? = some e ∧ e.key = .int .i64 x
  | [], i, _ => .inl ⟨rfl, by simp⟩
  | e :: es, i, h => by
    obtain ⟨n, hn⟩ := h e (by simp)
    by_cases hx : x = n
    · subst hx
      exact .inr ⟨0, e, by simp [Instr.findNow, Instr.sameNow, hn], rfl, hn⟩
    · rcases findNow_int (x := x) es (i + 1) (fun e he => h e (by simp [he])) with ⟨h1, h2⟩ | ⟨j, e2, h1, h2, h3⟩
      · refine .inl ⟨by simp [Instr.findNow, Instr.sameNow, hn, beq_false_of_ne hx, h1], fun e2 he2 => ?_⟩
        rcases List.mem_cons.1 he2 with rfl | he2
        · rw [hn]; intro h4; exact hx (by injection h4 with _ h5; exact h5.symm)
        · exact h2 e2 he2
      · exact .inr ⟨j + 1, e2, by simp [Instr.findNow, Instr.sameNow, hn, beq_false_of_ne hx, h1, show i + (j + 1) = i + 1 + j by omega], h2, h3⟩
/-- Whole numbers as keys. -/
theorem MLaw.int {P : Program} {k : TypeId} (hk : P.underlying k = some (.int .i64)) : MLaw P k (fun v => ∃ n, v = .int .i64 n) := by
  refine ⟨fun w em v ⟨n, hv⟩ => ?_, fun w x ⟨n, hx⟩ es hes => ?_, fun w v ⟨n, hv⟩ => ?_⟩
  · subst hv
    rw [Instr.checkKey]
    simp [run_underlying hk]
  · subst hx
    rcases findNow_int (x := n) es 0 hes with ⟨h1, h2⟩ | ⟨j, e, h1, h2, h3⟩
    · exact .inl ⟨by simp [Instr.findKey, run_underlying hk, h1], h2⟩
    · exact .inr ⟨j, e, by rw [Nat.zero_add] at h1; simp [Instr.findKey, run_underlying hk, h1], h2, h3⟩
  · subst hv
    simp [Instr.keyThatStays, Instr.sameBits]

theorem run_newMap {P : Program} {w : World} {o : Obj} : (newObj o).run P w = .ok w.heap.size (w.alloc o) := rfl
/-- The world behind a map that is written. -/
def mapped (w : World) (g : Nat) (o : Obj) : World := { w with heap := w.heap.setIfInBounds g o }
theorem run_setMap {P : Program} {w : World} {g : Nat} {es : Array MapEntry} {c : Nat} {o : Obj} (hg : w.heap[g]? = some (.map es c)) : (setObj g o).run P w = .ok () (mapped w g o) := by
  simp only [setObj, Sem.run, hg]; rfl
/-- A map of one's own: its keys and values, in order. -/
structure MRow (X : Heaplet) (G : Value → Prop) (v : Value) (L : List (Value × Value)) : Prop where
  ex : ∃ g es clock, X = [(g, .map es clock)] ∧ v = .map (some g) ∧ es.toList.map (fun e => (e.key, e.val)) = L ∧ ∀ e ∈ es.toList, G e.key

section
variable {F : Fx} {env : Env} {w : World} {k : Kon} {ops : Array Oper} {rest : List Oper} {d : Nat} {ty : TypeId} {pos : String} {aft : Array Edge} {h : GH} {Ls : List Heaplet}

theorem run_getMap {P : Program} {w : World} {g : Nat} {es : Array MapEntry} {clock : Nat} (hg : w.heap[g]? = some (.map es clock)) : (getObj g).run P w = .ok (.map es clock) w := MapKept.run_getObj_map hg

theorem WL_makeMap {t : TypeId} (G : Value → Prop) (hd : Nat.blt d F.n = true) (hH : H w h Ls)
    (hk : ∀ X v w', MRow X G v [] → H w' h (X :: Ls) → WL F ops rest k ((d, v) :: env) w') : WL F ops (⟨some d, .makeMap t none, ty, pos, aft, none⟩ :: rest) k env w :=
  WL_val (w' := w.alloc (.map #[] 0)) (v := .map (some w.heap.size)) hd (fun ρ hρ => by
    simp [execOp, Instr.makeMap, run_newMap]) (hk _ _ _ ⟨w.heap.size, #[], 0, rfl, rfl, rfl, by simp⟩ (hH.new _))

theorem WL_lookup {t kt e : TypeId} {G : Value → Prop} {x y : Operand} {i : Nat} {X : Heaplet} {v key z : Value} {L : List (Value × Value)} (hd : Nat.blt d F.n = true) (hH : H w h Ls) (hx : ev env x = some v) (hy : ev env y = some key)
    (ht : F.P.underlying t = some (.map kt e)) (hz : ∀ W, (zeroValue e).run F.P W = .ok z W) (K : MLaw F.P kt G) (hi : Ls[i]? = some X) (hM : MRow X G v L) (hG : G key)
    (hno : (∀ q ∈ L, q.1 ≠ key) → WL F ops rest k ((d, .tuple #[z, .bool false]) :: env) w)
    (hyes : ∀ (j : Nat) (u : Value), L[j]? = some (key, u) → WL F ops rest k ((d, .tuple #[u, .bool true]) :: env) w) :
    WL F ops (⟨some d, .lookup t x y true, ty, pos, aft, none⟩ :: rest) k env w := by
  obtain ⟨g, es, clock, rfl, rfl, hL, hGe⟩ := hM.ex
  have hg := hH.mem hi (p := (g, .map es clock)) (by simp)
  rcases K.find w hG es.toList hGe with ⟨h1, h2⟩ | ⟨j, e0, h1, h2, h3⟩
  · exact WL_val (w' := w) hd (fun ρ hρ => by
      simp [execOp, Instr.lookup, hρ.1 x _ hx, hρ.1 y _ hy, run_underlying ht, run_getMap hg, K.check w _ hG, h1, hz]) (hno fun q hq => by
        rw [← hL] at hq
        obtain ⟨e0, he0, rfl⟩ := List.mem_map.1 hq
        exact h2 e0 he0)
  · exact WL_val (w' := w) hd (fun ρ hρ => by
      simp [execOp, Instr.lookup, hρ.1 x _ hx, hρ.1 y _ hy, run_underlying ht, run_getMap hg, K.check w _ hG, h1]) (hyes j e0.val (by rw [← hL, List.getElem?_map, h2, ← h3]; rfl))

theorem H.setMap {i g : Nat} {es es' : Array MapEntry} {c c' : Nat} (hH : H w h Ls) (hi : Ls[i]? = some [(g, .map es c)]) : H (mapped w g (.map es' c')) h (Ls.set i [(g, .map es' c')]) := by
  have hg := hH.mem hi (p := (g, .map es c)) (by simp)
  have hlt : g < w.heap.size := (Array.getElem?_eq_some_iff.1 hg).1
  refine hH.act hi rfl rfl rfl (by simp [mapped]) (fun n hn hne => ?_) (fun p hp => ?_) (by simp) (fun p hp => .inl ⟨(g, .map es c), by simp, ?_⟩)
  · have : g ≠ n := hne (g, .map es c) (by simp)
    simp [mapped, Array.getElem?_setIfInBounds, this]
  · obtain rfl := List.mem_singleton.1 hp
    simp [mapped, Array.getElem?_setIfInBounds, hlt]
  · obtain rfl := List.mem_singleton.1 hp; rfl

theorem WL_mapNew {t kt e : TypeId} {G : Value → Prop} {x y z : Operand} {i : Nat} {X : Heaplet} {v key u : Value} {L : List (Value × Value)} (hH : H w h Ls) (hx : ev env x = some v) (hy : ev env y = some key) (hz : ev env z = some u)
    (ht : F.P.underlying t = some (.map kt e)) (K : MLaw F.P kt G) (hi : Ls[i]? = some X) (hM : MRow X G v L) (hG : G key) (hn : ∀ q ∈ L, q.1 ≠ key)
    (hk : ∀ X' w', MRow X' G v (L ++ [(key, u)]) → H w' h (Ls.set i X') → WL F ops rest k env w') :
    WL F ops (⟨none, .mapUpdate t x y z, ty, pos, aft, none⟩ :: rest) k env w := by
  obtain ⟨g, es, clock, rfl, rfl, hL, hGe⟩ := hM.ex
  have hg := hH.mem hi (p := (g, .map es clock)) (by simp)
  rcases K.find w hG es.toList hGe with ⟨h1, h2⟩ | ⟨j, e0, h1, h2, h3⟩
  · exact WL_unit (w' := mapped w g (.map (es.push { key := key, val := u, born := clock }) (clock + 1))) (fun ρ hρ => by
      simp [execOp, Instr.mapUpdate, hρ.1 x _ hx, hρ.1 y _ hy, hρ.1 z _ hz, run_underlying ht, run_getMap hg, K.check w _ hG, h1, run_setMap hg]) (hk _ _ ⟨g, _, _, rfl, rfl, by simp [hL], fun e0 he0 => by
        rw [Array.toList_push] at he0
        rcases List.mem_append.1 he0 with he0 | he0
        · exact hGe e0 he0
        · obtain rfl := List.mem_singleton.1 he0; exact hG⟩ (hH.setMap hi))
  · exact absurd h3 (hn (e0.key, e0.val) (by rw [← hL]; exact List.mem_map.2 ⟨e0, List.mem_of_getElem? h2, rfl⟩))
end
end Go.Proofs.Ytafljegjdanldaa
