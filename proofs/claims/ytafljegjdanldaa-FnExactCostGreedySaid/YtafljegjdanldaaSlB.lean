/- Memory as a shared part that is only read (a ghost) and a list of parts of one's own. No program is named here. -/
import Derived.Test.YtafljegjdanldaaSlA
import Derived.WalkKit
namespace Go.Proofs.Ytafljegjdanldaa
open Go.RowKit

abbrev Heaplet := List (Nat × Obj)

/-- What is shared and only read: blocks, the streams, and how many blocks there are at least. -/
structure GH where
  blk : Nat → Option Obj
  os : Os
  tape : Nat → Question → Nat
  output : Array (Nat × ByteArray)
  lim : Nat

structure GH.Le (h h' : GH) : Prop where
  blk : ∀ g o, h.blk g = some o → h'.blk g = some o
  os : h'.os = h.os
  tape : h'.tape = h.tape
  output : h'.output = h.output
  lim : h.lim ≤ h'.lim

theorem GH.Le.refl (h : GH) : h.Le h := ⟨fun _ _ x => x, rfl, rfl, rfl, Nat.le_refl _⟩
theorem GH.Le.trans {a b c : GH} (h : a.Le b) (k : b.Le c) : a.Le c :=
  ⟨fun g o x => k.blk g o (h.blk g o x), k.os.trans h.os, k.tape.trans h.tape, k.output.trans h.output, Nat.le_trans h.lim k.lim⟩

/-- The world holds what is shared, and, apart from it and from each other, what is one's own. -/
structure HF (w : World) (h : GH) (L : Heaplet) : Prop where
  os : w.os = h.os
  tape : w.tape = h.tape
  output : w.output = h.output
  lim : h.lim ≤ w.heap.size
  rd : ∀ g o, h.blk g = some o → w.heap[g]? = some o
  own : ∀ p ∈ L, w.heap[p.1]? = some p.2
  nodup : (L.map (·.1)).Nodup
  sep : ∀ p ∈ L, h.blk p.1 = none

def H (w : World) (h : GH) (Ls : List Heaplet) : Prop := HF w h Ls.flatten

theorem lt_of_heap {w : World} {g : Nat} {o : Obj} (h : w.heap[g]? = some o) : g < w.heap.size := by
  rcases Nat.lt_or_ge g w.heap.size with h' | h'
  · exact h'
  · rw [Array.getElem?_eq_none h'] at h; cases h

theorem HF.perm {w : World} {h : GH} {L L' : Heaplet} (hH : HF w h L) (hp : L.Perm L') : HF w h L' :=
  ⟨hH.os, hH.tape, hH.output, hH.lim, hH.rd, fun p hm => hH.own p (hp.mem_iff.2 hm), ((hp.map _).nodup_iff).1 hH.nodup, fun p hm => hH.sep p (hp.mem_iff.2 hm)⟩

theorem H.perm {w : World} {h : GH} {Ls Ls' : List Heaplet} (hH : H w h Ls) (hp : Ls.Perm Ls') : H w h Ls' := HF.perm hH hp.flatten

/-- A step that turns only what is in X (or makes new blocks) leaves all else. -/
theorem HF.act {w w' : World} {h : GH} {A X B X' : Heaplet} (hH : HF w h (A ++ (X ++ B)))
    (hos : w'.os = w.os) (htape : w'.tape = w.tape) (hout : w'.output = w.output) (hsz : w.heap.size ≤ w'.heap.size)
    (hkeep : ∀ g, g < w.heap.size → (∀ p ∈ X, p.1 ≠ g) → w'.heap[g]? = w.heap[g]?)
    (hX' : ∀ p ∈ X', w'.heap[p.1]? = some p.2) (hk : (X'.map (·.1)).Nodup)
    (hnew : ∀ p ∈ X', (∃ q ∈ X, q.1 = p.1) ∨ w.heap.size ≤ p.1) : HF w' h (A ++ (X' ++ B)) := by
  have hnd := hH.nodup
  simp only [List.map_append, List.nodup_append] at hnd
  obtain ⟨nA, ⟨nX, nB, dXB⟩, dA⟩ := hnd
  have hApart : ∀ p ∈ A ++ B, ∀ q ∈ X, q.1 ≠ p.1 := by
    intro p hp q hq
    rcases List.mem_append.1 hp with hp | hp
    · exact Ne.symm (dA _ (List.mem_map_of_mem hp) _ (List.mem_append_left _ (List.mem_map_of_mem hq)))
    · exact dXB _ (List.mem_map_of_mem hq) _ (List.mem_map_of_mem hp)
  have hmem : ∀ p ∈ A ++ B, p ∈ A ++ (X ++ B) := by
    intro p hp
    rcases List.mem_append.1 hp with hp | hp
    · exact List.mem_append_left _ hp
    · exact List.mem_append_right _ (List.mem_append_right _ hp)
  have hother : ∀ p ∈ A ++ B, ∀ q ∈ X', q.1 ≠ p.1 := by
    intro p hp q hq he
    rcases hnew q hq with ⟨x, hx, hxe⟩ | hge
    · exact hApart p hp x hx (hxe.trans he)
    · have := lt_of_heap (hH.own p (hmem p hp)); omega
  refine ⟨hos.trans hH.os, htape.trans hH.tape, hout.trans hH.output, Nat.le_trans hH.lim hsz, ?_, ?_, ?_, ?_⟩
  · intro g o hg
    have h1 := hH.rd g o hg
    rw [hkeep g (lt_of_heap h1) (fun p hp he => by
      have := hH.sep p (List.mem_append_right _ (List.mem_append_left _ hp))
      rw [he, hg] at this; cases this)]
    exact h1
  · intro p hp
    have hcase : p ∈ A ++ B ∨ p ∈ X' := by
      rcases List.mem_append.1 hp with hp | hp
      · exact .inl (List.mem_append_left _ hp)
      · rcases List.mem_append.1 hp with hp | hp
        · exact .inr hp
        · exact .inl (List.mem_append_right _ hp)
    rcases hcase with hp | hp
    · have h1 := hH.own p (hmem p hp)
      rw [hkeep p.1 (lt_of_heap h1) (fun q hq => hApart p hp q hq)]
      exact h1
    · exact hX' p hp
  · simp only [List.map_append, List.nodup_append]
    refine ⟨nA, ⟨hk, nB, ?_⟩, ?_⟩
    · intro a ha b hb
      obtain ⟨q, hq, rfl⟩ := List.mem_map.1 ha
      obtain ⟨p, hp, rfl⟩ := List.mem_map.1 hb
      exact hother p (List.mem_append_right _ hp) q hq
    · intro a ha b hb
      obtain ⟨p, hp, rfl⟩ := List.mem_map.1 ha
      rcases List.mem_append.1 hb with hb | hb
      · obtain ⟨q, hq, rfl⟩ := List.mem_map.1 hb
        exact Ne.symm (hother p (List.mem_append_left _ hp) q hq)
      · exact dA _ (List.mem_map_of_mem hp) _ (List.mem_append_right _ hb)
  · intro p hp
    have hcase : p ∈ A ++ B ∨ p ∈ X' := by
      rcases List.mem_append.1 hp with hp | hp
      · exact .inl (List.mem_append_left _ hp)
      · rcases List.mem_append.1 hp with hp | hp
        · exact .inr hp
        · exact .inl (List.mem_append_right _ hp)
    rcases hcase with hp | hp
    · exact hH.sep p (hmem p hp)
    · rcases hnew p hp with ⟨x, hx, hxe⟩ | hge
      · rw [← hxe]; exact hH.sep x (List.mem_append_right _ (List.mem_append_left _ hx))
      · cases hb : h.blk p.1 with
        | none => rfl
        | some o => have := lt_of_heap (hH.rd _ _ hb); omega

theorem flat_set : ∀ {Ls : List Heaplet} {i : Nat} {X : Heaplet}, Ls[i]? = some X → ∃ A B, Ls.flatten = A ++ (X ++ B) ∧ ∀ X', (Ls.set i X').flatten = A ++ (X' ++ B)
  | [], _, _, h => by simp at h
  | Y :: Ls, 0, X, h => by
    simp only [List.getElem?_cons_zero, Option.some.injEq] at h
    subst h
    exact ⟨[], Ls.flatten, by simp, fun X' => by simp⟩
  | Y :: Ls, i + 1, X, h => by
    simp only [List.getElem?_cons_succ] at h
    obtain ⟨A, B, h1, h2⟩ := flat_set h
    exact ⟨Y ++ A, B, by simp [h1], fun X' => by simp [h2]⟩

/-- The same at place i of the list of parts. -/
theorem H.act {w w' : World} {h : GH} {Ls : List Heaplet} {i : Nat} {X X' : Heaplet} (hH : H w h Ls) (hi : Ls[i]? = some X)
    (hos : w'.os = w.os) (htape : w'.tape = w.tape) (hout : w'.output = w.output) (hsz : w.heap.size ≤ w'.heap.size)
    (hkeep : ∀ g, g < w.heap.size → (∀ p ∈ X, p.1 ≠ g) → w'.heap[g]? = w.heap[g]?)
    (hX' : ∀ p ∈ X', w'.heap[p.1]? = some p.2) (hk : (X'.map (·.1)).Nodup)
    (hnew : ∀ p ∈ X', (∃ q ∈ X, q.1 = p.1) ∨ w.heap.size ≤ p.1) : H w' h (Ls.set i X') := by
  obtain ⟨A, B, h1, h2⟩ := flat_set hi
  unfold H at hH ⊢
  rw [h1] at hH
  rw [h2]
  exact hH.act hos htape hout hsz hkeep hX' hk hnew

theorem H.mem {w : World} {h : GH} {Ls : List Heaplet} {i : Nat} {X : Heaplet} (hH : H w h Ls) (hi : Ls[i]? = some X) {p : Nat × Obj} (hp : p ∈ X) : w.heap[p.1]? = some p.2 :=
  hH.own p (List.mem_flatten.2 ⟨X, List.mem_of_getElem? hi, hp⟩)
theorem H.sepOf {w : World} {h : GH} {Ls : List Heaplet} {i : Nat} {X : Heaplet} (hH : H w h Ls) (hi : Ls[i]? = some X) {p : Nat × Obj} (hp : p ∈ X) : h.blk p.1 = none :=
  hH.sep p (List.mem_flatten.2 ⟨X, List.mem_of_getElem? hi, hp⟩)

theorem H.keysOf {w : World} {h : GH} {Ls : List Heaplet} {i : Nat} {X : Heaplet} (hH : H w h Ls) (hi : Ls[i]? = some X) : (X.map (·.1)).Nodup := by
  obtain ⟨A, B, h1, _⟩ := flat_set hi
  have := HF.nodup hH
  rw [h1] at this
  simp only [List.map_append, List.nodup_append] at this
  exact this.2.1.1

theorem cell_of_heap {w : World} {g : Nat} {cs : Array Value} {e : TypeId} {fz : Nat × Nat} (h : w.heap[g]? = some (.cells cs e fz)) (o : Nat) : w.cell? ⟨g, o, none⟩ = cs[o]? := by
  simp [World.cell?, h]
theorem frozen_of_heap {w : World} {g : Nat} {cs : Array Value} {e : TypeId} (h : w.heap[g]? = some (.cells cs e (0, 0))) (o : Nat) : w.frozen? ⟨g, o, none⟩ = false := by
  simp [World.frozen?, h]

theorem H.cb {w : World} {h : GH} {Ls : List Heaplet} (hH : H w h Ls) (i : Nat) {g : Nat} {cs : Array Value} {e : TypeId} {fz : Nat × Nat} (hi : Ls[i]? = some [(g, .cells cs e fz)]) (o : Nat) : w.cell? ⟨g, o, none⟩ = cs[o]? :=
  cell_of_heap (hH.mem hi (p := (g, .cells cs e fz)) (by simp)) o
theorem keys_apart : ∀ {Ls : List Heaplet} {i j : Nat} {X Y : Heaplet}, (Ls.flatten.map (·.1)).Nodup → Ls[i]? = some X → Ls[j]? = some Y → i ≠ j → ∀ p ∈ X, ∀ q ∈ Y, p.1 ≠ q.1
  | [], _, _, _, _, _, h, _, _ => by simp at h
  | Z :: Ls, i, j, X, Y, hn, hi, hj, hne => by
    simp only [List.flatten_cons, List.map_append, List.nodup_append] at hn
    obtain ⟨_, h2, h3⟩ := hn
    have hin : ∀ {i : Nat} {X : Heaplet}, Ls[i]? = some X → ∀ p ∈ X, p.1 ∈ Ls.flatten.map (·.1) := fun h p hp =>
      List.mem_map_of_mem (List.mem_flatten.2 ⟨_, List.mem_of_getElem? h, hp⟩)
    intro p hp q hq
    match i, j, hi, hj, hne with
    | 0, 0, _, _, hne => exact absurd rfl hne
    | 0, j + 1, hi, hj, _ =>
      simp only [List.getElem?_cons_zero, Option.some.injEq] at hi
      simp only [List.getElem?_cons_succ] at hj
      subst hi
      exact h3 _ (List.mem_map_of_mem hp) _ (hin hj q hq)
    | i + 1, 0, hi, hj, _ =>
      simp only [List.getElem?_cons_zero, Option.some.injEq] at hj
      simp only [List.getElem?_cons_succ] at hi
      subst hj
      exact fun he => h3 _ (List.mem_map_of_mem hq) _ (hin hi p hp) he.symm
    | i + 1, j + 1, hi, hj, hne =>
      simp only [List.getElem?_cons_succ] at hi hj
      exact keys_apart h2 hi hj (by omega) p hp q hq
/-- Two parts at different places have different blocks. -/
theorem H.ne {w : World} {h : GH} {Ls : List Heaplet} (hH : H w h Ls) {i j : Nat} {x y : Nat} {a b : Obj} (hi : Ls[i]? = some [(x, a)]) (hj : Ls[j]? = some [(y, b)]) (hne : i ≠ j) : x ≠ y :=
  keys_apart hH.nodup hi hj hne (x, a) (by simp) (y, b) (by simp)
/-- A draw turns nothing. -/
theorem H.drew {w : World} {h : GH} {Ls : List Heaplet} (hH : H w h Ls) (n : Nat) : H { w with drawn := n } h Ls :=
  ⟨hH.os, hH.tape, hH.output, hH.lim, hH.rd, hH.own, hH.nodup, hH.sep⟩

/-- A new block. -/
theorem H.new {w : World} {h : GH} {Ls : List Heaplet} (hH : H w h Ls) (o : Obj) : H (w.alloc o) h ([(w.heap.size, o)] :: Ls) := by
  have h0 : HF w h ([] ++ ([] ++ Ls.flatten)) := by simpa [H] using hH
  have := h0.act (w' := w.alloc o) (X' := [(w.heap.size, o)]) rfl rfl rfl (by simp) (fun g hg _ => Below.heap_alloc w o g hg)
    (fun p hp => by
      simp only [List.mem_singleton] at hp
      subst hp
      show (w.heap.push o)[w.heap.size]? = some o
      simp) (by simp) (fun p hp => .inr (by simp only [List.mem_singleton] at hp; subst hp; exact Nat.le_refl _))
  simpa [H] using this

/-- A part is dropped. -/
theorem H.drop {w : World} {h : GH} {Ls : List Heaplet} {X : Heaplet} (hH : H w h (X :: Ls)) : H w h Ls := by
  have h0 : HF w h ([] ++ (X ++ Ls.flatten)) := by simpa [H] using hH
  have := h0.act (w' := w) (X' := []) rfl rfl rfl (Nat.le_refl _) (fun _ _ _ => rfl) (by simp) (by simp) (by simp)
  simpa [H] using this
theorem H.dropI {w : World} {h : GH} {Ls : List Heaplet} {i : Nat} {X : Heaplet} (hH : H w h Ls) (hi : Ls[i]? = some X) : H w h (Ls.set i []) :=
  hH.act hi rfl rfl rfl (Nat.le_refl _) (fun _ _ _ => rfl) (by simp) (by simp) (by simp)
theorem H.drops {w : World} {h : GH} : ∀ (A : List Heaplet) {Ls : List Heaplet}, H w h (A ++ Ls) → H w h Ls
  | [], _, hH => hH
  | X :: A, Ls, hH => H.drops A (H.drop (X := X) (by simpa using hH))
theorem H.swap {w : World} {h : GH} {X Y : Heaplet} {Ls : List Heaplet} (hH : H w h (X :: Y :: Ls)) : H w h (Y :: X :: Ls) := hH.perm (.swap _ _ _)
/-- The third one comes to the front. -/
theorem H.rot3 {w : World} {h : GH} {X Y Z : Heaplet} {Ls : List Heaplet} (hH : H w h (X :: Y :: Z :: Ls)) : H w h (Z :: X :: Y :: Ls) :=
  hH.perm ((List.Perm.cons _ (.swap _ _ _)).trans (.swap _ _ _))
/-- The first one goes behind the next two. -/
theorem H.unrot3 {w : World} {h : GH} {X Y Z : Heaplet} {Ls : List Heaplet} (hH : H w h (X :: Y :: Z :: Ls)) : H w h (Y :: Z :: X :: Ls) :=
  hH.perm ((List.Perm.swap _ _ _).trans (List.Perm.cons _ (.swap _ _ _)))
theorem H.join {w : World} {h : GH} {X Y : Heaplet} {Ls : List Heaplet} (hH : H w h (X :: Y :: Ls)) : H w h ((X ++ Y) :: Ls) := by simpa [H] using hH
theorem H.part {w : World} {h : GH} {X Y : Heaplet} {Ls : List Heaplet} (hH : H w h ((X ++ Y) :: Ls)) : H w h (X :: Y :: Ls) := by simpa [H] using hH
theorem H.nilOut {w : World} {h : GH} {Ls : List Heaplet} (hH : H w h ([] :: Ls)) : H w h Ls := by simpa [H] using hH
theorem H.nilIn {w : World} {h : GH} {Ls : List Heaplet} (hH : H w h Ls) : H w h ([] :: Ls) := by simpa [H] using hH

/-- A cell of a block of one's own is written. -/
theorem H.set {w : World} {h : GH} {Ls : List Heaplet} {i : Nat} {g : Nat} {cs : Array Value} {e : TypeId} {fz : Nat × Nat} (hH : H w h Ls) (hi : Ls[i]? = some [(g, .cells cs e fz)]) (o : Nat) (v : Value) :
    H (w.setCell ⟨g, o, none⟩ v) h (Ls.set i [(g, .cells (cs.setIfInBounds o v) e fz)]) := by
  have hg := hH.mem hi (p := (g, .cells cs e fz)) (by simp)
  refine hH.act hi rfl rfl rfl (by simp) (fun k hk hne => Below.heap_setCell _ _ _ _ (fun he => hne (g, .cells cs e fz) (by simp) he.symm)) (fun p hp => ?_) (by simp) (fun p hp => .inl ⟨(g, .cells cs e fz), by simp, ?_⟩)
  · simp only [List.mem_singleton] at hp
    subst hp
    simp only at hg
    simp [World.setCell, Array.getElem?_modify, hg]
  · simp only [List.mem_singleton] at hp
    subst hp; rfl

/-- One's own is shared from here on. -/
theorem H.freeze {w : World} {h : GH} {Ls : List Heaplet} {X : Heaplet} (hH : H w h (X :: Ls)) :
    ∃ h' : GH, h.Le h' ∧ H w h' Ls ∧ (∀ p ∈ X, h'.blk p.1 = some p.2 ∧ h.blk p.1 = none) ∧ (X.map (·.1)).Nodup ∧ (∀ g o, h'.blk g = some o → h.blk g = some o ∨ (g, o) ∈ X) := by
  have hnd := HF.nodup hH
  simp only [List.flatten_cons, List.map_append, List.nodup_append] at hnd
  have hfind : ∀ p ∈ X, X.find? (fun q => q.1 == p.1) = some p := by
    intro p hp
    cases hf : X.find? (fun q => q.1 == p.1) with
    | none => exact absurd (List.find?_eq_none.1 hf p hp) (by simp)
    | some q =>
      have hq := List.mem_of_find?_eq_some hf
      have he : q.1 = p.1 := by simpa using List.find?_some hf
      have h1 := hH.own q (by simp [hq])
      have h2 := hH.own p (by simp [hp])
      rw [he] at h1
      rw [h1] at h2
      have : q = p := Prod.ext he (by simpa using h2)
      rw [this]
  let h' : GH := ⟨fun g => match X.find? (fun q => q.1 == g) with | some p => some p.2 | none => h.blk g, h.os, h.tape, h.output, h.lim⟩
  have hX : ∀ p ∈ X, h'.blk p.1 = some p.2 := fun p hp => by simp [h', hfind p hp]
  have hsepX : ∀ p ∈ X, h.blk p.1 = none := fun p hp => hH.sep p (by simp [hp])
  have hback : ∀ g o, h'.blk g = some o → h.blk g = some o ∨ (g, o) ∈ X := by
    intro g o hg
    simp only [h'] at hg
    cases hf : X.find? (fun q => q.1 == g) with
    | none => simp [hf] at hg; exact .inl hg
    | some q =>
      simp only [hf, Option.some.injEq] at hg
      have hq := List.mem_of_find?_eq_some hf
      have he : q.1 = g := by simpa using List.find?_some hf
      exact .inr (by rw [← he, ← hg]; exact hq)
  refine ⟨h', ⟨?_, rfl, rfl, rfl, Nat.le_refl _⟩, ⟨hH.os, hH.tape, hH.output, hH.lim, ?_, fun p hp => hH.own p (by simp only [List.flatten_cons]; exact List.mem_append_right _ hp), hnd.2.1, ?_⟩, fun p hp => ⟨hX p hp, hsepX p hp⟩, hnd.1, hback⟩
  · intro g o hg
    simp only [h']
    cases hf : X.find? (fun q => q.1 == g) with
    | none => simpa using hg
    | some q =>
      have hq := List.mem_of_find?_eq_some hf
      have he : q.1 = g := by simpa using List.find?_some hf
      have := hsepX q hq
      rw [he, hg] at this; cases this
  · intro g o hg
    rcases hback g o hg with h1 | h1
    · exact hH.rd g o h1
    · exact hH.own (g, o) (by simp [h1])
  · intro p hp
    cases hb : h'.blk p.1 with
    | none => rfl
    | some o =>
      rcases hback _ _ hb with h1 | h1
      · rw [hH.sep p (by simp only [List.flatten_cons]; exact List.mem_append_right _ hp)] at h1; cases h1
      · exact absurd rfl (hnd.2.2 p.1 (List.mem_map.2 ⟨_, h1, rfl⟩) p.1 (List.mem_map_of_mem hp))

/-- What was shared for a while is one's own again. -/
theorem H.unfreeze {w : World} {h h' : GH} {Ls : List Heaplet} {X : Heaplet} (hH : H w h' Ls) (hle : h.Le h') (hX : ∀ p ∈ X, h'.blk p.1 = some p.2 ∧ h.blk p.1 = none) (hnd : (X.map (·.1)).Nodup) : H w h (X :: Ls) := by
  refine ⟨hH.os.trans hle.os, hH.tape.trans hle.tape, hH.output.trans hle.output, Nat.le_trans hle.lim hH.lim, fun g o hg => hH.rd g o (hle.blk g o hg), ?_, ?_, ?_⟩
  · intro p hp
    simp only [List.flatten_cons] at hp
    rcases List.mem_append.1 hp with hp | hp
    · exact hH.rd _ _ (hX p hp).1
    · exact hH.own p hp
  · simp only [List.flatten_cons, List.map_append, List.nodup_append]
    refine ⟨hnd, hH.nodup, fun a ha b hb he => ?_⟩
    obtain ⟨p, hp, rfl⟩ := List.mem_map.1 ha
    obtain ⟨q, hq, rfl⟩ := List.mem_map.1 hb
    have h1 := hH.sep q hq
    rw [← he, (hX p hp).1] at h1; cases h1
  · intro p hp
    simp only [List.flatten_cons] at hp
    rcases List.mem_append.1 hp with hp | hp
    · exact (hX p hp).2
    · cases hb : h.blk p.1 with
      | none => rfl
      | some o =>
        have := hle.blk _ _ hb
        rw [hH.sep p hp] at this; cases this

theorem H.weak {w : World} {h h' : GH} {Ls : List Heaplet} (hH : H w h' Ls) (hle : h.Le h') : H w h Ls :=
  (hH.unfreeze (X := []) hle (by simp) (by simp)).nilOut

/-- Everything that is there is shared. -/
def GH.full (w : World) : GH := ⟨fun g => w.heap[g]?, w.os, w.tape, w.output, w.heap.size⟩
theorem H.full (w : World) : H w (GH.full w) [] := ⟨rfl, rfl, rfl, Nat.le_refl _, fun _ _ h => h, by simp, by simp, by simp⟩
theorem H.below {w w' : World} {Ls : List Heaplet} (hH : H w' (GH.full w) Ls) : Below w.heap.size w w' :=
  ⟨hH.os, hH.tape, hH.output, hH.lim, fun k hk => by
    have h1 : w.heap[k]? = some w.heap[k] := Array.getElem?_eq_getElem hk
    rw [h1]; exact hH.rd k _ h1⟩

end Go.Proofs.Ytafljegjdanldaa
