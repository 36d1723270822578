/- Words for the proofs about the connection table: what a call keeps (Keeps), what a map's block holds (Ents), and the map operations' laws in these words. Conditions: none of its own; each theorem says what it takes. -/
import Derived.Test.YtomfgdkmkacebaaProg
import Derived.WalkKit
import Derived.RegionTactic
import Derived.BigRegion
import Derived.ChangeAlike
import Derived.Deep.QuietTactic
import Derived.BigQuiet
import Derived.Outline
import Derived.KernelRfl
import Derived.Below
import Derived.Maps.Range
import Derived.Maps.RangeWalk
import Derived.DeepKeys5
import Derived.WalkSpells
namespace Go.Proofs.Ytomfgdkmkacebaa
open Go.RowKit Go.MapKept
open Go.Maps (Keyed)
open Go.ChangeMaps (setBlock)

/-! ### what a call keeps -/

/-- All but the blocks of S, and what is new, is as it was. -/
structure Keeps (w w' : World) (S : Nat → Prop) : Prop where
  os : w'.os = w.os
  tape : w'.tape = w.tape
  output : w'.output = w.output
  size : w.heap.size ≤ w'.heap.size
  block : ∀ i, i < w.heap.size → ¬ S i → w'.heap[i]? = w.heap[i]?

section
variable {w w1 w2 : World} {S S' : Nat → Prop}
theorem Keeps.refl (w : World) (S : Nat → Prop) : Keeps w w S := ⟨rfl, rfl, rfl, Nat.le_refl _, fun _ _ _ => rfl⟩
theorem Keeps.mono (h : Keeps w w1 S) (hs : ∀ i, i < w.heap.size → S i → S' i) : Keeps w w1 S' :=
  ⟨h.os, h.tape, h.output, h.size, fun i hi hn => h.block i hi (fun hk => hn (hs i hi hk))⟩
theorem Keeps.trans (h : Keeps w w1 S) (k : Keeps w1 w2 S') (hs : ∀ i, S' i → S i ∨ w.heap.size ≤ i) : Keeps w w2 S :=
  ⟨k.os.trans h.os, k.tape.trans h.tape, k.output.trans h.output, Nat.le_trans h.size k.size, fun i hi hn =>
    (k.block i (Nat.lt_of_lt_of_le hi h.size) (fun h2 => (hs i h2).elim hn (fun h3 => by omega))).trans (h.block i hi hn)⟩
theorem Keeps.drew (h : Keeps w w1 S) : Keeps w w1.drew S := ⟨h.os, h.tape, h.output, h.size, h.block⟩
theorem Keeps.drewN (h : Keeps w w1 S) (n : Nat) : Keeps w (w1.drewN n) S := ⟨h.os, h.tape, h.output, h.size, h.block⟩
theorem Keeps.alloc (h : Keeps w w1 S) (o : Obj) : Keeps w (w1.alloc o) S :=
  ⟨h.os, h.tape, h.output, Nat.le_trans h.size (by simp), fun i hi hn => (Below.heap_alloc w1 o i (Nat.lt_of_lt_of_le hi h.size)).trans (h.block i hi hn)⟩
theorem Keeps.setCell (h : Keeps w w1 S) {p : Addr} (hp : S p.block ∨ w.heap.size ≤ p.block) (u : Value) : Keeps w (w1.setCell p u) S :=
  ⟨h.os, h.tape, h.output, by simpa [World.setCell] using h.size, fun i hi hn => (Below.heap_setCell w1 p u i (by
    rintro rfl
    rcases hp with hp | hp
    · exact hn hp
    · omega)).trans (h.block i hi hn)⟩
theorem Keeps.set (h : Keeps w w1 S) {b : Nat} (hb : S b ∨ w.heap.size ≤ b) (o : Obj) : Keeps w (setBlock w1 b o) S :=
  ⟨h.os, h.tape, h.output, by simpa [setBlock] using h.size, fun i hi hn => by
    have hne : b ≠ i := by
      rintro rfl
      rcases hb with hb | hb
      · exact hn hb
      · omega
    rw [← h.block i hi hn]
    simp [setBlock, hne]⟩
theorem Keeps.below (h : Keeps w w1 S) {B : Nat} (hB : B ≤ w.heap.size) (hs : ∀ i, S i → B ≤ i) : Below B w w1 :=
  ⟨h.os, h.tape, h.output, h.size, fun i hi => h.block i (by omega) (fun hk => by have := hs i hk; omega)⟩
theorem Keeps.of_below (h : Below w.heap.size w w1) (S : Nat → Prop) : Keeps w w1 S := ⟨h.os, h.tape, h.output, h.size, fun i hi _ => h.block i hi⟩
theorem Keeps.of_grown {row : Option Nat} (h : Keeps w w1 S) (hg : w1.grownBy w2 row) (hr : ∀ k, row = some k → S k ∨ w.heap.size ≤ k) : Keeps w w2 S :=
  h.trans (S' := fun k => row = some k) ⟨hg.os, hg.tape, hg.output, hg.size, fun i hi hn => hg.block i hi (fun he => hn he.symm)⟩ hr
end

/-! ### a map's block -/

/-- Block m is a map whose entries are E's, in whatever order: keys, and pointers to blocks. -/
def Ents (P : Program) (kt : TypeId) (w : World) (m : Nat) (E : List (Value × Nat)) : Prop :=
  ∃ es clock, w.heap[m]? = some (.map es clock) ∧ Stamped es clock ∧ es.size ≤ maxLen ∧ (∀ e ∈ es.toList, ∃ l, keyOf P kt e.key = some l) ∧
    (es.toList.map fun e => (e.key, e.val)).Perm (E.map fun p => (p.1, Value.pointer (some ⟨p.2, 0, none⟩)))

section
variable {P : Program} {kt : TypeId} {w w' : World} {m : Nat} {E : List (Value × Nat)}

theorem Ents.made (w : World) : Ents P kt (w.alloc (.map #[] 0)) w.heap.size [] :=
  ⟨#[], 0, heap_alloc_new w _, stamped_empty 0, by simp, by simp, by simp⟩

theorem Ents.lt (h : Ents P kt w m E) : m < w.heap.size := by
  obtain ⟨es, clock, hb, _⟩ := h
  exact (Array.getElem?_eq_some_iff.1 hb).1

theorem Ents.same (h : Ents P kt w m E) (hb : w'.heap[m]? = w.heap[m]?) : Ents P kt w' m E := by
  obtain ⟨es, clock, h1, r⟩ := h
  exact ⟨es, clock, hb.trans h1, r⟩

theorem Ents.not_cells (h : Ents P kt w m E) {c : Array Value} {t : TypeId} {f : Nat × Nat} : w.heap[m]? ≠ some (.cells c t f) := by
  obtain ⟨es, clock, h1, _⟩ := h
  rw [h1]
  simp

theorem Ents.perm (h : Ents P kt w m E) {E' : List (Value × Nat)} (hp : E.Perm E') : Ents P kt w m E' := by
  obtain ⟨es, clock, h1, h2, h3, h4, h5⟩ := h
  exact ⟨es, clock, h1, h2, h3, h4, h5.trans (hp.map _)⟩

theorem Ents.length (h : Ents P kt w m E) : E.length ≤ maxLen := by
  obtain ⟨es, clock, _, _, h3, _, h5⟩ := h
  have := h5.length_eq
  simp at this
  omega

theorem Ents.apart (h : Ents P kt w m E) : E.Pairwise (fun p q => p.1 ≠ q.1) := by
  obtain ⟨es, clock, _, h2, _, _, h5⟩ := h
  have hn := ((stamped_iff es clock).1 h2).2.2
  have h6 : (es.toList.map fun e => (e.key, e.val)).Pairwise (fun p q => p.1 ≠ q.1) := by
    rw [List.pairwise_map]
    exact hn
  have h7 := (h5.pairwise_iff (fun {_ _} hne => Ne.symm hne)).1 h6
  rw [List.pairwise_map] at h7
  exact h7

theorem Ents.mem_of {es : Array MapEntry} (h5 : (es.toList.map fun e => (e.key, e.val)).Perm (E.map fun p => (p.1, Value.pointer (some ⟨p.2, 0, none⟩)))) {e : MapEntry} (he : e ∈ es.toList) :
    ∃ p ∈ E, e.key = p.1 ∧ e.val = Value.pointer (some ⟨p.2, 0, none⟩) := by
  have h6 : (e.key, e.val) ∈ E.map fun p => (p.1, Value.pointer (some ⟨p.2, 0, none⟩)) := h5.mem_iff.1 (List.mem_map.2 ⟨e, he, rfl⟩)
  obtain ⟨p, hp, e1⟩ := List.mem_map.1 h6
  simp only [Prod.mk.injEq] at e1
  exact ⟨p, hp, e1.1.symm, e1.2.symm⟩

theorem Ents.mem_to {es : Array MapEntry} (h5 : (es.toList.map fun e => (e.key, e.val)).Perm (E.map fun p => (p.1, Value.pointer (some ⟨p.2, 0, none⟩)))) {p : Value × Nat} (hp : p ∈ E) :
    ∃ e ∈ es.toList, e.key = p.1 ∧ e.val = Value.pointer (some ⟨p.2, 0, none⟩) := by
  have h6 : (p.1, Value.pointer (some ⟨p.2, 0, none⟩)) ∈ es.toList.map fun e => (e.key, e.val) := h5.mem_iff.2 (List.mem_map.2 ⟨p, hp, rfl⟩)
  obtain ⟨e, he, e1⟩ := List.mem_map.1 h6
  simp only [Prod.mk.injEq] at e1
  exact ⟨e, he, e1.1, e1.2⟩

/-- 'm[k]' -/
theorem Ents.look (h : Ents P kt w m E) (K : Keyed P kt) {t e : TypeId} (ht : P.underlying t = some (.map kt e)) (hz : (zeroValue e).run P w = .ok (.pointer none) w) {k : Value} {l : Lit} (hk : keyOf P kt k = some l) :
    (∃ b, (k, b) ∈ E ∧ (Instr.lookup t (.map (some m)) k false).run P w = .ok (.pointer (some ⟨b, 0, none⟩)) w) ∨
    ((∀ p ∈ E, p.1 ≠ k) ∧ (Instr.lookup t (.map (some m)) k false).run P w = .ok (.pointer none) w) := by
  obtain ⟨es, clock, hb, h2, h3, h4, h5⟩ := h
  rcases K.find w hk es.toList h4 with ⟨f1, f2⟩ | ⟨j, e0, f1, f2, f3⟩
  · refine .inr ⟨fun p hp e1 => ?_, by simp [Instr.lookup, run_underlying ht, MapKept.run_getObj_map hb, K.check w _ hk, f1, hz, Result.andThen]⟩
    obtain ⟨x, hx, hxk, _⟩ := Ents.mem_to h5 hp
    exact f2 x hx (hxk.trans e1)
  · have hm0 : e0 ∈ es.toList := List.mem_of_getElem? f2
    obtain ⟨p, hp, hpk, hpv⟩ := Ents.mem_of h5 hm0
    refine .inl ⟨p.2, ?_, by simp [Instr.lookup, run_underlying ht, MapKept.run_getObj_map hb, K.check w _ hk, f1, hpv, Result.andThen]⟩
    rw [← f3, hpk]
    exact hp

theorem perm_push {α : Type} {a : List α} {b : List α} {x : α} (h : a.Perm b) : (a ++ [x]).Perm (x :: b) :=
  (List.perm_append_singleton x a).trans (h.cons x)

/-- 'm[k] = p', k a new key -/
theorem Ents.put (h : Ents P kt w m E) (K : Keyed P kt) {t e : TypeId} (ht : P.underlying t = some (.map kt e)) {k : Value} {l : Lit} (hk : keyOf P kt k = some l) (hnew : ∀ p ∈ E, p.1 ≠ k) (hroom : E.length < maxLen) (b : Nat) :
    ∃ o, (Instr.mapUpdate t (.map (some m)) k (.pointer (some ⟨b, 0, none⟩))).run P w = .ok () (setBlock w m o) ∧ Ents P kt (setBlock w m o) m ((k, b) :: E) := by
  obtain ⟨es, clock, hb, h2, h3, h4, h5⟩ := h
  rcases K.find w hk es.toList h4 with ⟨f1, f2⟩ | ⟨j, e0, f1, f2, f3⟩
  · have hl := h5.length_eq
    simp at hl
    refine ⟨.map (es.push ⟨k, .pointer (some ⟨b, 0, none⟩), clock⟩) (clock + 1), ?_, es.push ⟨k, .pointer (some ⟨b, 0, none⟩), clock⟩, clock + 1, (heap_set hb).1, stamped_push h2 f2, by simp; omega, ?_, ?_⟩
    · simp [Instr.mapUpdate, run_underlying ht, MapKept.run_getObj_map hb, K.check w false hk, f1, MapKept.run_setObj_map _ hb, Result.andThen, setBlock]
    · intro x hx
      simp only [Array.toList_push, List.mem_append, List.mem_singleton] at hx
      rcases hx with hx | rfl
      · exact h4 x hx
      · exact ⟨l, hk⟩
    · rw [Array.toList_push, List.map_append, List.map_cons]
      exact perm_push h5
  · obtain ⟨p, hp, hpk, _⟩ := Ents.mem_of h5 (List.mem_of_getElem? f2)
    exact absurd (hpk.symm.trans f3) (hnew p hp)

theorem perm_erase {α : Type} [DecidableEq α] : ∀ {l : List MapEntry} {j : Nat} {e0 : MapEntry}, l[j]? = some e0 → (e0 :: l.eraseIdx j).Perm l
  | [], _, _, h => by simp at h
  | x :: r, 0, e0, h => by
    simp at h
    subst h
    simp
  | x :: r, j + 1, e0, h => by
    simp only [List.getElem?_cons_succ] at h
    simp only [List.eraseIdx_cons_succ]
    exact (List.Perm.swap x e0 _).trans ((perm_erase (α := α) h).cons x)

/-- 'delete(m, k)' -/
theorem Ents.drop (h : Ents P kt w m E) (K : Keyed P kt) {t e ty : TypeId} (ht : P.underlying t = some (.map kt e)) {k : Value} {l : Lit} (hk : keyOf P kt k = some l) {b : Nat} {E' : List (Value × Nat)} (hE : E.Perm ((k, b) :: E')) :
    ∃ o, (Builtin.delete_ #[t, kt] ty #[.map (some m), k]).run P w = .ok (.tuple #[]) (setBlock w m o) ∧ Ents P kt (setBlock w m o) m E' := by
  have hap := (h.perm hE).apart
  obtain ⟨es, clock, hb, h2, h3, h4, h5⟩ := h
  have h6 := h5.trans (hE.map _)
  obtain ⟨hap1, _⟩ := List.pairwise_cons.1 hap
  rcases K.find w hk es.toList h4 with ⟨f1, f2⟩ | ⟨j, e0, f1, f2, f3⟩
  · obtain ⟨x, hx, hxk, _⟩ := Ents.mem_to h6 (List.mem_cons_self)
    exact absurd hxk (f2 x hx)
  · have hjl : j < es.toList.length := (List.getElem?_eq_some_iff.1 f2).1
    have hjs : j < es.size := by simpa using hjl
    have hsub : (es.eraseIdxIfInBounds j).toList = es.toList.eraseIdx j := by
      unfold Array.eraseIdxIfInBounds
      rw [dif_pos hjs]
      simp
    refine ⟨.map (es.eraseIdxIfInBounds j) clock, ?_, es.eraseIdxIfInBounds j, clock, (heap_set hb).1, stamped_erase h2 j, Nat.le_trans (MapFrom.size_erase es j) h3, ?_, ?_⟩
    · simp [Builtin.delete_, run_underlying ht, MapKept.run_getObj_map hb, K.check w _ hk, f1, MapKept.run_setObj_map _ hb, Result.andThen, setBlock]
    · intro x hx
      rw [hsub] at hx
      exact h4 x ((List.eraseIdx_sublist _ _).subset hx)
    · rw [hsub]
      have hp1 := ((perm_erase (α := Nat) f2).map fun e => (e.key, e.val)).trans h6
      simp only [List.map_cons] at hp1
      have hv : e0.val = Value.pointer (some ⟨b, 0, none⟩) := by
        obtain ⟨p, hp, hpk, hpv⟩ := Ents.mem_of h6 (List.mem_of_getElem? f2)
        rcases List.mem_cons.1 hp with rfl | hp
        · exact hpv
        · exact absurd (f3.symm.trans hpk) (hap1 p hp)
      rw [f3, hv] at hp1
      exact List.Perm.cons_inv hp1

end
end Go.Proofs.Ytomfgdkmkacebaa
