/- The table's connections of a zone: of, Count, Drop. Conditions: the table is as Tab says and holds at most a million connections. -/
import Derived.Test.YtomfgdkmkacebaaF
import Derived.Maps.RangeRun
import Derived.Deep.LoopGhost
namespace Go.Proofs.Ytomfgdkmkacebaa
open Go.RowKit Go.MapKept
open Go.ChangeMaps (setBlock)
set_option linter.unusedSimpArgs false
set_option linter.unusedVariables false

/-! ### ranging over a map -/
section
variable {P : Program} {w : World} {ops : Array Oper} {rest : List Oper} {o : Oper} {a : Act} {Q : Exit → Act → World → Prop}
theorem wpList_next_e (hg : o.guard = none) (it : Operand) (hop : o.op = Op.next it false) (r m since c0 : Nat) (seen : Array Nat) (es : Array MapEntry) (clock : Nat) (hit : a.eval it = .pointer (some ⟨r, 0, none⟩))
    (hr : w.heap[r]? = some (.mapIter (some m) since seen c0)) (hb : w.heap[m]? = some (.map es clock)) (hst : Stamped es clock) (hold : ∀ x ∈ es.toList, x.born < since) (hsc : since ≤ c0) (hne : r ≠ m)
    (hDone : (leftOf es seen).size = 0 → wpList P ops Q rest (a.put o.dst (.tuple #[.bool false])) w)
    (hMore : ∀ (e : MapEntry) (W : World), e ∈ (leftOf es seen).toList → W.heap[r]? = some (.mapIter (some m) since (seen.push e.born) clock) → Keeps w W (fun i => i = r) → (Instr.entry (.pointer (some ⟨r, 0, none⟩))).run P W = .ok (.tuple #[e.key, e.val]) W →
      wpList P ops Q rest (a.put o.dst (.tuple #[.bool true, e.key, e.val])) W) : wpList P ops Q (o :: rest) a w := by
  refine wpList_plain hg fun K' hK' => ?_
  unfold Oper.wp
  rcases run_next_at (P := P) w o.type r m since c0 seen es clock hr hb hold hsc with ⟨h0, hrun⟩ | ⟨e, he, w1, hal, hrun⟩
  · simp [execOp, hop, hit, hrun, Result.andThen]
    exact hK' _ _ (hDone h0)
  · simp [execOp, hop, hit, hrun, Result.andThen]
    have hk : Keeps w w1 (fun i => i = r) := by
      rcases hal with rfl | rfl
      · exact Keeps.refl _ _
      · exact drew_keep _ _
    have hr1 : w1.heap[r]? = some (.mapIter (some m) since seen c0) := by rcases hal with rfl | rfl <;> exact hr
    have hb1 : w1.heap[m]? = some (.map es clock) := by rcases hal with rfl | rfl <;> exact hb
    have hset := heap_set (o' := .mapIter (some m) since (seen.push e.born) clock) hr1
    have hk2 : Keeps w (setBlock w1 r (.mapIter (some m) since (seen.push e.born) clock)) (fun i => i = r) := hk.set (.inl rfl) _
    have hb2 : (setBlock w1 r (.mapIter (some m) since (seen.push e.born) clock)).heap[m]? = some (.map es clock) := (hset.2 m (fun e1 => hne e1.symm)).trans hb1
    exact hK' _ _ (hMore e _ he hset.1 hk2 (run_entry_at _ r m since seen es clock e hset.1 hb2 (mem_left he).1 ((stamped_iff es clock).1 hst).2.1))
end

/-- What is left loses just the entry that came. -/
theorem left_perm {es : Array MapEntry} {seen : Array Nat} {clock : Nat} (hst : Stamped es clock) {e : MapEntry} (he : e ∈ (leftOf es seen).toList) : (leftOf es seen).toList.Perm (e :: (leftOf es (seen.push e.born)).toList) := by
  have hnd := ((stamped_iff es clock).1 hst).2.1
  unfold leftOf at *
  simp only [Array.toList_filter] at *
  generalize es.toList = l at *
  have h2 : l.filter (fun x => !(seen.push e.born).contains x.born) = (l.filter fun x => !seen.contains x.born).filter (fun x => !(x.born == e.born)) := by
    rw [List.filter_filter]
    refine List.filter_congr fun x _ => ?_
    rw [contains_push]
    cases seen.contains x.born <;> cases (x.born == e.born) <;> rfl
  rw [h2]
  have hnd2 : ((l.filter fun x => !seen.contains x.born).map (·.born)).Nodup := (List.filter_sublist.map _).nodup hnd
  generalize l.filter (fun x => !seen.contains x.born) = k at *
  clear h2 hnd
  induction k with
  | nil => simp at he
  | cons x r ih =>
    simp only [List.map_cons, List.nodup_cons] at hnd2
    rcases List.mem_cons.1 he with rfl | he'
    · have : r.filter (fun x => !(x.born == e.born)) = r := List.filter_eq_self.2 fun y hy => by
        have : y.born ≠ e.born := fun h => hnd2.1 (List.mem_map.2 ⟨y, hy, h⟩)
        simp [this]
      simp [this]
    · have hne : x.born ≠ e.born := fun h => hnd2.1 (h ▸ List.mem_map.2 ⟨e, he', rfl⟩)
      rw [List.filter_cons, if_pos (by simp [hne])]
      exact ((ih he' hnd2.2).cons x).trans (List.Perm.swap e x _)

/-- Is a connection one of the zone, and there? -/
def selB (z now : Int) (p : Nat × Cn) : Bool := decide (p.2.zone = z) && decide (now < p.2.exp)
def kvOf (p : Nat × Cn) : Value × Value := (keyV p.2.zone p.2.orig, .pointer (some ⟨p.1, 0, none⟩))

theorem decode (L : List (Nat × Cn)) (hone : ∀ p ∈ L, ∀ q ∈ L, kvOf p = kvOf q → p = q) : ∃ D : Value × Value → Nat × Cn, ∀ p ∈ L, D (kvOf p) = p := by
  classical
  refine ⟨fun v => if h : ∃ p ∈ L, kvOf p = v then Classical.choose h else (0, ⟨0, Tup.zero, Tup.zero, false, 0⟩), fun p hp => ?_⟩
  have h : ∃ q ∈ L, kvOf q = kvOf p := ⟨p, hp, rfl⟩
  show (if h : ∃ q ∈ L, kvOf q = kvOf p then Classical.choose h else _) = p
  rw [dif_pos h]
  have h2 := Classical.choose_spec h
  exact hone _ h2.1 _ hp h2.2
end Go.Proofs.Ytomfgdkmkacebaa
