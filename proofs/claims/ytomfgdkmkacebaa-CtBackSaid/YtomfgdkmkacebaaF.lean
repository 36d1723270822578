/- The table's find: which connection a tuple belongs to, what has run out being dropped on the way. Conditions: the table is as Tab says; zone and tuple hold numbers of their kinds. -/
import Derived.Test.YtomfgdkmkacebaaE
namespace Go.Proofs.Ytomfgdkmkacebaa
open Go.RowKit Go.MapKept
set_option linter.unusedSimpArgs false
set_option linter.unusedVariables false

/-- A pointer to a connection, or nil. -/
def ptrO (q : Option (Nat × Cn)) : Value := .pointer (q.map fun p => ⟨p.1, 0, none⟩)
theorem ptrO_some (p : Nat × Cn) : ptrO (some p) = .pointer (some ⟨p.1, 0, none⟩) := rfl
theorem ptrO_none : ptrO none = .pointer none := rfl
attribute [local go_sem] ptrO_some ptrO_none

/-- What live makes of a connection: it is there still; or it has run out and is dropped. -/
def LiveQ (now : Int) (L : List (Nat × Cn)) (q r : Option (Nat × Cn)) (L1 : List (Nat × Cn)) : Prop :=
  (q = none ∧ r = none ∧ L1 = L) ∨ (∃ p, q = some p ∧ now < p.2.exp ∧ r = some p ∧ L1 = L) ∨ (∃ p, q = some p ∧ p.2.exp ≤ now ∧ r = none ∧ L.Perm (p :: L1))
/-- q is the one of L that m speaks of, if there is one. -/
def OneOf (m : Nat × Cn → Prop) (L : List (Nat × Cn)) (q : Option (Nat × Cn)) : Prop := (∀ p, q = some p → p ∈ L ∧ m p) ∧ (q = none → ∀ p ∈ L, ¬ m p)
def isO (z : Int) (x : Tup) (p : Nat × Cn) : Prop := p.2.zone = z ∧ p.2.orig = x
def isR (z : Int) (x : Tup) (p : Nat × Cn) : Prop := p.2.zone = z ∧ p.2.rep = x
/-- What find tells, and what is left. -/
def FindS (z : Int) (x : Tup) (now : Int) (L : List (Nat × Cn)) (r : Option (Nat × Cn)) (b : Bool) (L2 : List (Nat × Cn)) : Prop :=
  ∃ q1 r1 L1, OneOf (isO z x) L q1 ∧ LiveQ now L q1 r1 L1 ∧ ((∃ p, r1 = some p ∧ r = some p ∧ b = false ∧ L2 = L1) ∨ (r1 = none ∧ b = true ∧ ∃ q2, OneOf (isR z x) L1 q2 ∧ LiveQ now L1 q2 r L2))

theorem neq_nil_some (w : World) (a : Addr) : (binOp .neq 67 (.pointer (some a)) (.pointer none)).run Try.prog w = .ok (.bool true) w := by kernel_rfl
theorem neq_nil_none (w : World) : (binOp .neq 67 (.pointer none) (.pointer none)).run Try.prog w = .ok (.bool false) w := by kernel_rfl
/-- The blocks that a table's call may turn: its two maps. -/
abbrev Maps2 (mo mr : Nat) (i : Nat) : Prop := i = mo ∨ i = mr

section
variable {w : World} {tb mo mr : Nat} {room now : Int} {L : List (Nat × Cn)}
theorem live_any (h : Tab w tb mo mr room now L) (q : Option (Nat × Cn)) (hq : ∀ p, q = some p → p ∈ L) : Calls Try.prog 32 #[.pointer (some ⟨tb, 0, none⟩), ptrO q] w fun e w' => ∃ r L1, e = .returned (ptrO r) ∧ Tab w' tb mo mr room now L1 ∧ Keeps w w' (fun i => i = mo ∨ i = mr) ∧ LiveQ now L q r L1 := by
  cases q with
  | none => exact (live_nil h).mono fun e w' ⟨he, n, hw⟩ => ⟨none, L, he, hw ▸ h.drewN n, hw ▸ (Keeps.refl w _).drewN n, .inl ⟨rfl, rfl, rfl⟩⟩
  | some p =>
    have hp := hq p rfl
    by_cases he : now < p.2.exp
    · exact (live_keep h hp he).mono fun e w' ⟨he', n, hw⟩ => ⟨some p, L, he', hw ▸ h.drewN n, hw ▸ (Keeps.refl w _).drewN n, .inr (.inl ⟨p, rfl, he, rfl, rfl⟩)⟩
    · obtain ⟨s, t, rfl⟩ := List.append_of_mem hp
      have hperm : (s ++ p :: t).Perm (p :: (s ++ t)) := List.perm_middle
      exact (live_drop h hperm (by omega)).mono fun e w' ⟨he', ht, hk⟩ => ⟨none, s ++ t, he', ht, hk, .inr (.inr ⟨p, rfl, by omega, rfl, hperm⟩)⟩

theorem Tab.look_o (h : Tab w tb mo mr room now L) {z : Int} {x : Tup} (hz : (Lit.int .i64 z).wf = true) (hx : x.ok) : ∃ q, OneOf (isO z x) L q ∧ ∀ W : World, W.heap = w.heap → (Instr.lookup 63 (.map (some mo)) (keyV z x) false).run Try.prog W = .ok (ptrO q) W := by
  obtain ⟨l, hl⟩ := key_reads hz hx
  have all : ∀ W : World, W.heap = w.heap → Ents Try.prog 80 W mo (L.map fun p => (keyV p.2.zone p.2.orig, p.1)) := fun W hW => h.om.same (by rw [hW])
  by_cases hm : ∃ p ∈ L, isO z x p
  · obtain ⟨p, hp, hpz, hpx⟩ := hm
    refine ⟨some p, ⟨fun p' e => by cases e; exact ⟨hp, hpz, hpx⟩, fun e => by cases e⟩, fun W hW => ?_⟩
    rcases (all W hW).look law80 Try.underlying63 (zero67 W) hl with ⟨b, hb, hrun⟩ | ⟨hn, _⟩
    · obtain ⟨p', hp', e⟩ := List.mem_map.1 hb
      simp only [Prod.mk.injEq] at e
      obtain ⟨e1, e2⟩ := keyV_inj e.1
      have : p' = p := h.one_o hp' hp (by rw [e1, hpz]) (by rw [e2, hpx])
      subst this
      rw [hrun, ← e.2]
      rfl
    · exact absurd (by rw [hpz, hpx]) (hn _ (List.mem_map.2 ⟨p, hp, rfl⟩))
  · refine ⟨none, ⟨(fun p' e => by cases e), (fun _ p hp hpm => hm ⟨p, hp, hpm⟩)⟩, fun W hW => ?_⟩
    rcases (all W hW).look law80 Try.underlying63 (zero67 W) hl with ⟨b, hb, hrun⟩ | ⟨hn, hrun⟩
    · obtain ⟨p', hp', e⟩ := List.mem_map.1 hb
      simp only [Prod.mk.injEq] at e
      exact absurd ⟨p', hp', keyV_inj e.1⟩ hm
    · rw [hrun]
      rfl
theorem Tab.look_r (h : Tab w tb mo mr room now L) {z : Int} {x : Tup} (hz : (Lit.int .i64 z).wf = true) (hx : x.ok) : ∃ q, OneOf (isR z x) L q ∧ ∀ W : World, W.heap = w.heap → (Instr.lookup 63 (.map (some mr)) (keyV z x) false).run Try.prog W = .ok (ptrO q) W := by
  obtain ⟨l, hl⟩ := key_reads hz hx
  have all : ∀ W : World, W.heap = w.heap → Ents Try.prog 80 W mr (L.map fun p => (keyV p.2.zone p.2.rep, p.1)) := fun W hW => h.rm.same (by rw [hW])
  by_cases hm : ∃ p ∈ L, isR z x p
  · obtain ⟨p, hp, hpz, hpx⟩ := hm
    refine ⟨some p, ⟨fun p' e => by cases e; exact ⟨hp, hpz, hpx⟩, fun e => by cases e⟩, fun W hW => ?_⟩
    rcases (all W hW).look law80 Try.underlying63 (zero67 W) hl with ⟨b, hb, hrun⟩ | ⟨hn, _⟩
    · obtain ⟨p', hp', e⟩ := List.mem_map.1 hb
      simp only [Prod.mk.injEq] at e
      obtain ⟨e1, e2⟩ := keyV_inj e.1
      have : p' = p := h.one_r hp' hp (by rw [e1, hpz]) (by rw [e2, hpx])
      subst this
      rw [hrun, ← e.2]
      rfl
    · exact absurd (by rw [hpz, hpx]) (hn _ (List.mem_map.2 ⟨p, hp, rfl⟩))
  · refine ⟨none, ⟨(fun p' e => by cases e), (fun _ p hp hpm => hm ⟨p, hp, hpm⟩)⟩, fun W hW => ?_⟩
    rcases (all W hW).look law80 Try.underlying63 (zero67 W) hl with ⟨b, hb, hrun⟩ | ⟨hn, hrun⟩
    · obtain ⟨p', hp', e⟩ := List.mem_map.1 hb
      simp only [Prod.mk.injEq] at e
      exact absurd ⟨p', hp', keyV_inj e.1⟩ hm
    · rw [hrun]
      rfl
theorem St.no_maps {w0 w : World} {bs : List Blk} (h : St w0 (Maps2 mo mr) (fun w => Tab w tb mo mr room now L) w bs) : ∀ b ∈ bs, ¬ Maps2 mo mr b.1 := by
  rintro b hb (e | e)
  · exact h.fr.om.not_cells (e ▸ h.has b hb)
  · exact h.fr.rm.not_cells (e ▸ h.has b hb)

set_option maxHeartbeats 1000000 in
theorem find_any (h : Tab w tb mo mr room now L) (z : Int) (x : Tup) (hz : (Lit.int .i64 z).wf = true) (hx : x.ok) : Calls Try.prog 26 #[.pointer (some ⟨tb, 0, none⟩), .int .i64 z, x.v] w fun e w' => ∃ r b L2, e = .returned (.tuple #[ptrO r, .bool b]) ∧ Tab w' tb mo mr room now L2 ∧ Keeps w w' (Maps2 mo mr) ∧ FindS z x now L r b L2 := by
  have STB := tab_stab tb mo mr room now L
  have HST : St w (Maps2 mo mr) (fun w => Tab w tb mo mr room now L) w [] := St.start h
  clear h
  go_enter Try.func26, Try.ntmps26
  go_wp2_with (first | ((with_reducible refine gate_box rfl ?_); refine st_box (by rfl) _ _ rfl HST STB ⟨?_, _, ?_, rfl, ?_⟩; rotate_left; (focus (first | (go_simp; rfl) | rfl)); clear HST; intro g w1 hg hb HST; clear hg; (try clear hq0); (try clear hq1); have hq0 := cell_at (HST.at_ 0 at0); try (have hq1 := cell_at (HST.at_ 1 at1))))
  obtain ⟨q1, ho1, hrun1⟩ := HST.fr.look_o hz hx
  have c2 := HST.fr.c2
  have hrun := hrun1 w1.drew rfl
  clear hrun1
  simp only [keyV] at hrun
  go_still_tail 9, (by kernel_rfl)
  change wpList _ _ _ _ _ w1.drew
  clear hrun c2
  replace HST := HST.drew STB
  clear hq0 hb
  generalize w1.drew = w2 at HST ⊢
  have hn1 := neq_nil_some
  have hn2 := neq_nil_none
  go_wp2_with (go_at_call 32; refine (live_any HST.fr q1 (fun p e => (ho1.1 p e).1)).mono ?_; rintro e w3 ⟨r1, L1, rfl, hT1, hk1, hl1⟩; have HST2 := HST.turn (F' := fun w => Tab w tb mo mr room now L1) hk1 (fun i hi => .inl hi) HST.no_maps hT1; clear HST hT1 hk1; cases r1 <;> simp only [ptrO_some, ptrO_none])
  rotate_left
  · rename_i p1
    go_ret2
    exact ⟨some p1, false, L1, rfl, HST2.fr, HST2.keeps, q1, some p1, L1, ho1, hl1, .inl ⟨p1, rfl, rfl, rfl, rfl⟩⟩
  · clear STB hn1 hn2
    have HST := HST2
    have STB := tab_stab tb mo mr room now L1
    clear HST2
    obtain ⟨q2, ho2, hrun2⟩ := HST.fr.look_r hz hx
    have c3 := HST.fr.c3
    have hq0 := cell_at (HST.at_ 0 at0)
    have hrun := hrun2 w3.drew rfl
    clear hrun2
    simp only [keyV] at hrun
    go_still_tail 9, (by kernel_rfl)
    change wpList _ _ _ _ _ w3.drew
    clear hrun c3
    replace HST := HST.drew STB
    clear hq0
    generalize w3.drew = w4 at HST ⊢
    go_wp2_with (go_at_call 32; refine (live_any HST.fr q2 (fun p e => (ho2.1 p e).1)).mono ?_; rintro e w5 ⟨r2, L2, rfl, hT2, hk2, hl2⟩)
    go_ret2
    have HST2 := HST.turn (F' := fun w => Tab w tb mo mr room now L2) hk2 (fun i hi => .inl hi) HST.no_maps hT2
    exact ⟨r2, true, L2, rfl, hT2, HST2.keeps, q1, none, L1, ho1, hl1, .inr ⟨rfl, rfl, q2, ho2, hl2⟩⟩
end
end Go.Proofs.Ytomfgdkmkacebaa
