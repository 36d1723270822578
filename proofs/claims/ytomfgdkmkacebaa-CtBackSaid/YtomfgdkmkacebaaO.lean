/- What is plain of find and add where nothing has run out; the statements' own lives. -/
import Derived.Test.YtomfgdkmkacebaaN
namespace Go.Proofs.Ytomfgdkmkacebaa
open Go.RowKit Go.MapKept
open Go.ChangeMaps (setBlock)
set_option linter.unusedSimpArgs false
set_option linter.unusedVariables false

section
variable {z now : Int} {x : Tup} {L L1 L2 : List (Nat × Cn)} {r : Option (Nat × Cn)} {b : Bool}
theorem LiveQ.live {q : Option (Nat × Cn)} (hl : ∀ p ∈ L, now < p.2.exp) (hq : ∀ p, q = some p → p ∈ L) (h : LiveQ now L q r L1) : r = q ∧ L1 = L := by
  rcases h with ⟨rfl, rfl, rfl⟩ | ⟨p, rfl, _, rfl, rfl⟩ | ⟨p, rfl, he, _, _⟩
  · exact ⟨rfl, rfl⟩
  · exact ⟨rfl, rfl⟩
  · have := hl p (hq p rfl)
    omega
/-- find where nothing has run out -/
theorem FindS.live (hl : ∀ p ∈ L, now < p.2.exp) (h : FindS z x now L r b L2) : L2 = L ∧
    ((∃ p ∈ L, r = some p ∧ b = false ∧ isO z x p) ∨ (∃ p ∈ L, r = some p ∧ b = true ∧ isR z x p ∧ ∀ q ∈ L, ¬ isO z x q) ∨ (r = none ∧ ∀ q ∈ L, ¬ isO z x q ∧ ¬ isR z x q)) := by
  obtain ⟨q1, r1, L1, ho1, h1, h2⟩ := h
  obtain ⟨rfl, rfl⟩ := h1.live hl fun p e => (ho1.1 p e).1
  rcases h2 with ⟨p, rfl, rfl, rfl, rfl⟩ | ⟨rfl, rfl, q2, ho2, h3⟩
  · exact ⟨rfl, .inl ⟨p, (ho1.1 p rfl).1, rfl, rfl, (ho1.1 p rfl).2⟩⟩
  · obtain ⟨rfl, rfl⟩ := h3.live hl fun p e => (ho2.1 p e).1
    refine ⟨rfl, ?_⟩
    cases r with
    | none => exact .inr (.inr ⟨rfl, fun q hq => ⟨ho1.2 rfl q hq, ho2.2 rfl q hq⟩⟩)
    | some p => exact .inr (.inl ⟨p, (ho2.1 p rfl).1, rfl, rfl, (ho2.1 p rfl).2, ho1.2 rfl⟩)
theorem FindS.nil (h : FindS z x now [] r b L2) : r = none ∧ L2 = [] := by
  obtain ⟨h1, ⟨p, hp, _⟩ | ⟨p, hp, _⟩ | ⟨h2, _⟩⟩ := h.live (by simp)
  · simp at hp
  · simp at hp
  · exact ⟨h2, h1⟩
/-- add where nothing has run out and neither tuple is there -/
theorem AddS.live {c : Cn} {room n : Int} {g : Nat} {L' : List (Nat × Cn)} (hl : ∀ p ∈ L, now < p.2.exp) (h : AddS c room now L n g L') :
    ((∃ q ∈ L, isO c.zone c.orig q ∨ isR c.zone c.orig q ∨ isO c.zone c.rep q ∨ isR c.zone c.rep q) ∧ n = 5 ∧ L' = L) ∨
    ((∀ q ∈ L, ¬ isO c.zone c.orig q ∧ ¬ isR c.zone c.orig q ∧ ¬ isO c.zone c.rep q ∧ ¬ isR c.zone c.rep q) ∧ ((room ≤ (L.filter (selB c.zone now)).length ∧ n = 120 ∧ L' = L) ∨ ((L.filter (selB c.zone now)).length < room ∧ n = 0 ∧ L' = (g, c) :: L))) := by
  rcases h with ⟨r, b, hr, hf, hn⟩ | ⟨b1, L1, hf, h⟩
  · obtain ⟨rfl, h1⟩ := hf.live hl
    refine .inl ⟨?_, hn, rfl⟩
    rcases h1 with ⟨p, hp, _, _, ho⟩ | ⟨p, hp, _, _, ho, _⟩ | ⟨rfl, _⟩
    · exact ⟨p, hp, .inl ho⟩
    · exact ⟨p, hp, .inr (.inl ho)⟩
    · exact absurd rfl hr
  · obtain ⟨rfl, h1⟩ := hf.live hl
    have h1' : ∀ q ∈ L1, ¬ isO c.zone c.orig q ∧ ¬ isR c.zone c.orig q := by
      rcases h1 with ⟨p, _, hp, _⟩ | ⟨p, _, hp, _⟩ | ⟨_, h1⟩
      · cases hp
      · cases hp
      · exact h1
    rcases h with ⟨r, b, hr, hf2, hn⟩ | ⟨b2, L2, hf2, h⟩
    · obtain ⟨rfl, h2⟩ := hf2.live hl
      refine .inl ⟨?_, hn, rfl⟩
      rcases h2 with ⟨p, hp, _, _, ho⟩ | ⟨p, hp, _, _, ho, _⟩ | ⟨rfl, _⟩
      · exact ⟨p, hp, .inr (.inr (.inl ho))⟩
      · exact ⟨p, hp, .inr (.inr (.inr ho))⟩
      · exact absurd rfl hr
    · obtain ⟨rfl, h2⟩ := hf2.live hl
      have h2' : ∀ q ∈ L2, ¬ isO c.zone c.rep q ∧ ¬ isR c.zone c.rep q := by
        rcases h2 with ⟨p, _, hp, _⟩ | ⟨p, _, hp, _⟩ | ⟨_, h1⟩
        · cases hp
        · cases hp
        · exact h1
      exact .inr ⟨fun q hq => ⟨(h1' q hq).1, (h1' q hq).2, (h2' q hq).1, (h2' q hq).2⟩, h⟩
end
theorem run_build47p (q : Pk) (w : World) : (Instr.build 47 #[(0, q.v)]).run Try.prog w = .ok ({ Sta.zero with p := q } : Sta).v w := by kernel_rfl
theorem eql41_some (w : World) (a : Addr) : (binOp .eql 41 (.pointer (some a)) (.pointer none)).run Try.prog w = .ok (.bool false) w := by kernel_rfl
theorem gate_build47p {P : Program} {w : World} {ops : Array Oper} {rest : List Oper} {o : Oper} {a : Act} {Q : Exit → Act → World → Prop} {x : Operand} (ho : o.op = .build 47 #[(0, x)]) (h : wpList P ops Q (o :: rest) a w) : wpList P ops Q (o :: rest) a w := h
theorem bd_stap {w : World} {ops : Array Oper} {rest : List Oper} {o : Oper} {a : Act} {Q : Exit → Act → World → Prop} (hgd : Region.wanted o (yielded ops a.tmps) = true) (x : Operand) (ho : o.op = .build 47 #[(0, x)]) (q : Pk) (hx : a.eval x = q.v) (hK : wpList Try.prog ops Q rest (a.put o.dst ({ Sta.zero with p := q } : Sta).v) w) : wpList Try.prog ops Q (o :: rest) a w := by
  refine wpList_want hgd fun K' hK' => ?_
  unfold Oper.wp execOp
  simp only [ho, List.map_toArray, List.map_cons, List.map_nil, hx, run_build47p, Sem.run_bind, Sem.run_pure, Result.andThen_ok]
  exact hK' _ _ hK
end Go.Proofs.Ytomfgdkmkacebaa
