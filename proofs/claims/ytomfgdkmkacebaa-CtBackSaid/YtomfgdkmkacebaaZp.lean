/- A slice of packets in memory, and loads out of it. -/
import Derived.Test.YtomfgdkmkacebaaZo
namespace Go.Proofs.Ytomfgdkmkacebaa
open Go.RowKit Go.MapKept
set_option linter.unusedSimpArgs false
set_option linter.unusedVariables false
/-- A packet's cells stand at an address. -/
def PkAt (w : World) (ad : Addr) (p : Pk) : Prop := ∀ j v, p.cells.toList[j]? = some v → w.cell? (ad.add j) = some v
/-- A slice of packets as it lies in memory. -/
def IsPks (w : World) (a : Option Addr) (len : Nat) (ps : List Pk) : Prop :=
  (a = none ∧ len = 0) ∨ ∃ x, a = some x ∧ len ≤ ps.length ∧ ∀ i p, ps[i]? = some p → p.ok ∧ PkAt w (x.add (i * 36)) p
theorem PkAt.keep {w w' : World} {ad : Addr} {p : Pk} (h : PkAt w ad p) (hk : Keeps w w' (fun _ => False)) : PkAt w' ad p := fun j v hj => keep_cell hk (h j v hj)
theorem run_load_pk {w : World} {ad : Addr} {p : Pk} (h : PkAt w ad p) : (loadVar 33 ad).run Try.prog w = .ok p.v w := by
  have hl : (loadCells ad p.cells.toList.length).run Try.prog w = .ok p.cells.toList.toArray w := run_loadCells_list (P := Try.prog) w ad _ h
  rw [show p.cells.toList.length = 36 from rfl, Array.toArray_toList] at hl
  obtain ⟨i, hi1, hi2⟩ := Option.map_eq_some_iff.1 sinfo33
  have h1 := run_isAgg 33 Try.underlying33 w
  rw [agg33] at h1
  simp [loadVar, Sem.run_bind, h1, sizeOf, typeInfo, hi1, hi2, hl]
theorem ld_pk {w : World} {ops : Array Oper} {rest : List Oper} {o : Oper} {a : Act} {Q : Exit → Act → World → Prop} (hgd : Region.wanted o (yielded ops a.tmps) = true) (x : Operand) (ho : o.op = .load 33 x) (ad : Addr) (p : Pk) (hx : a.eval x = .pointer (some ad)) (h : PkAt w ad p) (hK : wpList Try.prog ops Q rest (a.put o.dst p.v) w) : wpList Try.prog ops Q (o :: rest) a w := by
  refine wpList_want hgd fun K' hK' => ?_
  unfold Oper.wp execOp
  simp only [ho, hx, Instr.loadAt, Instr.sureAddr, Sem.run_bind, Sem.run_pure, Result.andThen_ok, run_load_pk h]
  exact hK' _ _ hK
end Go.Proofs.Ytomfgdkmkacebaa
