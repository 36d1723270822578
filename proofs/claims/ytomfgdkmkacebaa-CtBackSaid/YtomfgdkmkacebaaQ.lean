/- When two structs are one: what == on them answers. -/
import Derived.Test.YtomfgdkmkacebaaM
import Derived.Laws.StructEq
namespace Go.Proofs.Ytomfgdkmkacebaa
open Go.RowKit Go.MapKept
set_option linter.unusedSimpArgs false
set_option linter.unusedVariables false

/-- == on a and b answers whether p holds. -/
def EqO (P : Program) (d : Nat) (t : TypeId) (a b : Value) (p : Prop) : Prop := ∃ r : Bool, (r = true ↔ p) ∧ ∀ w, (Op.equalIn d t a b).run P w = .ok r w
def EqFs (P : Program) (d : Nat) (xs ys : Array Value) (fs : List Field) (p : Prop) : Prop := ∃ r : Bool, (r = true ↔ p) ∧ ∀ w, (Op.eqFields d xs ys fs).run P w = .ok r w
section
variable {P : Program} {d : Nat} {xs ys : Array Value} {f : Field} {fs : List Field} {a b : Value} {p q : Prop}
theorem eqfs_nil : EqFs P d xs ys [] True := ⟨true, by simp, fun w => by simp [Op.eqFields]⟩
theorem eqfs_cons (hn : (f.name == "_") = false) (ha : ∀ w, (part f.type xs f.offset).run P w = .ok a w) (hb : ∀ w, (part f.type ys f.offset).run P w = .ok b w) (he : EqO P d f.type a b p) (hr : EqFs P d xs ys fs q) : EqFs P d xs ys (f :: fs) (p ∧ q) := by
  obtain ⟨r, hr1, hr2⟩ := he
  obtain ⟨s, hs1, hs2⟩ := hr
  have hn' : f.name ≠ "_" := by simpa using hn
  refine ⟨r && s, by rw [Bool.and_eq_true, hr1, hs1], fun w => ?_⟩
  rw [Op.eqFields]
  simp only [if_pos hn', Sem.run_bind, ha, hb, hr2, Result.andThen_ok]
  cases r
  · simp
  · simpa using hs2 w
theorem eqo_struct {t : TypeId} {fs : Array Field} (hu : P.underlying t = some (.struct fs)) (hp : P.stoodInHeld t = false) (h : EqFs P d xs ys fs.toList p) : EqO P (d + 1) t (.agg xs) (.agg ys) p := by
  obtain ⟨r, h1, h2⟩ := h
  have hf : P.fieldsOf t = fs := by simp [Program.fieldsOf, hu]
  refine ⟨r, h1, fun w => ?_⟩
  rw [run_equalIn_struct (P := P) w d t xs ys (by rw [hf]; exact hu) hp, hf]
  exact h2 w
theorem eqo_int {t : TypeId} {k k' : IntKind} {m n : Int} (hu : P.underlying t = some (.int k')) : EqO P (d + 1) t (.int k m) (.int k n) (m = n) := ⟨m == n, by simp, fun w => run_equalIn_int w d t k k' m n hu⟩
theorem eqo_bool {t : TypeId} {m n : Bool} (hu : P.underlying t = some .bool) : EqO P (d + 1) t (.bool m) (.bool n) (m = n) := ⟨m == n, by simp, fun w => run_equalIn_bool' w d t m n hu⟩
theorem eqo_str {t : TypeId} {m n : ByteArray} (hu : P.underlying t = some .string) : EqO P (d + 1) t (.string m) (.string n) (m = n) := ⟨m.toList == n.toList, by
  rw [beq_iff_eq, ByteArray.toList_eq, ByteArray.toList_eq]
  obtain ⟨⟨m⟩⟩ := m
  obtain ⟨⟨n⟩⟩ := n
  simp, fun w => run_equalIn_string w d t m n hu⟩
theorem EqO.eql {t : TypeId} {xs ys : Array Value} (h : EqO P 10000 t (.agg xs) (.agg ys) p) [Decidable p] (w : World) : (binOp .eql t (.agg xs) (.agg ys)).run P w = .ok (.bool (decide p)) w := by
  obtain ⟨r, h1, h2⟩ := h
  rw [run_eql_struct, h2]
  simp only [Result.andThen_ok]
  congr 2
  cases r
  · simp at h1; simp [h1]
  · simp at h1; simp [h1]
theorem EqO.neq {t : TypeId} {xs ys : Array Value} (h : EqO P 10000 t (.agg xs) (.agg ys) p) [Decidable p] (w : World) : (binOp .neq t (.agg xs) (.agg ys)).run P w = .ok (.bool (!decide p)) w := by
  obtain ⟨r, h1, h2⟩ := h
  rw [run_neq_struct, h2]
  simp only [Result.andThen_ok]
  congr 3
  cases r
  · simp at h1; simp [h1]
  · simp at h1; simp [h1]
theorem EqO.iff {t : TypeId} {p q : Prop} (h : EqO P d t a b p) (hpq : p ↔ q) : EqO P d t a b q := by
  obtain ⟨r, h1, h2⟩ := h
  exact ⟨r, h1.trans hpq, h2⟩
end
theorem u3 : Try.prog.underlying 3 = some (.int .i64) := by kernel_rfl
theorem u25 : Try.prog.underlying 25 = some (.int .u32) := by kernel_rfl
theorem Tup.ext_iff (x y : Tup) : (x.pr = y.pr ∧ x.sr = y.sr ∧ x.ds = y.ds ∧ x.sp = y.sp ∧ x.dp = y.dp ∧ True) ↔ x = y := by
  constructor
  · rintro ⟨h1, h2, h3, h4, h5, _⟩
    exact Tup.ext h1 h2 h3 h4 h5
  · rintro rfl
    simp
theorem eqo35 (d : Nat) (x y : Tup) : EqO Try.prog (d + 2) 35 x.v y.v (x = y) := by
  refine (eqo_struct Try.underlying35 (by kernel_rfl) ?_).iff (Tup.ext_iff x y)
  refine eqfs_cons rfl (fun w => rfl) (fun w => rfl) (eqo_int u3) ?_
  refine eqfs_cons rfl (fun w => rfl) (fun w => rfl) (eqo_int u25) ?_
  refine eqfs_cons rfl (fun w => rfl) (fun w => rfl) (eqo_int u25) ?_
  refine eqfs_cons rfl (fun w => rfl) (fun w => rfl) (eqo_int u3) ?_
  refine eqfs_cons rfl (fun w => rfl) (fun w => rfl) (eqo_int u3) ?_
  exact eqfs_nil
instance (x y : Tup) : Decidable (x = y) := if h : x.same y = true then isTrue ((Tup.same_iff x y).1 h) else isFalse fun e => h ((Tup.same_iff x y).2 e)
theorem eql35 (x y : Tup) (w : World) : (binOp .eql 35 x.v y.v).run Try.prog w = .ok (.bool (decide (x = y))) w := (eqo35 9998 x y).eql w
theorem neq35 (x y : Tup) (w : World) : (binOp .neq 35 x.v y.v).run Try.prog w = .ok (.bool (!decide (x = y))) w := (eqo35 9998 x y).neq w
end Go.Proofs.Ytomfgdkmkacebaa
