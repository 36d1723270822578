/- The connection table in memory: tuples, connections, the table's relation Tab, and the map operations at the walk. Conditions: none of its own. -/
import Derived.Test.YtomfgdkmkacebaaA
import Derived.StillTailTactics
import Derived.Deep.DeepMust
namespace Go.Proofs.Ytomfgdkmkacebaa
open Go.RowKit Go.MapKept
open Go.Maps (Keyed)
open Go.ChangeMaps (setBlock)

theorem laidOut : laidOutB Try.prog = true := by kernel_rfl
theorem law80 : Keyed Try.prog 80 := Keyed.of_law (deep_law_gate laidOut (of_decide_eq_true (by kernel_rfl)) (of_decide_eq_true (by kernel_rfl)) (by kernel_rfl) (by kernel_rfl))
theorem typesSize : Try.prog.types.size = 98 := by kernel_rfl
theorem keyT : Try.prog.keyType 80 = true := by kernel_rfl
theorem cells80 : Try.prog.cellsOf 80 = 6 := by kernel_rfl
theorem cells35 : Try.prog.cellsOf 35 = 5 := by kernel_rfl
theorem cells3 : Try.prog.cellsOf 3 = 1 := by kernel_rfl
theorem cells25 : Try.prog.cellsOf 25 = 1 := by kernel_rfl
theorem zero67 (w : World) : (zeroValue 67).run Try.prog w = .ok (.pointer none) w := by kernel_rfl

/-! ### tuples and connections -/
structure Tup where
  pr : Int
  sr : Int
  ds : Int
  sp : Int
  dp : Int
def Tup.ok (x : Tup) : Prop := (Lit.int .i64 x.pr).wf = true ∧ (Lit.int .u32 x.sr).wf = true ∧ (Lit.int .u32 x.ds).wf = true ∧ (Lit.int .i64 x.sp).wf = true ∧ (Lit.int .i64 x.dp).wf = true
abbrev Tup.v (x : Tup) : Value := .agg #[.int .i64 x.pr, .int .u32 x.sr, .int .u32 x.ds, .int .i64 x.sp, .int .i64 x.dp]
def Tup.turned (x : Tup) : Tup := ⟨x.pr, x.ds, x.sr, x.dp, x.sp⟩
theorem Tup.turned_turned (x : Tup) : x.turned.turned = x := rfl
theorem Tup.turned_ok {x : Tup} (h : x.ok) : x.turned.ok := ⟨h.1, h.2.2.1, h.2.1, h.2.2.2.2, h.2.2.2.1⟩
/-- Are two tuples one? -/
def Tup.same (x y : Tup) : Bool := x.pr == y.pr && x.sr == y.sr && x.ds == y.ds && x.sp == y.sp && x.dp == y.dp
theorem Tup.ext {x y : Tup} (h1 : x.pr = y.pr) (h2 : x.sr = y.sr) (h3 : x.ds = y.ds) (h4 : x.sp = y.sp) (h5 : x.dp = y.dp) : x = y := by
  cases x; cases y; simp_all
theorem Tup.same_iff (x y : Tup) : x.same y = true ↔ x = y := by
  constructor
  · intro h
    simp [Tup.same] at h
    exact Tup.ext h.1.1.1.1 h.1.1.1.2 h.1.1.2 h.1.2 h.2
  · rintro rfl
    simp [Tup.same]
theorem Tup.same_self (x : Tup) : x.same x = true := (Tup.same_iff x x).2 rfl
theorem Tup.same_false {x y : Tup} (h : x ≠ y) : x.same y = false := by
  cases e : x.same y
  · rfl
  · exact absurd ((Tup.same_iff x y).1 e) h

structure Cn where
  zone : Int
  orig : Tup
  rep : Tup
  nat : Bool
  exp : Int
def Cn.ok (c : Cn) : Prop := (Lit.int .i64 c.zone).wf = true ∧ c.orig.ok ∧ c.rep.ok
abbrev Cn.cells (c : Cn) : Array Value := #[.int .i64 c.zone, .int .i64 c.orig.pr, .int .u32 c.orig.sr, .int .u32 c.orig.ds, .int .i64 c.orig.sp, .int .i64 c.orig.dp,
  .int .i64 c.rep.pr, .int .u32 c.rep.sr, .int .u32 c.rep.ds, .int .i64 c.rep.sp, .int .i64 c.rep.dp, .bool c.nat, .int .i64 c.exp]
abbrev Cn.v (c : Cn) : Value := .agg c.cells

abbrev keyV (z : Int) (x : Tup) : Value := .agg #[.int .i64 z, .int .i64 x.pr, .int .u32 x.sr, .int .u32 x.ds, .int .i64 x.sp, .int .i64 x.dp]
theorem keyV_inj {z z' : Int} {x x' : Tup} (h : keyV z x = keyV z' x') : z = z' ∧ x = x' := by
  simp only [Value.agg.injEq, Array.mk.injEq, List.cons.injEq, Value.int.injEq, true_and, and_true] at h
  exact ⟨h.1, Tup.ext h.2.1 h.2.2.1 h.2.2.2.1 h.2.2.2.2.1 h.2.2.2.2.2⟩
theorem lit3 (d : Nat) (n : Int) (h : (Lit.int .i64 n).wf = true) : Try.prog.keyLits (d + 1) 3 [.int .i64 n] = some [.int .i64 n] := by
  simp [Program.keyLits, Try.underlying3, h]
theorem lit25 (d : Nat) (n : Int) (h : (Lit.int .u32 n).wf = true) : Try.prog.keyLits (d + 1) 25 [.int .u32 n] = some [.int .u32 n] := by
  simp [Program.keyLits, Try.underlying25, h]
theorem lit35 (d : Nat) (a b c e f : Int) (h1 : (Lit.int .i64 a).wf = true) (h2 : (Lit.int .u32 b).wf = true) (h3 : (Lit.int .u32 c).wf = true) (h4 : (Lit.int .i64 e).wf = true) (h5 : (Lit.int .i64 f).wf = true) :
    Try.prog.keyLits (d + 2) 35 [.int .i64 a, .int .u32 b, .int .u32 c, .int .i64 e, .int .i64 f] = some [.int .i64 a, .int .u32 b, .int .u32 c, .int .i64 e, .int .i64 f] := by
  unfold Program.keyLits
  simp only [Try.underlying35, cells35]
  rw [if_pos ⟨rfl, by kernel_rfl⟩]
  simp [cells3, cells25, lit3 d _ h1, lit25 d _ h2, lit25 d _ h3, lit3 d _ h4, lit3 d _ h5]
theorem lit80 (d : Nat) (z a b c e f : Int) (h0 : (Lit.int .i64 z).wf = true) (h1 : (Lit.int .i64 a).wf = true) (h2 : (Lit.int .u32 b).wf = true) (h3 : (Lit.int .u32 c).wf = true) (h4 : (Lit.int .i64 e).wf = true) (h5 : (Lit.int .i64 f).wf = true) :
    Try.prog.keyLits (d + 3) 80 [.int .i64 z, .int .i64 a, .int .u32 b, .int .u32 c, .int .i64 e, .int .i64 f] = some [.int .i64 z, .int .i64 a, .int .u32 b, .int .u32 c, .int .i64 e, .int .i64 f] := by
  unfold Program.keyLits
  simp only [Try.underlying80, cells80]
  rw [if_pos ⟨rfl, by kernel_rfl⟩]
  simp [cells3, cells35, lit3 (d + 1) _ h0, lit35 d a b c e f h1 h2 h3 h4 h5]
theorem key_reads {z : Int} {x : Tup} (hz : (Lit.int .i64 z).wf = true) (hx : x.ok) : ∃ l, keyOf Try.prog 80 (keyV z x) = some l := by
  obtain ⟨h1, h2, h3, h4, h5⟩ := hx
  rw [← Option.isSome_iff_exists]
  unfold keyOf
  simp only [Try.underlying80, keyT, Value.formed, cells80, typesSize, keyV]
  rw [show (98 + 1 : Nat) = 96 + 3 from rfl]
  simp only [Value.cells, lit80 96 _ _ _ _ _ _ hz h1 h2 h3 h4 h5]
  simp

/-! ### the table -/
structure Tab (w : World) (tb mo mr : Nat) (room now : Int) (L : List (Nat × Cn)) : Prop where
  cell : w.heap[tb]? = some (.cells #[.int .i64 room, .int .i64 now, .map (some mo), .map (some mr)] 65 (0, 0))
  om : Ents Try.prog 80 w mo (L.map fun p => (keyV p.2.zone p.2.orig, p.1))
  rm : Ents Try.prog 80 w mr (L.map fun p => (keyV p.2.zone p.2.rep, p.1))
  ne : mo ≠ mr
  cn : ∀ p ∈ L, w.heap[p.1]? = some (.cells p.2.cells 71 (0, 0))
  ok : ∀ p ∈ L, p.2.ok
  nd : (L.map (·.1)).Nodup

/-- The table's own blocks. -/
def TabS (tb mo mr : Nat) (L : List (Nat × Cn)) (i : Nat) : Prop := i = tb ∨ i = mo ∨ i = mr ∨ ∃ p ∈ L, p.1 = i

theorem heap_lt {w : World} {g : Nat} {o : Obj} (h : w.heap[g]? = some o) : g < w.heap.size := (Array.getElem?_eq_some_iff.1 h).1
theorem cell_at {w : World} {g : Nat} {cs : Array Value} {t : TypeId} {f : Nat × Nat} (h : w.heap[g]? = some (.cells cs t f)) (i : Nat) : w.cell? ⟨g, i, none⟩ = cs[i]? := by simp [World.cell?, h]
theorem free_at {w : World} {g : Nat} {cs : Array Value} {t : TypeId} (h : w.heap[g]? = some (.cells cs t (0, 0))) (i : Nat) : w.frozen? ⟨g, i, none⟩ = false := by simp [World.frozen?, h]

section
variable {w w' : World} {tb mo mr : Nat} {room now : Int} {L L' : List (Nat × Cn)}

theorem Tab.lt (h : Tab w tb mo mr room now L) {i : Nat} (hi : TabS tb mo mr L i) : i < w.heap.size := by
  rcases hi with rfl | rfl | rfl | ⟨p, hp, rfl⟩
  · exact heap_lt h.cell
  · exact h.om.lt
  · exact h.rm.lt
  · exact heap_lt (h.cn p hp)

/-- A block of another type is none of the table's. -/
theorem Tab.not_own (h : Tab w tb mo mr room now L) {g : Nat} {cs : Array Value} {t : TypeId} {f : Nat × Nat} (hg : w.heap[g]? = some (.cells cs t f)) (h1 : t ≠ 65) (h2 : t ≠ 71) : ¬ TabS tb mo mr L g := by
  rintro (rfl | rfl | rfl | ⟨p, hp, rfl⟩)
  · rw [h.cell] at hg; simp at hg; exact h1 hg.2.1.symm
  · exact h.om.not_cells hg
  · exact h.rm.not_cells hg
  · rw [h.cn p hp] at hg; simp at hg; exact h2 hg.2.1.symm

theorem Tab.tb_ne (h : Tab w tb mo mr room now L) : tb ≠ mo ∧ tb ≠ mr :=
  ⟨fun e => h.om.not_cells (e ▸ h.cell), fun e => h.rm.not_cells (e ▸ h.cell)⟩
theorem Tab.cn_ne (h : Tab w tb mo mr room now L) {p : Nat × Cn} (hp : p ∈ L) : p.1 ≠ tb ∧ p.1 ≠ mo ∧ p.1 ≠ mr := by
  refine ⟨fun e => ?_, fun e => h.om.not_cells (e ▸ h.cn p hp), fun e => h.rm.not_cells (e ▸ h.cn p hp)⟩
  have := h.cn p hp
  rw [e, h.cell] at this
  simp at this

/-- Nothing of the table has turned. -/
theorem Tab.same (h : Tab w tb mo mr room now L) (hs : ∀ i, TabS tb mo mr L i → w'.heap[i]? = w.heap[i]?) : Tab w' tb mo mr room now L :=
  ⟨(hs _ (.inl rfl)).trans h.cell, h.om.same (hs _ (.inr (.inl rfl))), h.rm.same (hs _ (.inr (.inr (.inl rfl)))), h.ne,
    fun p hp => (hs _ (.inr (.inr (.inr ⟨p, hp, rfl⟩)))).trans (h.cn p hp), h.ok, h.nd⟩
theorem Tab.alloc (h : Tab w tb mo mr room now L) (o : Obj) : Tab (w.alloc o) tb mo mr room now L := h.same fun i hi => Below.heap_alloc w o i (h.lt hi)
theorem Tab.drew (h : Tab w tb mo mr room now L) : Tab w.drew tb mo mr room now L := h.same fun _ _ => rfl
theorem Tab.drewN (h : Tab w tb mo mr room now L) (n : Nat) : Tab (w.drewN n) tb mo mr room now L := h.same fun _ _ => rfl
theorem Tab.setCell (h : Tab w tb mo mr room now L) {p : Addr} (hp : ¬ TabS tb mo mr L p.block) (u : Value) : Tab (w.setCell p u) tb mo mr room now L :=
  h.same fun i hi => Below.heap_setCell w p u i (fun e => hp (e ▸ hi))
theorem Tab.keeps {S : Nat → Prop} (h : Tab w tb mo mr room now L) (hk : Keeps w w' S) (hs : ∀ i, TabS tb mo mr L i → ¬ S i) : Tab w' tb mo mr room now L :=
  h.same fun i hi => hk.block i (h.lt hi) (hs i hi)
theorem Tab.below (h : Tab w tb mo mr room now L) (hb : Below w.heap.size w w') : Tab w' tb mo mr room now L := h.same fun i hi => hb.block i (h.lt hi)

theorem Tab.perm (h : Tab w tb mo mr room now L) (hp : L.Perm L') : Tab w tb mo mr room now L' :=
  ⟨h.cell, h.om.perm (hp.map _), h.rm.perm (hp.map _), h.ne, fun p hq => h.cn p (hp.mem_iff.2 hq), fun p hq => h.ok p (hp.mem_iff.2 hq), (hp.map (·.1)).nodup_iff.1 h.nd⟩

theorem Tab.key_o (h : Tab w tb mo mr room now L) : L.Pairwise (fun p q => ¬ (p.2.zone = q.2.zone ∧ p.2.orig = q.2.orig)) := by
  have := h.om.apart
  rw [List.pairwise_map] at this
  exact this.imp (fun hne he => hne (by rw [he.1, he.2]))
theorem Tab.key_r (h : Tab w tb mo mr room now L) : L.Pairwise (fun p q => ¬ (p.2.zone = q.2.zone ∧ p.2.rep = q.2.rep)) := by
  have := h.rm.apart
  rw [List.pairwise_map] at this
  exact this.imp (fun hne he => hne (by rw [he.1, he.2]))

/-- Two members that agree in what pairwise differs are one. -/
theorem eq_of_pairwise {α : Type} {R : α → α → Prop} (hsym : ∀ a b, R a b → R b a) : ∀ {l : List α}, l.Pairwise (fun p q => ¬ R p q) → ∀ {x y : α}, x ∈ l → y ∈ l → R x y → x = y
  | [], _, _, _, hx, _, _ => by simp at hx
  | a :: r, hp, x, y, hx, hy, h => by
    obtain ⟨h1, h2⟩ := List.pairwise_cons.1 hp
    rcases List.mem_cons.1 hx with ex | hx'
    · rcases List.mem_cons.1 hy with ey | hy'
      · rw [ex, ey]
      · exact absurd (ex ▸ h) (h1 y hy')
    · rcases List.mem_cons.1 hy with ey | hy'
      · exact absurd (hsym _ _ (ey ▸ h)) (h1 x hx')
      · exact eq_of_pairwise hsym h2 hx' hy' h
theorem Tab.one_o (h : Tab w tb mo mr room now L) {p q : Nat × Cn} (hp : p ∈ L) (hq : q ∈ L) (hz : p.2.zone = q.2.zone) (ho : p.2.orig = q.2.orig) : p = q :=
  eq_of_pairwise (R := fun p q : Nat × Cn => p.2.zone = q.2.zone ∧ p.2.orig = q.2.orig) (fun _ _ h => ⟨h.1.symm, h.2.symm⟩) h.key_o hp hq ⟨hz, ho⟩
theorem Tab.one_r (h : Tab w tb mo mr room now L) {p q : Nat × Cn} (hp : p ∈ L) (hq : q ∈ L) (hz : p.2.zone = q.2.zone) (ho : p.2.rep = q.2.rep) : p = q :=
  eq_of_pairwise (R := fun p q : Nat × Cn => p.2.zone = q.2.zone ∧ p.2.rep = q.2.rep) (fun _ _ h => ⟨h.1.symm, h.2.symm⟩) h.key_r hp hq ⟨hz, ho⟩
end

/-! ### the operations at the walk -/
section
variable {P : Program} {w : World} {ops : Array Oper} {rest : List Oper} {o : Oper} {a : Act} {Q : Exit → Act → World → Prop} {kt : TypeId} {m : Nat} {E : List (Value × Nat)}
theorem wpList_look (hg : o.guard = none) (mm x : Operand) (t e : TypeId) (hop : o.op = Op.lookup t mm x false) (K : Keyed P kt) (ht : P.underlying t = some (.map kt e)) (hz : (zeroValue e).run P w = .ok (.pointer none) w)
    (hown : Ents P kt w m E) (k : Value) (l : Lit) (hm : a.eval mm = .map (some m)) (hx : a.eval x = k) (hk : keyOf P kt k = some l)
    (hK : ∀ b, (k, b) ∈ E → wpList P ops Q rest (a.put o.dst (.pointer (some ⟨b, 0, none⟩))) w) (hN : (∀ p ∈ E, p.1 ≠ k) → wpList P ops Q rest (a.put o.dst (.pointer none)) w) :
    wpList P ops Q (o :: rest) a w := by
  refine wpList_plain hg fun K' hK' => ?_
  unfold Oper.wp
  rcases hown.look K ht hz hk with ⟨b, hb, hrun⟩ | ⟨hn, hrun⟩
  · simp [execOp, hop, hm, hx, hrun, Result.andThen]
    exact hK' _ _ (hK b hb)
  · simp [execOp, hop, hm, hx, hrun, Result.andThen]
    exact hK' _ _ (hN hn)

theorem wpList_put (hg : o.guard = none) (mm x y : Operand) (t e : TypeId) (hop : o.op = Op.mapUpdate t mm x y) (K : Keyed P kt) (ht : P.underlying t = some (.map kt e))
    (hown : Ents P kt w m E) (k : Value) (l : Lit) (b : Nat) (hm : a.eval mm = .map (some m)) (hx : a.eval x = k) (hy : a.eval y = .pointer (some ⟨b, 0, none⟩)) (hk : keyOf P kt k = some l) (hnew : ∀ p ∈ E, p.1 ≠ k) (hroom : E.length < maxLen)
    (hK : ∀ ob, Ents P kt (setBlock w m ob) m ((k, b) :: E) → wpList P ops Q rest (a.put o.dst undef) (setBlock w m ob)) :
    wpList P ops Q (o :: rest) a w := by
  refine wpList_plain hg fun K' hK' => ?_
  unfold Oper.wp
  obtain ⟨ob, hrun, hE⟩ := hown.put K ht hk hnew hroom b
  simp [execOp, hop, hm, hx, hy, hrun, Result.andThen]
  exact hK' _ _ (hK ob hE)

theorem wpList_drop (hg : o.guard = none) (mm x : Operand) (t e : TypeId) (hop : o.op = Op.call { callee := Callee.builtin Builtin.delete, args := #[mm, x], argTypes := #[t, kt] }) (K : Keyed P kt) (ht : P.underlying t = some (.map kt e))
    (hown : Ents P kt w m E) (k : Value) (l : Lit) (b : Nat) (E' : List (Value × Nat)) (hm : a.eval mm = .map (some m)) (hx : a.eval x = k) (hk : keyOf P kt k = some l) (hE : E.Perm ((k, b) :: E'))
    (hK : ∀ ob, Ents P kt (setBlock w m ob) m E' → wpList P ops Q rest (a.put o.dst (.tuple #[])) (setBlock w m ob)) :
    wpList P ops Q (o :: rest) a w := by
  refine wpList_plain hg fun K' hK' => ?_
  unfold Oper.wp
  obtain ⟨ob, hrun, hE'⟩ := hown.drop (ty := o.type) K ht hk hE
  simp [execOp, hop, resolve, invoke, builtin, hm, hx, hrun, Result.andThen]
  exact hK' _ _ (hK ob hE')
end
end Go.Proofs.Ytomfgdkmkacebaa
