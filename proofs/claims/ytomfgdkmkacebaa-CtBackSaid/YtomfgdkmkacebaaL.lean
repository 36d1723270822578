/- A state of a walk in few words: what the call has kept so far, and the blocks that it has laid itself with what they hold (St); the laws of box, alloc, load and store in these words. Conditions: none of its own. -/
import Derived.Test.YtomfgdkmkacebaaB
import Derived.Laws.Rows
import Derived.Laws.CopyRow
namespace Go.Proofs.Ytomfgdkmkacebaa
open Go.RowKit Go.MapKept
set_option linter.unusedVariables false

abbrev Blk := Nat × Array Value × TypeId

/-- A fact on worlds that new blocks, and stores into blocks of the types ok, leave alone. -/
structure Stab (F : World → Prop) (ok : TypeId → Prop) : Prop where
  grow : ∀ w w' : World, F w → Below w.heap.size w w' → F w'
  set : ∀ (w : World) (g : Nat) (cs cs' : Array Value) (t : TypeId), ok t → w.heap[g]? = some (.cells cs t (0, 0)) → F w → F (w.setRow g cs')

structure St (w0 : World) (S : Nat → Prop) (F : World → Prop) (w : World) (bs : List Blk) : Prop where
  keeps : Keeps w0 w S
  has : ∀ b ∈ bs, w.heap[b.1]? = some (.cells b.2.1 b.2.2 (0, 0))
  new : ∀ b ∈ bs, w0.heap.size ≤ b.1
  nd : (bs.map (·.1)).Nodup
  fr : F w

section
variable {w0 w w' : World} {S : Nat → Prop} {F : World → Prop} {ok : TypeId → Prop} {bs : List Blk}

theorem St.start (hF : F w) : St w S F w [] := ⟨Keeps.refl w S, by simp, by simp, by simp, hF⟩
theorem St.below (h : St w0 S F w bs) (hs : Stab F ok) (hb : Below w.heap.size w w') : St w0 S F w' bs :=
  ⟨h.keeps.trans (Keeps.of_below hb (fun _ => False)) (fun _ hk => hk.elim), fun b hb' => (hb.block _ (heap_lt (h.has b hb'))).trans (h.has b hb'), h.new, h.nd, hs.grow _ _ h.fr hb⟩
theorem below_drew1 (w : World) : Below w.heap.size w w.drew := (Below.refl _ _).drew
theorem below_drewNN (w : World) (n : Nat) : Below w.heap.size w (w.drewN n) := ⟨rfl, rfl, rfl, Nat.le_refl _, fun _ _ => rfl⟩
theorem below_alloc1 (w : World) (o : Obj) : Below w.heap.size w (w.alloc o) := (Below.refl _ _).alloc (Nat.le_refl _) o
theorem St.drew (h : St w0 S F w bs) (hs : Stab F ok) : St w0 S F w.drew bs := h.below hs (below_drew1 w)
theorem St.drewN (h : St w0 S F w bs) (hs : Stab F ok) (n : Nat) : St w0 S F (w.drewN n) bs := h.below hs (below_drewNN w n)
/-- a new block -/
theorem St.push (h : St w0 S F w bs) (hs : Stab F ok) (cs : Array Value) (t : TypeId) : St w0 S F (w.alloc (.cells cs t)) ((w.heap.size, cs, t) :: bs) := by
  have h1 := h.below hs (below_alloc1 w (.cells cs t))
  refine ⟨h1.keeps, fun b hb => ?_, fun b hb => ?_, ?_, h1.fr⟩
  · rcases List.mem_cons.1 hb with rfl | hb
    · exact heap_alloc_new w _
    · exact h1.has b hb
  · rcases List.mem_cons.1 hb with rfl | hb
    · exact h.keeps.size
    · exact h.new b hb
  · simp only [List.map_cons, List.nodup_cons]
    refine ⟨fun hm => ?_, h.nd⟩
    obtain ⟨b, hb, e⟩ := List.mem_map.1 hm
    have := heap_lt (h.has b hb)
    omega
/-- a store into an own block -/
theorem St.put (h : St w0 S F w bs) (hs : Stab F ok) (i : Nat) {g : Nat} {cs : Array Value} {t : TypeId} (hi : bs[i]? = some (g, cs, t)) (ht : ok t) (cs' : Array Value) : St w0 S F (w.setRow g cs') (bs.set i (g, cs', t)) := by
  have hm : (g, cs, t) ∈ bs := List.mem_of_getElem? hi
  have hg := h.has _ hm
  have hn := h.new _ hm
  refine ⟨⟨h.keeps.os, h.keeps.tape, h.keeps.output, by simpa using h.keeps.size, fun k hk hS => ?_⟩, fun b hb => ?_, fun b hb => ?_, ?_, hs.set w g cs cs' t ht hg h.fr⟩
  · have : k ≠ g := by
      rintro rfl
      exact absurd hk (by simpa using hn)
    rw [setRow_other w g k cs' this]
    exact h.keeps.block k hk hS
  · obtain ⟨j, hj⟩ := List.getElem?_of_mem hb
    rw [List.getElem?_set] at hj
    split at hj
    · rename_i e
      split at hj
      · cases hj
        exact setRow_heap w g cs cs' t (0, 0) hg
      · cases hj
    · rename_i e
      have hbm : b ∈ bs := List.mem_of_getElem? hj
      have hne : b.1 ≠ g := by
        intro e1
        have h1 : (bs.map (·.1))[j]? = some g := by simp [hj, e1]
        have h2 : (bs.map (·.1))[i]? = some g := by simp [hi]
        exact e ((List.getElem?_inj (by simp; exact (List.getElem?_eq_some_iff.1 hi).1) h.nd).1 (h2.trans h1.symm))
      rw [setRow_other w g b.1 cs' hne]
      exact h.has b hbm
  · obtain ⟨j, hj⟩ := List.getElem?_of_mem hb
    rw [List.getElem?_set] at hj
    split at hj
    · split at hj
      · cases hj
        exact hn
      · cases hj
    · exact h.new b (List.mem_of_getElem? hj)
  · have : (bs.set i (g, cs', t)).map (·.1) = bs.map (·.1) := by
      rw [List.map_set]
      apply List.ext_getElem?
      intro j
      rw [List.getElem?_set]
      split
      · rename_i e
        subst e
        split
        · simp [hi]
        · rename_i h2
          simp at h2
          rw [List.getElem?_eq_none (by simpa using h2)]
      · rfl
    rw [this]
    exact h.nd
theorem St.at_ (h : St w0 S F w bs) (i : Nat) {g : Nat} {cs : Array Value} {t : TypeId} (hi : bs[i]? = some (g, cs, t)) : w.heap[g]? = some (.cells cs t (0, 0)) := h.has _ (List.mem_of_getElem? hi)
theorem St.end_ (h : St w0 (fun _ => False) F w bs) : Below w0.heap.size w0 w := h.keeps.below (Nat.le_refl _) (fun _ hk => hk.elim)
end
theorem at0 {α : Type} {x : α} {l : List α} : (x :: l)[0]? = some x := rfl
theorem set0 {α : Type} {x y : α} {l : List α} : (x :: l).set 0 y = y :: l := rfl
theorem at1 {α : Type} {a x : α} {l : List α} : (a :: x :: l)[1]? = some x := rfl
theorem set1 {α : Type} {a x y : α} {l : List α} : (a :: x :: l).set 1 y = a :: y :: l := rfl
theorem at2 {α : Type} {a b x : α} {l : List α} : (a :: b :: x :: l)[2]? = some x := rfl
theorem set2 {α : Type} {a b x y : α} {l : List α} : (a :: b :: x :: l).set 2 y = a :: b :: y :: l := rfl
theorem at3 {α : Type} {a b c x : α} {l : List α} : (a :: b :: c :: x :: l)[3]? = some x := rfl
theorem set3 {α : Type} {a b c x y : α} {l : List α} : (a :: b :: c :: x :: l).set 3 y = a :: b :: c :: y :: l := rfl
theorem at4 {α : Type} {a b c d x : α} {l : List α} : (a :: b :: c :: d :: x :: l)[4]? = some x := rfl
theorem set4 {α : Type} {a b c d x y : α} {l : List α} : (a :: b :: c :: d :: x :: l).set 4 y = a :: b :: c :: d :: y :: l := rfl
theorem at5 {α : Type} {a b c d e x : α} {l : List α} : (a :: b :: c :: d :: e :: x :: l)[5]? = some x := rfl
theorem set5 {α : Type} {a b c d e x y : α} {l : List α} : (a :: b :: c :: d :: e :: x :: l).set 5 y = a :: b :: c :: d :: e :: y :: l := rfl
theorem at6 {α : Type} {a b c d e f x : α} {l : List α} : (a :: b :: c :: d :: e :: f :: x :: l)[6]? = some x := rfl
theorem set6 {α : Type} {a b c d e f x y : α} {l : List α} : (a :: b :: c :: d :: e :: f :: x :: l).set 6 y = a :: b :: c :: d :: e :: f :: y :: l := rfl
theorem at7 {α : Type} {a b c d e f g x : α} {l : List α} : (a :: b :: c :: d :: e :: f :: g :: x :: l)[7]? = some x := rfl
theorem set7 {α : Type} {a b c d e f g x y : α} {l : List α} : (a :: b :: c :: d :: e :: f :: g :: x :: l).set 7 y = a :: b :: c :: d :: e :: f :: g :: y :: l := rfl
theorem at8 {α : Type} {a b c d e f g h x : α} {l : List α} : (a :: b :: c :: d :: e :: f :: g :: h :: x :: l)[8]? = some x := rfl
theorem set8 {α : Type} {a b c d e f g h x y : α} {l : List α} : (a :: b :: c :: d :: e :: f :: g :: h :: x :: l).set 8 y = a :: b :: c :: d :: e :: f :: g :: h :: y :: l := rfl

/-- Is a type a struct or an array? -/
def aggB (P : Program) (t : TypeId) : Bool := match P.underlying t with | some (.struct _) | some (.array _ _) => true | _ => false

section
variable {P : Program} {w0 w : World} {S : Nat → Prop} {F : World → Prop} {ok : TypeId → Prop} {bs : List Blk} {ops : Array Oper} {rest : List Oper} {o : Oper} {a : Act} {Q : Exit → Act → World → Prop}

theorem add_at (g off j : Nat) : (⟨g, off, none⟩ : Addr).add j = ⟨g, off + j, none⟩ := by unfold Addr.add; split <;> simp_all

theorem run_isAgg (t : TypeId) {d : TypeDesc} (hd : P.underlying t = some d) (w : World) : (isAgg t).run P w = .ok (aggB P t) w := by
  unfold isAgg
  rw [Sem.run_bind, run_underlying hd w]
  unfold aggB
  rw [hd]
  cases d <;> rfl

theorem run_loadVar_part (w : World) (g off n : Nat) (T ty : TypeId) (cs : Array Value) (fr : Nat × Nat) (hg : w.heap[g]? = some (.cells cs T fr)) {d : TypeDesc} (hd : P.underlying ty = some d) (hagg : aggB P ty = true) (hi : (P.info? ty).map (·.size) = some n) (hn : off + n ≤ cs.size) :
    (loadVar ty ⟨g, off, none⟩).run P w = .ok (.agg (cs.extract off (off + n))) w := by
  have hlen : (cs.extract off (off + n)).toList.length = n := by simp; omega
  have hl : (loadCells ⟨g, off, none⟩ (cs.extract off (off + n)).toList.length).run P w = .ok (cs.extract off (off + n)).toList.toArray w :=
    run_loadCells_list (P := P) w ⟨g, off, none⟩ _ (fun j v hv => by
      rw [add_at, cell_of_row w g _ cs T fr hg]
      have hj : j < (cs.extract off (off + n)).toList.length := (List.getElem?_eq_some_iff.1 hv).1
      rw [hlen] at hj
      simp at hv
      rw [List.getElem?_take_of_lt hj, List.getElem?_drop] at hv
      simpa using hv)
  rw [hlen] at hl
  cases hq : P.info? ty with
  | none => simp [hq] at hi
  | some i =>
    have hs : i.size = n := by simpa [hq] using hi
    have h1 := run_isAgg ty hd w
    rw [hagg] at h1
    simp only [Array.toArray_toList] at hl
    simp [loadVar, Sem.run_bind, h1, sizeOf, typeInfo, hq, hs, hl]

theorem run_loadVar_one (w : World) (g off : Nat) (T ty : TypeId) (cs : Array Value) (fr : Nat × Nat) (hg : w.heap[g]? = some (.cells cs T fr)) {d : TypeDesc} (hd : P.underlying ty = some d) (hagg : aggB P ty = false) {v : Value} (hv : cs[off]? = some v) :
    (loadVar ty ⟨g, off, none⟩).run P w = .ok v w := by
  have h1 := run_isAgg ty hd w
  rw [hagg] at h1
  have hc : w.cell? ⟨g, off, none⟩ = some v := (cell_of_row w g off cs T fr hg).trans hv
  simp [loadVar, Sem.run_bind, h1, hc]

theorem wpList_want (hw : Region.wanted o (yielded ops a.tmps) = true) (h : ∀ K : Act → World → Prop, (∀ a w, wpList P ops Q rest a w → K a w) → o.wp P a w K Q) : wpList P ops Q (o :: rest) a w :=
  wpList_step fun K hK => by rw [if_pos hw]; exact h K hK
/-- gates: is the next operation of that kind? -/
theorem gate_load {ty : TypeId} {x : Operand} (ho : o.op = .load ty x) (h : wpList P ops Q (o :: rest) a w) : wpList P ops Q (o :: rest) a w := h
theorem gate_store {ty : TypeId} {x y : Operand} (ho : o.op = .store ty x y) (h : wpList P ops Q (o :: rest) a w) : wpList P ops Q (o :: rest) a w := h
theorem gate_box {ty : TypeId} {x : Operand} (ho : o.op = .box ty x) (h : wpList P ops Q (o :: rest) a w) : wpList P ops Q (o :: rest) a w := h
theorem gate_alloc {ty : TypeId} (ho : o.op = .alloc ty) (h : wpList P ops Q (o :: rest) a w) : wpList P ops Q (o :: rest) a w := h
/-- a load of one cell of a block of which it is known what it holds -/
theorem ld_one (hgd : Region.wanted o (yielded ops a.tmps) = true) (ty : TypeId) (x : Operand) (ho : o.op = .load ty x) (g off : Nat) (hx : a.eval x = .pointer (some ⟨g, off, none⟩)) {cs : Array Value} {T : TypeId} {fr : Nat × Nat} (hg : w.heap[g]? = some (.cells cs T fr))
    (hd : ((P.underlying ty).isSome && !aggB P ty) = true) (h : ∃ v, cs[off]? = some v ∧ wpList P ops Q rest (a.put o.dst v) w) : wpList P ops Q (o :: rest) a w := by
  obtain ⟨v, hv, hK⟩ := h
  simp only [Bool.and_eq_true, Bool.not_eq_true'] at hd
  obtain ⟨d, hd'⟩ := Option.isSome_iff_exists.1 hd.1
  refine wpList_want hgd fun K' hK' => ?_
  unfold Oper.wp execOp
  simp only [ho, hx, Instr.loadAt, Instr.sureAddr, Sem.run_bind, Sem.run_pure, Result.andThen_ok, run_loadVar_one w g off T ty cs fr hg hd' hd.2 hv]
  exact hK' _ _ hK
/-- a load of a whole block -/
theorem ld_whole (hgd : Region.wanted o (yielded ops a.tmps) = true) (ty : TypeId) (x : Operand) (ho : o.op = .load ty x) (g : Nat) (hx : a.eval x = .pointer (some ⟨g, 0, none⟩)) {cs : Array Value} {T : TypeId} {fr : Nat × Nat} (hg : w.heap[g]? = some (.cells cs T fr))
    (hd : aggB P ty = true) (n : Nat) (hn : (P.info? ty).map (·.size) = some n) (hs : cs.size = n) (hK : wpList P ops Q rest (a.put o.dst (.agg cs)) w) : wpList P ops Q (o :: rest) a w := by
  have hd0 : ∃ d, P.underlying ty = some d := by
    unfold aggB at hd
    cases h : P.underlying ty with
    | none => simp [h] at hd
    | some d => exact ⟨d, rfl⟩
  obtain ⟨d, hd'⟩ := hd0
  refine wpList_want hgd fun K' hK' => ?_
  have h1 := run_loadVar_part (P := P) w g 0 n T ty cs fr hg hd' hd hn (by omega)
  rw [Nat.zero_add, ← hs, Array.extract_size] at h1
  unfold Oper.wp execOp
  simp only [ho, hx, Instr.loadAt, Instr.sureAddr, Sem.run_bind, Sem.run_pure, Result.andThen_ok, h1]
  exact hK' _ _ hK
/-- a load of a part of a block -/
theorem ld_part (hgd : Region.wanted o (yielded ops a.tmps) = true) (ty : TypeId) (x : Operand) (ho : o.op = .load ty x) (g off : Nat) (hx : a.eval x = .pointer (some ⟨g, off, none⟩)) {cs : Array Value} {T : TypeId} {fr : Nat × Nat} (hg : w.heap[g]? = some (.cells cs T fr))
    (hd : aggB P ty = true) (n : Nat) (hn : (P.info? ty).map (·.size) = some n) (hs : decide (off + n ≤ cs.size) = true) (h : ∃ ps, cs.extract off (off + n) = ps ∧ wpList P ops Q rest (a.put o.dst (.agg ps)) w) : wpList P ops Q (o :: rest) a w := by
  obtain ⟨ps, hps, hK⟩ := h
  have hd0 : ∃ d, P.underlying ty = some d := by
    unfold aggB at hd
    cases h : P.underlying ty with
    | none => simp [h] at hd
    | some d => exact ⟨d, rfl⟩
  obtain ⟨d, hd'⟩ := hd0
  refine wpList_want hgd fun K' hK' => ?_
  have h1 := run_loadVar_part (P := P) w g off n T ty cs fr hg hd' hd hn (of_decide_eq_true hs)
  rw [hps] at h1
  unfold Oper.wp execOp
  simp only [ho, hx, Instr.loadAt, Instr.sureAddr, Sem.run_bind, Sem.run_pure, Result.andThen_ok, h1]
  exact hK' _ _ hK

/-- 'box': a new own block -/
theorem st_box (hgd : Region.wanted o (yielded ops a.tmps) = true) (ty : TypeId) (x : Operand) (ho : o.op = .box ty x) (h : St w0 S F w bs) (hs : Stab F ok)
    (hh : ∃ v cs, a.eval x = v ∧ v.cells = cs ∧ ∀ (g : Nat) (W : World), g = w.heap.size → Below w.heap.size w W → St w0 S F W ((g, cs, ty) :: bs) → wpList P ops Q rest (a.put o.dst (.pointer (some ⟨g, 0, none⟩))) W) : wpList P ops Q (o :: rest) a w := by
  obtain ⟨v, cs, hx, hcs, hK⟩ := hh
  refine wpList_want hgd fun K' hK' => ?_
  unfold Oper.wp execOp
  simp [ho, hx, hcs, Instr.box, newVar, newRow, Result.andThen]
  exact hK' _ _ (hK _ _ rfl (below_alloc1 _ _) (h.push hs cs ty))

/-- 'alloc': a new own block of zeros -/
theorem st_alloc (hgd : Region.wanted o (yielded ops a.tmps) = true) (ty : TypeId) (ho : o.op = .alloc ty) (h : St w0 S F w bs) (hs : Stab F ok) (z : Value) (hz : (P.info? ty).map (·.zero) = some (some z)) (cs : Array Value) (hcs : z.cells = cs)
    (hK : ∀ (g : Nat) (W : World), g = w.heap.size → Below w.heap.size w W → St w0 S F W ((g, cs, ty) :: bs) → wpList P ops Q rest (a.put o.dst (.pointer (some ⟨g, 0, none⟩))) W) : wpList P ops Q (o :: rest) a w := by
  refine wpList_want hgd fun K' hK' => ?_
  obtain ⟨i, hi, hiz⟩ := Option.map_eq_some_iff.1 hz
  have hzr : (zeroValue ty).run P w = .ok z w := by simp [zeroValue, typeInfo, hi, hiz]
  unfold Oper.wp execOp
  simp [ho, Instr.alloc, hzr, hcs, newVar, newRow, Result.andThen]
  exact hK' _ _ (hK _ _ rfl (below_alloc1 _ _) (h.push hs cs ty))

theorem run_storeVar_part (w : World) (g off : Nat) (T ty : TypeId) (cs : Array Value) (hg : w.heap[g]? = some (.cells cs T (0, 0))) (v : Value) (vs : List Value) (hv : v.cells.toList = vs) (hi : (P.info? ty).map (·.size) = some vs.length) (hn : off + vs.length ≤ cs.size) (h1 : ∀ u ∈ vs, u.oneCell' = true) :
    (storeVar ty ⟨g, off, none⟩ v).run P w = .ok () (w.setRow g (cs.toList.take off ++ vs ++ cs.toList.drop (off + vs.length)).toArray) := by
  have hst := run_storeCells_at P g off T vs 0 cs w hg (by omega) h1
  simp only [Nat.add_zero] at hst
  obtain ⟨i, hi1, hi2⟩ := Option.map_eq_some_iff.1 hi
  have hsz : v.cells.size = vs.length := by rw [← hv]; simp
  simp [storeVar, sizeOf, typeInfo, hi1, hi2, hsz, hv, hst]

/-- a store into an own block: cs' is what it holds behind it -/
theorem st_store (hgd : Region.wanted o (yielded ops a.tmps) = true) (ty : TypeId) (x y : Operand) (ho : o.op = .store ty x y) (g off : Nat) (hx : a.eval x = .pointer (some ⟨g, off, none⟩)) (h : St w0 S F w bs) (hs : Stab F ok) (n : Nat) (hn : (P.info? ty).map (·.size) = some n) (cs' : Array Value)
    (hh : ∃ v cs T i bs', a.eval y = v ∧ v.cells.size = n ∧ bs[i]? = some (g, cs, T) ∧ ok T ∧ decide (off + n ≤ cs.size) = true ∧ (v.cells.toList.all fun u => u.oneCell') = true ∧ (cs.toList.take off ++ v.cells.toList ++ cs.toList.drop (off + n)).toArray = cs' ∧ bs.set i (g, cs', T) = bs' ∧
      ∀ W : World, Keeps w W (fun k => k = g) → St w0 S F W bs' → wpList P ops Q rest (a.put o.dst undef) W) : wpList P ops Q (o :: rest) a w := by
  obtain ⟨v, cs, T, i, bs', hy, hv, hi, ht, hfit, h1, hcs, hbs, hK⟩ := hh
  refine wpList_want hgd fun K' hK' => ?_
  have hl : v.cells.toList.length = n := by simpa using hv
  have h2 := run_storeVar_part (P := P) w g off T ty cs (h.at_ i hi) v v.cells.toList rfl (by rw [hl]; exact hn) (by rw [hl]; exact of_decide_eq_true hfit) (fun u hu => List.all_eq_true.1 h1 u hu)
  rw [hl, hcs] at h2
  have h3 := h.put hs i hi ht cs'
  rw [hbs] at h3
  have h4 : Keeps w (w.setRow g cs') (fun k => k = g) := ⟨rfl, rfl, rfl, by simp, fun k _ hk => setRow_other w g k cs' hk⟩
  unfold Oper.wp execOp
  simp [ho, hx, hy, Instr.storeAt, Instr.sureAddr, h2, Result.andThen]
  exact hK' _ _ (hK _ h4 h3)
end
/-- What a struct's result is, read out of an own block. -/
theorem results_own {P : Program} {w0 w : World} {S : Nat → Prop} {F : World → Prop} {bs : List Blk} (ty : TypeId) (g : Nat) (h : St w0 S F w bs) (i : Nat) {cs : Array Value} {T : TypeId} (hi : bs[i]? = some (g, cs, T)) {d : TypeDesc} (hd : P.underlying ty = some d) (hagg : aggB P ty = true) (hn : (P.info? ty).map (·.size) = some cs.size) :
    (loadVar ty ⟨g, 0, none⟩).run P w = .ok (.agg cs) w := by
  have h1 := run_loadVar_part (P := P) w g 0 cs.size T ty cs (0, 0) (h.at_ i hi) hd hagg hn (by omega)
  rwa [Nat.zero_add, Array.extract_size] at h1
section
variable {P : Program} {w : World}
theorem load_whole (ty : TypeId) (g : Nat) {cs : Array Value} {T : TypeId} {fr : Nat × Nat} (hg : w.heap[g]? = some (.cells cs T fr)) (hagg : aggB P ty = true) (n : Nat) (hn : (P.info? ty).map (·.size) = some n) (hs : cs.size = n) : (loadVar ty ⟨g, 0, none⟩).run P w = .ok (.agg cs) w := by
  have hd0 : ∃ d, P.underlying ty = some d := by
    unfold aggB at hagg
    cases h : P.underlying ty with
    | none => simp [h] at hagg
    | some d => exact ⟨d, rfl⟩
  obtain ⟨d, hd'⟩ := hd0
  have h1 := run_loadVar_part (P := P) w g 0 n T ty cs fr hg hd' hagg hn (by omega)
  rwa [Nat.zero_add, ← hs, Array.extract_size] at h1
/-- one struct result -/
theorem res_c {fn : Func} {p : Tmp} {ty : TypeId} (h : fn.results = #[.cell p ty]) (tmps : Array Value) (g : Nat) (hp : tmps.getD p undef = .pointer (some ⟨g, 0, none⟩)) {cs : Array Value} {T : TypeId} {fr : Nat × Nat} (hg : w.heap[g]? = some (.cells cs T fr)) (hagg : aggB P ty = true) (n : Nat) (hn : (P.info? ty).map (·.size) = some n) (hs : cs.size = n) :
    (results fn tmps).run P w = .ok (.agg cs) w := by
  have hp' : tmps[p]?.getD undef = .pointer (some ⟨g, 0, none⟩) := by simpa using hp
  simp [results, h, hp', asAddr, load_whole ty g hg hagg n hn hs]
/-- a struct and a value -/
theorem res_ct {fn : Func} {p u : Tmp} {ty : TypeId} (h : fn.results = #[.cell p ty, .tmp u]) (tmps : Array Value) (g : Nat) (hp : tmps.getD p undef = .pointer (some ⟨g, 0, none⟩)) {cs : Array Value} {T : TypeId} {fr : Nat × Nat} (hg : w.heap[g]? = some (.cells cs T fr)) (hagg : aggB P ty = true) (n : Nat) (hn : (P.info? ty).map (·.size) = some n) (hs : cs.size = n) :
    (results fn tmps).run P w = .ok (.tuple #[.agg cs, tmps.getD u undef]) w := by
  have hp' : tmps[p]?.getD undef = .pointer (some ⟨g, 0, none⟩) := by simpa using hp
  simp [results, h, hp', asAddr, load_whole ty g hg hagg n hn hs]
end
theorem one3 : ((Try.prog.underlying 3).isSome && !aggB Try.prog 3) = true := by kernel_rfl
theorem sinfo3 : (Try.prog.info? 3).map (·.size) = some 1 := by kernel_rfl
theorem one4 : ((Try.prog.underlying 4).isSome && !aggB Try.prog 4) = true := by kernel_rfl
theorem sinfo4 : (Try.prog.info? 4).map (·.size) = some 1 := by kernel_rfl
theorem one9 : ((Try.prog.underlying 9).isSome && !aggB Try.prog 9) = true := by kernel_rfl
theorem sinfo9 : (Try.prog.info? 9).map (·.size) = some 1 := by kernel_rfl
theorem one22 : ((Try.prog.underlying 22).isSome && !aggB Try.prog 22) = true := by kernel_rfl
theorem sinfo22 : (Try.prog.info? 22).map (·.size) = some 1 := by kernel_rfl
theorem one25 : ((Try.prog.underlying 25).isSome && !aggB Try.prog 25) = true := by kernel_rfl
theorem sinfo25 : (Try.prog.info? 25).map (·.size) = some 1 := by kernel_rfl
theorem one41 : ((Try.prog.underlying 41).isSome && !aggB Try.prog 41) = true := by kernel_rfl
theorem sinfo41 : (Try.prog.info? 41).map (·.size) = some 1 := by kernel_rfl
theorem one42 : ((Try.prog.underlying 42).isSome && !aggB Try.prog 42) = true := by kernel_rfl
theorem sinfo42 : (Try.prog.info? 42).map (·.size) = some 1 := by kernel_rfl
theorem one63 : ((Try.prog.underlying 63).isSome && !aggB Try.prog 63) = true := by kernel_rfl
theorem sinfo63 : (Try.prog.info? 63).map (·.size) = some 1 := by kernel_rfl
theorem one67 : ((Try.prog.underlying 67).isSome && !aggB Try.prog 67) = true := by kernel_rfl
theorem sinfo67 : (Try.prog.info? 67).map (·.size) = some 1 := by kernel_rfl
theorem agg33 : aggB Try.prog 33 = true := by kernel_rfl
theorem sinfo33 : (Try.prog.info? 33).map (·.size) = some 36 := by kernel_rfl
theorem agg35 : aggB Try.prog 35 = true := by kernel_rfl
theorem sinfo35 : (Try.prog.info? 35).map (·.size) = some 5 := by kernel_rfl
theorem agg47 : aggB Try.prog 47 = true := by kernel_rfl
theorem sinfo47 : (Try.prog.info? 47).map (·.size) = some 49 := by kernel_rfl
theorem agg29 : aggB Try.prog 29 = true := by kernel_rfl
theorem sinfo29 : (Try.prog.info? 29).map (·.size) = some 8 := by kernel_rfl
theorem agg31 : aggB Try.prog 31 = true := by kernel_rfl
theorem sinfo31 : (Try.prog.info? 31).map (·.size) = some 14 := by kernel_rfl
theorem agg71 : aggB Try.prog 71 = true := by kernel_rfl
theorem sinfo71 : (Try.prog.info? 71).map (·.size) = some 13 := by kernel_rfl
theorem agg80 : aggB Try.prog 80 = true := by kernel_rfl
theorem sinfo80 : (Try.prog.info? 80).map (·.size) = some 6 := by kernel_rfl
theorem held_lt {w : World} {g : Nat} {o : Obj} (h : w.heap[g]? = some o) : g < w.heap.size := (Array.getElem?_eq_some_iff.1 h).1
/-- A block of type T holds cs: left alone by stores into blocks of other types. -/
def Held (g : Nat) (cs : Array Value) (T : TypeId) (w : World) : Prop := w.heap[g]? = some (.cells cs T (0, 0))
theorem held_stab (g : Nat) (cs : Array Value) (T : TypeId) : Stab (Held g cs T) (fun t => t ≠ T) := by
  refine ⟨fun w w' h hb => (hb.block _ (heap_lt h)).trans h, fun w g' cs0 cs' t ht hg h => ?_⟩
  have : g ≠ g' := by
    rintro rfl
    unfold Held at h
    rw [h] at hg
    simp at hg
    exact ht hg.2.symm
  exact (setRow_other w g' g cs' this).trans h
/-- Nothing is asked. -/
def Any (w : World) : Prop := True
theorem any_stab : Stab Any (fun _ => True) := ⟨fun _ _ _ _ => trivial, fun _ _ _ _ _ _ _ _ => trivial⟩
end Go.Proofs.Ytomfgdkmkacebaa
