/- Loads and stores of a state's parts. -/
import Derived.Test.YtomfgdkmkacebaaK
namespace Go.Proofs.Ytomfgdkmkacebaa
open Go.RowKit Go.MapKept
set_option linter.unusedSimpArgs false
set_option linter.unusedVariables false

theorem Sta.ext_p (s : Sta) : s.cells.extract 0 (0 + 36) = s.p.cells := by kernel_rfl
theorem Sta.ext_o (s : Sta) : s.cells.extract 44 (44 + 5) = #[.int .i64 s.orig.pr, .int .u32 s.orig.sr, .int .u32 s.orig.ds, .int .i64 s.orig.sp, .int .i64 s.orig.dp] := by kernel_rfl
theorem Sta.set_p (s : Sta) (q : Pk) : (s.cells.toList.take 0 ++ q.v.cells.toList ++ s.cells.toList.drop (0 + 36)).toArray = ({ s with p := q } : Sta).cells := by kernel_rfl
theorem Sta.set_o (s : Sta) (x : Tup) : (s.cells.toList.take 44 ++ x.v.cells.toList ++ s.cells.toList.drop (44 + 5)).toArray = ({ s with orig := x } : Sta).cells := by kernel_rfl
theorem Sta.set_ct (s : Sta) (n : Int) : (s.cells.toList.take 36 ++ (Value.int .i64 n).cells.toList ++ s.cells.toList.drop (36 + 1)).toArray = ({ s with ct := n } : Sta).cells := by kernel_rfl
theorem Sta.set_all (s t : Sta) : (s.cells.toList.take 0 ++ t.v.cells.toList ++ s.cells.toList.drop (0 + 49)).toArray = t.cells := by kernel_rfl
theorem Sta.one (s : Sta) : (s.v.cells.toList.all fun u => u.oneCell') = true := by kernel_rfl
theorem Pk.one (p : Pk) : (p.v.cells.toList.all fun u => u.oneCell') = true := by kernel_rfl
theorem Tup.one (x : Tup) : (x.v.cells.toList.all fun u => u.oneCell') = true := by kernel_rfl

section
variable {w0 w : World} {S : Nat → Prop} {F : World → Prop} {ok : TypeId → Prop} {bs : List Blk} {ops : Array Oper} {rest : List Oper} {o : Oper} {a : Act} {Q : Exit → Act → World → Prop}
theorem ld_sta_p (hgd : Region.wanted o (yielded ops a.tmps) = true) (x : Operand) (ho : o.op = .load 33 x) (h : St w0 S F w bs) (i g : Nat) (s : Sta) (hx : a.eval x = .pointer (some ⟨g, 0, none⟩)) (hi : bs[i]? = some (g, s.cells, 47)) (hK : wpList Try.prog ops Q rest (a.put o.dst s.p.v) w) : wpList Try.prog ops Q (o :: rest) a w :=
  ld_part hgd 33 x ho g 0 hx (h.at_ i hi) agg33 36 sinfo33 rfl ⟨_, s.ext_p, hK⟩
theorem ld_sta_o (hgd : Region.wanted o (yielded ops a.tmps) = true) (x : Operand) (ho : o.op = .load 35 x) (h : St w0 S F w bs) (i g : Nat) (s : Sta) (hx : a.eval x = .pointer (some ⟨g, 44, none⟩)) (hi : bs[i]? = some (g, s.cells, 47)) (hK : wpList Try.prog ops Q rest (a.put o.dst s.orig.v) w) : wpList Try.prog ops Q (o :: rest) a w :=
  ld_part hgd 35 x ho g 44 hx (h.at_ i hi) agg35 5 sinfo35 rfl ⟨_, s.ext_o, hK⟩
theorem ld_sta_all (hgd : Region.wanted o (yielded ops a.tmps) = true) (x : Operand) (ho : o.op = .load 47 x) (h : St w0 S F w bs) (i g : Nat) (s : Sta) (hx : a.eval x = .pointer (some ⟨g, 0, none⟩)) (hi : bs[i]? = some (g, s.cells, 47)) (hK : wpList Try.prog ops Q rest (a.put o.dst s.v) w) : wpList Try.prog ops Q (o :: rest) a w :=
  ld_whole hgd 47 x ho g hx (h.at_ i hi) agg47 49 sinfo47 rfl hK
theorem ld_sta_ct (hgd : Region.wanted o (yielded ops a.tmps) = true) (x : Operand) (ho : o.op = .load 3 x) (h : St w0 S F w bs) (i g : Nat) (s : Sta) (hx : a.eval x = .pointer (some ⟨g, 36, none⟩)) (hi : bs[i]? = some (g, s.cells, 47)) (hK : wpList Try.prog ops Q rest (a.put o.dst (.int .i64 s.ct)) w) : wpList Try.prog ops Q (o :: rest) a w :=
  ld_one hgd 3 x ho g 36 hx (h.at_ i hi) one3 ⟨_, s.at36, hK⟩
theorem ld_tup (hgd : Region.wanted o (yielded ops a.tmps) = true) (x : Operand) (ho : o.op = .load 35 x) (h : St w0 S F w bs) (i g : Nat) (y : Tup) (hx : a.eval x = .pointer (some ⟨g, 0, none⟩)) (hi : bs[i]? = some (g, y.v.cells, 35)) (hK : wpList Try.prog ops Q rest (a.put o.dst y.v) w) : wpList Try.prog ops Q (o :: rest) a w :=
  ld_whole hgd 35 x ho g hx (h.at_ i hi) agg35 5 sinfo35 rfl hK

theorem st_sta_p (hgd : Region.wanted o (yielded ops a.tmps) = true) (x y : Operand) (ho : o.op = .store 33 x y) (h : St w0 S F w bs) (hs : Stab F ok) (hok : ok 47) (i g : Nat) (s : Sta) (q : Pk) (hx : a.eval x = .pointer (some ⟨g, 0, none⟩)) (hy : a.eval y = q.v) (hi : bs[i]? = some (g, s.cells, 47)) (bs' : List Blk) (hbs : bs.set i (g, ({ s with p := q } : Sta).cells, 47) = bs')
    (hK : ∀ W : World, St w0 S F W bs' → wpList Try.prog ops Q rest (a.put o.dst undef) W) : wpList Try.prog ops Q (o :: rest) a w :=
  st_store hgd 33 x y ho g 0 hx h hs 36 sinfo33 _ ⟨_, _, _, i, bs', hy, rfl, hi, hok, rfl, q.one, s.set_p q, hbs, fun W _ hW => hK W hW⟩
theorem st_sta_o (hgd : Region.wanted o (yielded ops a.tmps) = true) (x y : Operand) (ho : o.op = .store 35 x y) (h : St w0 S F w bs) (hs : Stab F ok) (hok : ok 47) (i g : Nat) (s : Sta) (q : Tup) (hx : a.eval x = .pointer (some ⟨g, 44, none⟩)) (hy : a.eval y = q.v) (hi : bs[i]? = some (g, s.cells, 47)) (bs' : List Blk) (hbs : bs.set i (g, ({ s with orig := q } : Sta).cells, 47) = bs')
    (hK : ∀ W : World, St w0 S F W bs' → wpList Try.prog ops Q rest (a.put o.dst undef) W) : wpList Try.prog ops Q (o :: rest) a w :=
  st_store hgd 35 x y ho g 44 hx h hs 5 sinfo35 _ ⟨_, _, _, i, bs', hy, rfl, hi, hok, rfl, q.one, s.set_o q, hbs, fun W _ hW => hK W hW⟩
theorem st_sta_ct (hgd : Region.wanted o (yielded ops a.tmps) = true) (x y : Operand) (ho : o.op = .store 3 x y) (h : St w0 S F w bs) (hs : Stab F ok) (hok : ok 47) (i g : Nat) (s : Sta) (n : Int) (hx : a.eval x = .pointer (some ⟨g, 36, none⟩)) (hy : a.eval y = .int .i64 n) (hi : bs[i]? = some (g, s.cells, 47)) (bs' : List Blk) (hbs : bs.set i (g, ({ s with ct := n } : Sta).cells, 47) = bs')
    (hK : ∀ W : World, St w0 S F W bs' → wpList Try.prog ops Q rest (a.put o.dst undef) W) : wpList Try.prog ops Q (o :: rest) a w :=
  st_store hgd 3 x y ho g 36 hx h hs 1 sinfo3 _ ⟨_, _, _, i, bs', hy, rfl, hi, hok, rfl, rfl, s.set_ct n, hbs, fun W _ hW => hK W hW⟩
theorem st_sta_all (hgd : Region.wanted o (yielded ops a.tmps) = true) (x y : Operand) (ho : o.op = .store 47 x y) (h : St w0 S F w bs) (hs : Stab F ok) (hok : ok 47) (i g : Nat) (s t : Sta) (hx : a.eval x = .pointer (some ⟨g, 0, none⟩)) (hy : a.eval y = t.v) (hi : bs[i]? = some (g, s.cells, 47)) (bs' : List Blk) (hbs : bs.set i (g, t.cells, 47) = bs')
    (hK : ∀ W : World, St w0 S F W bs' → wpList Try.prog ops Q rest (a.put o.dst undef) W) : wpList Try.prog ops Q (o :: rest) a w :=
  st_store hgd 47 x y ho g 0 hx h hs 49 sinfo47 _ ⟨_, _, _, i, bs', hy, rfl, hi, hok, rfl, t.one, s.set_all t, hbs, fun W _ hW => hK W hW⟩
theorem st_tup (hgd : Region.wanted o (yielded ops a.tmps) = true) (x y : Operand) (ho : o.op = .store 35 x y) (h : St w0 S F w bs) (hs : Stab F ok) (hok : ok 35) (i g : Nat) (s t : Tup) (hx : a.eval x = .pointer (some ⟨g, 0, none⟩)) (hy : a.eval y = t.v) (hi : bs[i]? = some (g, s.v.cells, 35)) (bs' : List Blk) (hbs : bs.set i (g, t.v.cells, 35) = bs')
    (hK : ∀ W : World, St w0 S F W bs' → wpList Try.prog ops Q rest (a.put o.dst undef) W) : wpList Try.prog ops Q (o :: rest) a w :=
  st_store hgd 35 x y ho g 0 hx h hs 5 sinfo35 _ ⟨_, _, _, i, bs', hy, rfl, hi, hok, rfl, t.one, rfl, hbs, fun W _ hW => hK W hW⟩
end
theorem gate_build47 {P : Program} {w : World} {ops : Array Oper} {rest : List Oper} {o : Oper} {a : Act} {Q : Exit → Act → World → Prop} (ho : o.op = .build 47 #[]) (h : wpList P ops Q (o :: rest) a w) : wpList P ops Q (o :: rest) a w := h
theorem run_build47 (w : World) : (Instr.build 47 #[]).run Try.prog w = .ok Sta.zero.v w := by kernel_rfl
theorem bd_sta {w : World} {ops : Array Oper} {rest : List Oper} {o : Oper} {a : Act} {Q : Exit → Act → World → Prop} (hgd : Region.wanted o (yielded ops a.tmps) = true) (ho : o.op = .build 47 #[]) (hK : wpList Try.prog ops Q rest (a.put o.dst Sta.zero.v) w) : wpList Try.prog ops Q (o :: rest) a w := by
  refine wpList_want hgd fun K' hK' => ?_
  unfold Oper.wp execOp
  simp only [ho, List.map_toArray, List.map_nil, run_build47, Sem.run_bind, Sem.run_pure, Result.andThen_ok]
  exact hK' _ _ hK
theorem ok47 : (fun t : TypeId => t ≠ 65 ∧ t ≠ 71) 47 := ⟨by decide, by decide⟩
theorem ok35 : (fun t : TypeId => t ≠ 65 ∧ t ≠ 71) 35 := ⟨by decide, by decide⟩
theorem eql_nil_some (w : World) (a : Addr) : (binOp .eql 67 (.pointer (some a)) (.pointer none)).run Try.prog w = .ok (.bool false) w := by kernel_rfl
theorem eql_nil_none (w : World) : (binOp .eql 67 (.pointer none) (.pointer none)).run Try.prog w = .ok (.bool true) w := by kernel_rfl
/-- A connection's time to run out is written. -/
theorem st_cn {w : World} {ops : Array Oper} {rest : List Oper} {o : Oper} {a : Act} {Q : Exit → Act → World → Prop} (hgd : Region.wanted o (yielded ops a.tmps) = true) (x y : Operand) (ho : o.op = .store 3 x y) (g : Nat) (c : Cn) (n : Int) (hx : a.eval x = .pointer (some ⟨g, 12, none⟩)) (hy : a.eval y = .int .i64 n) (hg : w.heap[g]? = some (.cells c.cells 71 (0, 0)))
    (hK : ∀ W : World, Keeps w W (fun i => i = g) → W.heap[g]? = some (.cells ({ c with exp := n } : Cn).cells 71 (0, 0)) → wpList Try.prog ops Q rest (a.put o.dst undef) W) : wpList Try.prog ops Q (o :: rest) a w := by
  refine wpList_want hgd fun K' hK' => ?_
  have h2 := run_storeVar_part (P := Try.prog) w g 12 71 3 c.cells hg (.int .i64 n) [.int .i64 n] rfl sinfo3 (Nat.le_refl 13) (by intro u hu; rw [List.mem_singleton.1 hu]; rfl)
  have h4 : Keeps w (w.setRow g (c.cells.toList.take 12 ++ [Value.int .i64 n] ++ c.cells.toList.drop (12 + 1)).toArray) (fun k => k = g) := ⟨rfl, rfl, rfl, by simp, fun k _ hk => setRow_other w g k _ hk⟩
  unfold Oper.wp execOp
  simp only [ho, hx, hy, Instr.storeAt, Instr.sureAddr, Sem.run_bind, Sem.run_pure, Result.andThen_ok]
  erw [h2]
  exact hK' _ _ (hK _ h4 (setRow_heap w g _ _ 71 (0, 0) hg))
/-- Where a walk is to stand still. -/
def Stop (p : Prop) : Prop := p
theorem Stop.go {p : Prop} (h : Stop p) : p := h
theorem Stop.mk {p : Prop} (h : p) : Stop p := h
theorem zinfo47v : ∃ i, Try.prog.info? 47 = some i ∧ i.zero = some Sta.zero.v := Option.map_eq_some_iff.1 zinfo47
end Go.Proofs.Ytomfgdkmkacebaa
