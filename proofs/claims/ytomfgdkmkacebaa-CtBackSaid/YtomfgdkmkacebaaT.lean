/- CtTuples' walk. -/
import Derived.Test.YtomfgdkmkacebaaS
namespace Go.Proofs.Ytomfgdkmkacebaa
open Go.RowKit Go.MapKept
set_option linter.unusedSimpArgs false
set_option linter.unusedVariables false

theorem tup3_keep {W W' : World} {S : Nat → Prop} {g1 g2 g3 : Nat} {x y z : Tup} (hk : Keeps W W' S) (h1 : ¬ S g1) (h2 : ¬ S g2) (h3 : ¬ S g3)
    (h : W.heap[g1]? = some (.cells x.v.cells 35 (0, 0)) ∧ W.heap[g2]? = some (.cells y.v.cells 35 (0, 0)) ∧ W.heap[g3]? = some (.cells z.v.cells 35 (0, 0))) :
    W'.heap[g1]? = some (.cells x.v.cells 35 (0, 0)) ∧ W'.heap[g2]? = some (.cells y.v.cells 35 (0, 0)) ∧ W'.heap[g3]? = some (.cells z.v.cells 35 (0, 0)) :=
  ⟨(hk.block _ (heap_lt h.1) h1).trans h.1, (hk.block _ (heap_lt h.2.1) h2).trans h.2.1, (hk.block _ (heap_lt h.2.2) h3).trans h.2.2⟩
theorem cells_of35 {W : World} {g : Nat} {x : Tup} (h : W.heap[g]? = some (.cells x.v.cells 35 (0, 0))) : W.cell? ⟨g, 0, none⟩ = some (.int .i64 x.pr) ∧ W.cell? ⟨g, 1, none⟩ = some (.int .u32 x.sr) ∧ W.cell? ⟨g, 2, none⟩ = some (.int .u32 x.ds) ∧ W.cell? ⟨g, 3, none⟩ = some (.int .i64 x.sp) ∧ W.cell? ⟨g, 4, none⟩ = some (.int .i64 x.dp) :=
  ⟨cell_at h 0, cell_at h 1, cell_at h 2, cell_at h 3, cell_at h 4⟩
theorem St.drawn_keep {w0 w w' : World} {S : Nat → Prop} {F : World → Prop} {ok : TypeId → Prop} {bs : List Blk} (h : St w0 S F w bs) (hs : Stab F ok) (hk : Keeps w w' (fun _ => False)) : St w0 S F w' bs := h.below hs (hk.below (Nat.le_refl _) (fun _ h => h.elim))

theorem tk_keep {w W W' : World} {ga gb gc : Nat} {y t : Tup} (hk : Keeps W W' (fun _ => False)) (h : (Keeps w W (fun _ => False) ∧ W.cell? ⟨ga, 0, none⟩ = some (.int .i64 y.pr) ∧ W.cell? ⟨ga, 1, none⟩ = some (.int .u32 y.sr) ∧ W.cell? ⟨ga, 2, none⟩ = some (.int .u32 y.ds) ∧ W.cell? ⟨ga, 3, none⟩ = some (.int .i64 y.sp) ∧ W.cell? ⟨ga, 4, none⟩ = some (.int .i64 y.dp) ∧ W.cell? ⟨gb, 0, none⟩ = some (.int .i64 y.pr) ∧ W.cell? ⟨gb, 1, none⟩ = some (.int .u32 y.sr) ∧ W.cell? ⟨gb, 2, none⟩ = some (.int .u32 y.ds) ∧ W.cell? ⟨gb, 3, none⟩ = some (.int .i64 y.sp) ∧ W.cell? ⟨gb, 4, none⟩ = some (.int .i64 y.dp) ∧ W.cell? ⟨gc, 0, none⟩ = some (.int .i64 t.pr) ∧ W.cell? ⟨gc, 1, none⟩ = some (.int .u32 t.sr) ∧ W.cell? ⟨gc, 2, none⟩ = some (.int .u32 t.ds) ∧ W.cell? ⟨gc, 3, none⟩ = some (.int .i64 t.sp) ∧ W.cell? ⟨gc, 4, none⟩ = some (.int .i64 t.dp))) : (Keeps w W' (fun _ => False) ∧ W'.cell? ⟨ga, 0, none⟩ = some (.int .i64 y.pr) ∧ W'.cell? ⟨ga, 1, none⟩ = some (.int .u32 y.sr) ∧ W'.cell? ⟨ga, 2, none⟩ = some (.int .u32 y.ds) ∧ W'.cell? ⟨ga, 3, none⟩ = some (.int .i64 y.sp) ∧ W'.cell? ⟨ga, 4, none⟩ = some (.int .i64 y.dp) ∧ W'.cell? ⟨gb, 0, none⟩ = some (.int .i64 y.pr) ∧ W'.cell? ⟨gb, 1, none⟩ = some (.int .u32 y.sr) ∧ W'.cell? ⟨gb, 2, none⟩ = some (.int .u32 y.ds) ∧ W'.cell? ⟨gb, 3, none⟩ = some (.int .i64 y.sp) ∧ W'.cell? ⟨gb, 4, none⟩ = some (.int .i64 y.dp) ∧ W'.cell? ⟨gc, 0, none⟩ = some (.int .i64 t.pr) ∧ W'.cell? ⟨gc, 1, none⟩ = some (.int .u32 t.sr) ∧ W'.cell? ⟨gc, 2, none⟩ = some (.int .u32 t.ds) ∧ W'.cell? ⟨gc, 3, none⟩ = some (.int .i64 t.sp) ∧ W'.cell? ⟨gc, 4, none⟩ = some (.int .i64 t.dp)) :=
  ⟨h.1.trans hk (fun _ h => h.elim), keep_cell hk h.2.1, keep_cell hk h.2.2.1, keep_cell hk h.2.2.2.1, keep_cell hk h.2.2.2.2.1, keep_cell hk h.2.2.2.2.2.1, keep_cell hk h.2.2.2.2.2.2.1, keep_cell hk h.2.2.2.2.2.2.2.1, keep_cell hk h.2.2.2.2.2.2.2.2.1, keep_cell hk h.2.2.2.2.2.2.2.2.2.1, keep_cell hk h.2.2.2.2.2.2.2.2.2.2.1, keep_cell hk h.2.2.2.2.2.2.2.2.2.2.2.1, keep_cell hk h.2.2.2.2.2.2.2.2.2.2.2.2.1, keep_cell hk h.2.2.2.2.2.2.2.2.2.2.2.2.2.1, keep_cell hk h.2.2.2.2.2.2.2.2.2.2.2.2.2.2.1, keep_cell hk h.2.2.2.2.2.2.2.2.2.2.2.2.2.2.2⟩
set_option maxHeartbeats 4000000 in
theorem tuples_any (p : Pk) (hp : p.ok) (t : Tup) (w : World) : Calls Try.prog 3 #[p.v, t.v] w fun e w' => e = .returned (.bool true) ∧ Keeps w w' (fun _ => False) := by
  have STB := any_stab
  have HST : St w (fun _ => False) Any w [] := St.start trivial
  have hov : ∃ (y : Tup) (k : Bool), ofV p = .tuple #[y.v, .bool k] := ⟨_, _, rfl⟩
  obtain ⟨y, k, hov⟩ := hov
  go_enter Try.func3, Try.ntmps3
  go_wp2_with (first | ((with_reducible refine gate_box rfl ?_); refine st_box (by rfl) _ _ rfl HST STB ⟨?_, _, ?_, rfl, ?_⟩; rotate_left; (focus (first | (go_simp; rfl) | rfl)); clear HST; intro g w1 hg hb HST; clear hg hb) | ((with_reducible refine gate_alloc rfl ?_); refine st_alloc rfl _ rfl HST STB _ zinfo35 _ rfl ?_; clear HST; intro g w1 hg hb HST; clear hg hb) | ((with_reducible refine gate_load rfl ?_); first | refine ld_whole rfl 33 _ rfl _ rfl (HST.at_ 1 at1) agg33 36 sinfo33 rfl ?_ | refine ld_whole rfl 33 _ rfl _ rfl (HST.at_ 2 at2) agg33 36 sinfo33 rfl ?_) | (go_at_call 7; refine (of_any p hp _).mono ?_; rintro e w3 ⟨rfl, hb⟩; rw [hov]; replace HST := HST.below STB hb; clear hb) | (go_at_call 8; refine (of_ref p hp _).mono ?_; rintro e w3 ⟨rfl, hb⟩; rw [hov]; replace HST := HST.below STB hb; clear hb) | ((with_reducible refine gate_store rfl ?_); refine st_tup rfl _ _ rfl HST STB trivial 0 _ _ _ rfl rfl at0 _ set0 ?_; clear HST; intro w1 HST))
  rename_i gd _ gc _ _ gb _ _ _ _ _
  have hga : ∃ ga, ga = g := ⟨g, rfl⟩
  obtain ⟨ga, rfl⟩ := hga
  have STD := HST.drew STB
  obtain ⟨ha0, ha1, ha2, ha3, ha4⟩ := cells_of35 (STD.at_ 0 at0)
  obtain ⟨hb0, hb1, hb2, hb3, hb4⟩ := cells_of35 (STD.at_ 1 at1)
  obtain ⟨hc0, hc1, hc2, hc3, hc4⟩ := cells_of35 (STD.at_ 2 at2)
  have hS : (Keeps w w1.drew (fun _ => False) ∧ w1.drew.cell? ⟨ga, 0, none⟩ = some (.int .i64 y.pr) ∧ w1.drew.cell? ⟨ga, 1, none⟩ = some (.int .u32 y.sr) ∧ w1.drew.cell? ⟨ga, 2, none⟩ = some (.int .u32 y.ds) ∧ w1.drew.cell? ⟨ga, 3, none⟩ = some (.int .i64 y.sp) ∧ w1.drew.cell? ⟨ga, 4, none⟩ = some (.int .i64 y.dp) ∧ w1.drew.cell? ⟨gb, 0, none⟩ = some (.int .i64 y.pr) ∧ w1.drew.cell? ⟨gb, 1, none⟩ = some (.int .u32 y.sr) ∧ w1.drew.cell? ⟨gb, 2, none⟩ = some (.int .u32 y.ds) ∧ w1.drew.cell? ⟨gb, 3, none⟩ = some (.int .i64 y.sp) ∧ w1.drew.cell? ⟨gb, 4, none⟩ = some (.int .i64 y.dp) ∧ w1.drew.cell? ⟨gc, 0, none⟩ = some (.int .i64 t.pr) ∧ w1.drew.cell? ⟨gc, 1, none⟩ = some (.int .u32 t.sr) ∧ w1.drew.cell? ⟨gc, 2, none⟩ = some (.int .u32 t.ds) ∧ w1.drew.cell? ⟨gc, 3, none⟩ = some (.int .i64 t.sp) ∧ w1.drew.cell? ⟨gc, 4, none⟩ = some (.int .i64 t.dp)) := ⟨STD.keeps, ha0, ha1, ha2, ha3, ha4, hb0, hb1, hb2, hb3, hb4, hc0, hc1, hc2, hc3, hc4⟩
  clear ha0 ha1 ha2 ha3 ha4 hb0 hb1 hb2 hb3 hb4 hc0 hc1 hc2 hc3 hc4 STD hov
  have e1 : ∀ W, (binOp .eql 35 y.v y.v).run Try.prog W = .ok (.bool true) W := fun W => by rw [eql35]; simp
  have e2 : ∀ W, (binOp .eql 35 t.turned.v t.turned.v).run Try.prog W = .ok (.bool true) W := fun W => by rw [eql35]; simp
  have e3 : ∀ W, (binOp .eql 35 t.turned.turned.v t.v).run Try.prog W = .ok (.bool true) W := fun W => by rw [eql35]; simp [Tup.turned_turned]
  clear HST
  go_region_held3 (fun w' => (Keeps w w' (fun _ => False) ∧ w'.cell? ⟨ga, 0, none⟩ = some (.int .i64 y.pr) ∧ w'.cell? ⟨ga, 1, none⟩ = some (.int .u32 y.sr) ∧ w'.cell? ⟨ga, 2, none⟩ = some (.int .u32 y.ds) ∧ w'.cell? ⟨ga, 3, none⟩ = some (.int .i64 y.sp) ∧ w'.cell? ⟨ga, 4, none⟩ = some (.int .i64 y.dp) ∧ w'.cell? ⟨gb, 0, none⟩ = some (.int .i64 y.pr) ∧ w'.cell? ⟨gb, 1, none⟩ = some (.int .u32 y.sr) ∧ w'.cell? ⟨gb, 2, none⟩ = some (.int .u32 y.ds) ∧ w'.cell? ⟨gb, 3, none⟩ = some (.int .i64 y.sp) ∧ w'.cell? ⟨gb, 4, none⟩ = some (.int .i64 y.dp) ∧ w'.cell? ⟨gc, 0, none⟩ = some (.int .i64 t.pr) ∧ w'.cell? ⟨gc, 1, none⟩ = some (.int .u32 t.sr) ∧ w'.cell? ⟨gc, 2, none⟩ = some (.int .u32 t.ds) ∧ w'.cell? ⟨gc, 3, none⟩ = some (.int .i64 t.sp) ∧ w'.cell? ⟨gc, 4, none⟩ = some (.int .i64 t.dp))) (exact hS)
    (first
      | (go_at_call 9; refine (lives_any _).mono ?_; rintro e w4 ⟨rfl, hk4⟩; have hS := tk_keep hk4 hS)
      | (go_at_call_of 10 (Value.int .i64 t.pr); refine (turned_any t _).mono ?_; rintro e w4 ⟨rfl, hk4⟩; have hS := tk_keep (Keeps.of_below hk4 _) hS)
      | (go_at_call_of 10 (Tup.turned t); refine (turned_any t.turned _).mono ?_; rintro e w4 ⟨rfl, hk4⟩; have hS := tk_keep (Keeps.of_below hk4 _) hS)
      | (go_at_call 11; refine (turned_ref t _).mono ?_; rintro e w4 ⟨rfl, hk4⟩; have hS := tk_keep (Keeps.of_below hk4 _) hS))
  all_goals go_wp2
  all_goals go_ret
  all_goals exact ⟨rfl, hS.1⟩

end Go.Proofs.Ytomfgdkmkacebaa
