/- The table's own functions that find and drop connections: made, drop, live. Conditions: the table is as Tab says. -/
import Derived.Test.YtomfgdkmkacebaaR
import Derived.LaidEqlPtr
namespace Go.Proofs.Ytomfgdkmkacebaa
open Go.RowKit Go.MapKept
open Go.ChangeMaps (setBlock)
set_option linter.unusedSimpArgs false
set_option linter.unusedVariables false

theorem tab_stab (tb mo mr : Nat) (room now : Int) (L : List (Nat × Cn)) : Stab (fun w => Tab w tb mo mr room now L) (fun t => t ≠ 65 ∧ t ≠ 71) := by
  refine ⟨fun w w' h hb => h.below hb, fun w g cs cs' t ht hg h => h.same fun i hi => setRow_other w g i cs' (fun e => ?_)⟩
  exact h.not_own hg ht.1 ht.2 (e ▸ hi)

/-- The table has turned; the own blocks have not. -/
theorem St.turn {w0 w w' : World} {S S' : Nat → Prop} {F F' : World → Prop} {bs : List Blk} (h : St w0 S F w bs) (hk : Keeps w w' S') (hs : ∀ i, S' i → S i ∨ w0.heap.size ≤ i) (hb : ∀ b ∈ bs, ¬ S' b.1) (hF : F' w') : St w0 S F' w' bs :=
  ⟨h.keeps.trans hk hs, fun b hm => (hk.block _ (heap_lt (h.has b hm)) (hb b hm)).trans (h.has b hm), h.new, h.nd, hF⟩

section
variable {w : World} {tb mo mr : Nat} {room now : Int} {L : List (Nat × Cn)}

theorem Tab.c0 (h : Tab w tb mo mr room now L) : w.cell? ⟨tb, 0, none⟩ = some (.int .i64 room) := cell_at h.cell 0
theorem Tab.c1 (h : Tab w tb mo mr room now L) : w.cell? ⟨tb, 1, none⟩ = some (.int .i64 now) := cell_at h.cell 1
theorem Tab.c2 (h : Tab w tb mo mr room now L) : w.cell? ⟨tb, 2, none⟩ = some (.map (some mo)) := cell_at h.cell 2
theorem Tab.c3 (h : Tab w tb mo mr room now L) : w.cell? ⟨tb, 3, none⟩ = some (.map (some mr)) := cell_at h.cell 3

theorem made_any (h : Tab w tb mo mr room now L) : Calls Try.prog 24 #[.pointer (some ⟨tb, 0, none⟩)] w fun e w' => e = .returned (.bool true) ∧ w = w' := by
  have c2 := h.c2
  have hn := Go.run_neq_map_nil (P := Try.prog) w 63 80 67 (some mo) Try.underlying63
  clear h
  go_enter Try.func24, Try.ntmps24
  go_wp2
  go_ret
  exact ⟨rfl, rfl⟩

theorem live_nil (h : Tab w tb mo mr room now L) : Calls Try.prog 32 #[.pointer (some ⟨tb, 0, none⟩), .pointer none] w fun e w' => e = .returned (.pointer none) ∧ ∃ n, w' = w.drewN n := by
  have c1 := h.c1
  clear h
  go_enter Try.func32, Try.ntmps32
  go_wp2
  go_quiet (fail)
  go_wp2
  go_ret
  exact ⟨rfl, _, rfl⟩

theorem live_keep (h : Tab w tb mo mr room now L) {p : Nat × Cn} (hp : p ∈ L) (he : now < p.2.exp) : Calls Try.prog 32 #[.pointer (some ⟨tb, 0, none⟩), .pointer (some ⟨p.1, 0, none⟩)] w fun e w' => e = .returned (.pointer (some ⟨p.1, 0, none⟩)) ∧ ∃ n, w' = w.drewN n := by
  have c1 := h.c1
  have d12 : w.cell? ⟨p.1, 12, none⟩ = some (.int .i64 p.2.exp) := cell_at (h.cn p hp) 12
  have hd : decide (p.2.exp ≤ now) = false := decide_eq_false (by omega)
  clear h hp he
  go_enter Try.func32, Try.ntmps32
  go_wp2
  go_quiet (fail)
  go_wp2
  go_ret
  exact ⟨rfl, _, rfl⟩
theorem set_keep (w : World) (b : Nat) (o : Obj) : Keeps w (setBlock w b o) (fun i => i = b) := (Keeps.refl w (fun i => i = b)).set (.inl rfl) o
theorem drew_keep (w : World) (S : Nat → Prop) : Keeps w w.drew S := (Keeps.refl w S).drew
/-- behind the first map's turn -/
theorem Tab.half {w1 : World} (h : Tab w tb mo mr room now L) (hk : Keeps w w1 (fun i => i = mo)) : w1.heap[tb]? = some (.cells #[.int .i64 room, .int .i64 now, .map (some mo), .map (some mr)] 65 (0, 0)) ∧ Ents Try.prog 80 w1 mr (L.map fun p => (keyV p.2.zone p.2.rep, p.1)) ∧ (∀ q ∈ L, w1.heap[q.1]? = some (.cells q.2.cells 71 (0, 0))) :=
  ⟨(hk.block tb (heap_lt h.cell) h.tb_ne.1).trans h.cell, h.rm.same (hk.block mr h.rm.lt (Ne.symm h.ne)), fun q hp => (hk.block q.1 (heap_lt (h.cn q hp)) (h.cn_ne hp).2.1).trans (h.cn q hp)⟩
theorem Tab.whole {w1 w2 : World} {L' : List (Nat × Cn)} {p : Nat × Cn} (h : Tab w tb mo mr room now (p :: L')) (hk : Keeps w w1 (fun i => i = mo)) (h1 : Ents Try.prog 80 w1 mo (L'.map fun p => (keyV p.2.zone p.2.orig, p.1)))
    (hk2 : Keeps w1 w2 (fun i => i = mr)) (h2 : Ents Try.prog 80 w2 mr (L'.map fun p => (keyV p.2.zone p.2.rep, p.1))) : Tab w2 tb mo mr room now L' := by
  obtain ⟨a1, a2, a3⟩ := h.half hk
  have hne := h.tb_ne
  refine ⟨(hk2.block tb (heap_lt a1) hne.2).trans a1, h1.same (hk2.block mo h1.lt h.ne), h2, h.ne, fun q hq => ?_, fun q hq => h.ok q (List.mem_cons_of_mem _ hq), (List.nodup_cons.1 (by simpa using h.nd)).2⟩
  have hq' := List.mem_cons_of_mem p hq
  exact (hk2.block q.1 (heap_lt (a3 q hq')) (h.cn_ne hq').2.2).trans (a3 q hq')
set_option maxHeartbeats 400000 in
theorem drop_any (h : Tab w tb mo mr room now L) {p : Nat × Cn} {L' : List (Nat × Cn)} (hp : L.Perm (p :: L')) : Calls Try.prog 31 #[.pointer (some ⟨tb, 0, none⟩), .pointer (some ⟨p.1, 0, none⟩)] w fun e w' => e = .returned (.tuple #[]) ∧ Tab w' tb mo mr room now L' ∧ Keeps w w' (fun i => i = mo ∨ i = mr) := by
  have h2 := h.perm hp
  have c2 := h.c2
  have hm : p ∈ p :: L' := List.mem_cons_self
  have hcc := cell_at (h2.cn p hm)
  obtain ⟨hz, ho, hr⟩ := h2.ok p hm
  obtain ⟨l1, k1⟩ := key_reads hz ho
  obtain ⟨l2, k2⟩ := key_reads hz hr
  clear h hz ho hr
  go_enter Try.func31, Try.ntmps31
  go_wp2
  go_still_tail 13, (by kernel_rfl)
  change wpList _ _ _ _ _ w.drew
  refine wpList_drop rfl _ _ 63 67 rfl law80 Try.underlying63 h2.drew.om _ _ p.1 _ rfl rfl k1 (List.Perm.refl _) ?_
  intro ob hE
  have K1 := (drew_keep w (fun i => i = mo)).trans (set_keep w.drew mo ob) (fun i hi => .inl hi)
  obtain ⟨a1, a2, a3⟩ := h2.half K1
  have c3 : (setBlock w.drew mo ob).cell? ⟨tb, 3, none⟩ = some (.map (some mr)) := cell_at a1 3
  have hc1 := cell_at (a3 p hm)
  clear c2 hcc a1 a3
  generalize setBlock w.drew mo ob = w1 at hE K1 a2 c3 hc1 ⊢
  go_wp2
  go_still_tail 13, (by kernel_rfl)
  change wpList _ _ _ _ _ w1.drew
  refine wpList_drop rfl _ _ 63 67 rfl law80 Try.underlying63 (w := w1.drew) (a2.same rfl) _ _ p.1 _ rfl rfl k2 (List.Perm.refl _) ?_
  intro ob2 hE2
  have K2 := (drew_keep w1 (fun i => i = mr)).trans (set_keep w1.drew mr ob2) (fun i hi => .inl hi)
  generalize setBlock w1.drew mr ob2 = w2 at hE2 K2 ⊢
  go_wp2
  go_end0
  exact ⟨rfl, h2.whole K1 hE K2 hE2, (K1.mono (fun i _ hi => .inl hi)).trans K2 (fun i hi => .inl (.inr hi))⟩

theorem live_drop (h : Tab w tb mo mr room now L) {p : Nat × Cn} {L' : List (Nat × Cn)} (hp : L.Perm (p :: L')) (he : p.2.exp ≤ now) : Calls Try.prog 32 #[.pointer (some ⟨tb, 0, none⟩), .pointer (some ⟨p.1, 0, none⟩)] w fun e w' => e = .returned (.pointer none) ∧ Tab w' tb mo mr room now L' ∧ Keeps w w' (fun i => i = mo ∨ i = mr) := by
  have c1 := h.c1
  have hm : p ∈ L := hp.mem_iff.2 (List.mem_cons_self)
  have d12 : w.cell? ⟨p.1, 12, none⟩ = some (.int .i64 p.2.exp) := cell_at (h.cn p hm) 12
  have hd : decide (p.2.exp ≤ now) = true := decide_eq_true he
  have HT := Lib.hid h
  clear h hm he
  go_enter Try.func32, Try.ntmps32
  go_wp2
  go_quiet (fail)
  have HT2 := Lib.hid (HT.out.drewN nq)
  go_wp2_with (go_at_call 31; refine (drop_any HT2.out hp).mono ?_; rintro e w2 ⟨rfl, ht2, hk2⟩)
  go_ret
  exact ⟨rfl, ht2, ((Keeps.refl w _).drewN nq).trans hk2 (fun i hi => .inl hi)⟩
end
end Go.Proofs.Ytomfgdkmkacebaa
