/- The table's connections of a zone that are there still: of. Conditions: the table is as Tab says and holds at most a million connections. -/
import Derived.Test.YtomfgdkmkacebaaG
import Derived.Deep.AppendLies
namespace Go.Proofs.Ytomfgdkmkacebaa
open Go.RowKit Go.MapKept
open Go.ChangeMaps (setBlock)
set_option linter.unusedSimpArgs false
set_option linter.unusedVariables false

def ptrV (p : Nat × Cn) : Value := .pointer (some ⟨p.1, 0, none⟩)
theorem info67 : (Try.prog.info? 67).map (fun i => (i.zero, i.size, i.bytes)) = some (some (.pointer none), 1, 8) := by kernel_rfl

section
variable {w : World} {tb mo mr : Nat} {room now : Int} {L : List (Nat × Cn)}

theorem gate_next {P : Program} {w : World} {ops : Array Oper} {rest : List Oper} {o : Oper} {a : Act} {Q : Exit → Act → World → Prop} {x : Operand} (ho : o.op = .next x false) (h : wpList P ops Q (o :: rest) a w) : wpList P ops Q (o :: rest) a w := h
theorem zinfo80 : (Try.prog.info? 80).map (·.zero) = some (some (.agg #[.int .i64 0, .int .i64 0, .int .u32 0, .int .u32 0, .int .i64 0, .int .i64 0])) := by kernel_rfl
theorem owns_same {w w' : World} {B : Nat} {v : Value} {n : Nat} {xs : List Value} {t : TypeId} (h : w.ownsRow B t 1 v n xs) (hs : ∀ (g : Nat) (cs : Array Value), w.heap[g]? = some (Obj.cells cs t (0, 0)) → w'.heap[g]? = w.heap[g]?) : w'.ownsRow B t 1 v n xs := by
  refine ⟨h.1, ?_⟩
  rcases h.2 with hn | ⟨g, cap, cur, hv, hb, hg, rest⟩
  · exact .inl hn
  · exact .inr ⟨g, cap, cur, hv, hb, (hs g _ hg).trans hg, rest⟩
def OfF (r mo B tb mr : Nat) (room now : Int) (L : List (Nat × Cn)) (clock : Nat) (seen : Array Nat) (v : Value) (n : Nat) (xs : List Value) (W : World) : Prop :=
  Tab W tb mo mr room now L ∧ W.heap[r]? = some (.mapIter (some mo) clock seen clock) ∧ W.ownsRow B 67 1 v n xs
theorem ofF_stab (r mo B tb mr : Nat) (room now : Int) (L : List (Nat × Cn)) (clock : Nat) (seen : Array Nat) (v : Value) (n : Nat) (xs : List Value) : Stab (OfF r mo B tb mr room now L clock seen v n xs) (fun t => t = 80) := by
  refine ⟨fun w w' h hb => ⟨h.1.below hb, (hb.block r (heap_lt h.2.1)).trans h.2.1, owns_same h.2.2 fun g cs hg => hb.block g (heap_lt hg)⟩, fun w g cs cs' t ht hg h => ⟨h.1.same fun i hi => setRow_other w g i cs' (fun e => ?_), (setRow_other w g r cs' (fun e => ?_)).trans h.2.1, owns_same h.2.2 fun k cs2 hk => setRow_other w g k cs' (fun e => ?_)⟩⟩
  · subst ht
    exact h.1.not_own hg (by decide) (by decide) (e ▸ hi)
  · rw [← e, h.2.1] at hg
    cases hg
  · subst ht
    rw [← e, hk] at hg
    simp at hg
theorem gate_app {P : Program} {w : World} {ops : Array Oper} {rest : List Oper} {o : Oper} {a : Act} {Q : Exit → Act → World → Prop} {x y : Operand} {t : TypeId} (ho : o.op = .call { callee := .builtin .append, args := #[x, y], argTypes := #[t, t] }) (h : wpList P ops Q (o :: rest) a w) : wpList P ops Q (o :: rest) a w := h
theorem own_row {w : World} {B : Nat} {t : TypeId} {v : Value} {n : Nat} {xs : List Value} (h : w.ownsRow B t 1 v n xs) {k : Nat} (hk : v.ownBlock = some k) : B ≤ k ∧ ∃ cs, w.heap[k]? = some (.cells cs t (0, 0)) := by
  rcases h.2 with ⟨rfl, _⟩ | ⟨g, cap, cur, rfl, hb, hg, _⟩
  · simp [Value.ownBlock] at hk
  · simp [Value.ownBlock] at hk
    subst hk
    exact ⟨hb, cur, hg⟩
/-- The loop's state. -/
structure OfS (w : World) (mo r : Nat) (es : Array MapEntry) (clock : Nat) (z now : Int) (L : List (Nat × Cn)) (k : Nat) (v : Value) (wr : World) : Prop where
  keeps : Keeps w wr (fun _ => False)
  st : ∃ seen Sn Lf V, wr.heap[r]? = some (.mapIter (some mo) clock seen clock) ∧ (leftOf es seen).size = k ∧ L.Perm (Sn ++ Lf) ∧ ((leftOf es seen).toList.map fun e => (e.key, e.val)).Perm (Lf.map kvOf) ∧
    V = Sn.filter (selB z now) ∧ wr.ownsRow w.heap.size 67 1 v V.length (V.map ptrV)

set_option maxHeartbeats 1000000 in
theorem zoned_any (h : Tab w tb mo mr room now L) (hlen : L.length ≤ 1000000) (z : Int) : Calls Try.prog 30 #[.pointer (some ⟨tb, 0, none⟩), .int .i64 z] w fun e w' => ∃ v, ∃ V : List (Nat × Cn), e = .returned v ∧ V.Perm (L.filter (selB z now)) ∧ w'.ownsRow w.heap.size 67 1 v V.length (V.map ptrV) ∧ Tab w' tb mo mr room now L ∧ Keeps w w' (fun _ => False) := by
  have c2 := h.c2
  obtain ⟨es, clock, hb, hst, hmax, hkeys, hperm⟩ := h.om
  have HT := Lib.hid h
  have hrg := run_range_map (P := Try.prog) w 63 80 67 mo es clock Try.underlying63 hb
  clear h
  go_enter Try.func30, Try.ntmps30
  go_wp2_with (go_at_call 24; refine (made_any HT.out).mono ?_; rintro e w' ⟨rfl, rfl⟩)
  clear hrg c2
  have K0 : Keeps w (w.alloc (.mapIter (some mo) clock #[] clock)) (fun _ => False) := (Keeps.refl _ _).alloc _
  have R0 : (w.alloc (.mapIter (some mo) clock #[] clock)).heap[w.heap.size]? = some (.mapIter (some mo) clock #[] clock) := heap_alloc_new w _
  have hr : ∃ r, r = w.heap.size := ⟨_, rfl⟩
  obtain ⟨r, hr⟩ := hr
  rw [← hr] at R0 ⊢
  generalize w.alloc (.mapIter (some mo) clock #[] clock) = w1 at K0 R0 ⊢
  have A := Lib.hid (And.intro hr (And.intro hb (And.intro hst (And.intro hmax (And.intro hkeys hperm)))))
  clear hr hb hst hmax hkeys hperm
  go_loopg [5] ((leftOf es #[]).size) (OfS w mo r es clock z now L)
  · refine ⟨K0, #[], [], L, [], R0, rfl, List.Perm.refl _, ?_, rfl, World.ownsRow_nil _ _ _ _⟩
    have hl : leftOf es #[] = es := by simp [leftOf]
    rw [hl]
    have hp := A.out.2.2.2.2.2
    rw [List.map_map] at hp
    exact hp
  · obtain ⟨K1, seen, Sn, Lf, V, R1, hk, hL, hLf, hV, hown⟩ := hrel
    have hne : r ≠ mo := by
      have := heap_lt A.out.2.1
      have := A.out.1
      omega
    have hb1 : wr.heap[mo]? = some (.map es clock) := (K1.block mo (heap_lt A.out.2.1) (fun h => h)).trans A.out.2.1
    have hold : ∀ x ∈ es.toList, x.born < clock := ((stamped_iff es clock).1 A.out.2.2.1).1
    have T1 := Lib.hid (HT.out.keeps K1 (fun _ _ h => h))
    go_wp2_with ((with_reducible refine gate_next rfl ?_); refine wpList_next_e rfl _ rfl r mo clock clock seen es clock rfl R1 hb1 A.out.2.2.1 hold (Nat.le_refl _) hne ?_ ?_)
    · intro h0
      go_wp2
      go_ret
      have hLn : Lf = [] := by
        have := hLf.length_eq
        simp at this
        exact List.eq_nil_of_length_eq_zero (by omega)
      subst hLn
      refine ⟨u5, V, rfl, ?_, hown, T1.out, K1⟩
      rw [hV]
      simpa using (hL.symm.filter (selB z now))
    · intro e W he R2 K2 hent
      have hmem : e ∈ (leftOf es seen).toList := by simpa using he
      obtain ⟨p, hp, hpe⟩ := List.mem_map.1 (hLf.mem_iff.1 (List.mem_map_of_mem (f := fun e : MapEntry => (e.key, e.val)) hmem))
      obtain ⟨s, t, rfl⟩ := List.append_of_mem hp
      have hLf2 : (s ++ p :: t).Perm (p :: (s ++ t)) := List.perm_middle
      have hLf3 : ((leftOf es (seen.push e.born)).toList.map fun e => (e.key, e.val)).Perm ((s ++ t).map kvOf) := by
        have h1 := ((left_perm A.out.2.2.1 hmem).map (fun e : MapEntry => (e.key, e.val))).symm.trans (hLf.trans (hLf2.map kvOf))
        simp only [List.map_cons] at h1
        rw [hpe] at h1
        exact (List.perm_cons _).1 h1
      have hk2 : (leftOf es (seen.push e.born)).size < gk := by
        have := (left_perm A.out.2.2.1 hmem).length_eq
        simp at this
        omega
      have hL2 : L.Perm ((Sn ++ [p]) ++ (s ++ t)) := hL.trans (by
        rw [List.append_assoc]
        exact List.Perm.append_left Sn hLf2)
      have hpL : p ∈ L := hL2.mem_iff.2 (by simp)
      have K3 : Keeps w W (fun _ => False) := K1.trans K2 (fun i hi => .inr (by have := A.out.1; omega))
      have HF : OfF r mo w.heap.size tb mr room now L clock (seen.push e.born) u5 V.length (V.map ptrV) W :=
        ⟨HT.out.keeps K3 (fun _ _ h => h), R2, owns_same hown fun g cs hg => K2.block g (heap_lt hg) (fun e => by rw [e, R1] at hg; cases hg)⟩
      have HST : St W (fun _ => False) (OfF r mo w.heap.size tb mr room now L clock (seen.push e.born) u5 V.length (V.map ptrV)) W [] := St.start HF
      have STB := ofF_stab r mo w.heap.size tb mr room now L clock (seen.push e.born) u5 V.length (V.map ptrV)
      simp only [kvOf, Prod.mk.injEq] at hpe
      rw [← hpe.1, ← hpe.2] at hent
      have B1 := Lib.hid (And.intro hLf3 (And.intro hk2 (And.intro hL2 (And.intro K3 hV))))
      clear hLf hk hLf2 hLf3 hk2 hL2 K3 hpe he hmem hp hL hown R1 hb1 hold K1 K2 R2 HF T1 hV
      go_wp2_with (first | ((with_reducible refine gate_alloc rfl ?_); refine st_alloc rfl _ rfl HST STB _ zinfo80 _ rfl ?_; clear HST; intro g w1 hg hb HST; clear hg; (try clear hq0); (try clear hq1); have hq0 := cell_at (HST.at_ 0 at0); try (have hq1 := cell_at (HST.at_ 1 at1))) | ((with_reducible refine gate_store rfl ?_); (first | (refine st_store rfl _ _ _ rfl _ _ rfl HST STB ?_ ?_ (#[.int .i64 p.2.zone, .int .i64 p.2.orig.pr, .int .u32 p.2.orig.sr, .int .u32 p.2.orig.ds, .int .i64 p.2.orig.sp, .int .i64 p.2.orig.dp]) ⟨?_, _, _, 0, _, ?_, ?_, at0, ?_, ?_, ?_, ?_, set0, ?_⟩; rotate_left 3; (focus (first | (go_simp; rfl) | rfl)); (focus rfl); (focus (first | trivial | decide | simp)); (focus rfl); (focus rfl); (focus rfl); rotate_left; (focus (first | exact sinfo3 | exact sinfo25 | exact sinfo4 | exact sinfo22 | exact sinfo33 | exact sinfo35 | exact sinfo47 | exact sinfo29 | exact sinfo31 | exact sinfo63 | exact sinfo67 | exact sinfo80 | exact sinfo71))) | (refine st_store rfl _ _ _ rfl _ _ rfl HST STB ?_ ?_ (#[.int .i64 p.2.zone, .int .i64 p.2.orig.pr, .int .u32 p.2.orig.sr, .int .u32 p.2.orig.ds, .int .i64 p.2.orig.sp, .int .i64 p.2.orig.dp]) ⟨?_, _, _, 1, _, ?_, ?_, at1, ?_, ?_, ?_, ?_, set1, ?_⟩; rotate_left 3; (focus (first | (go_simp; rfl) | rfl)); (focus rfl); (focus (first | trivial | decide | simp)); (focus rfl); (focus rfl); (focus rfl); rotate_left; (focus (first | exact sinfo3 | exact sinfo25 | exact sinfo4 | exact sinfo22 | exact sinfo33 | exact sinfo35 | exact sinfo47 | exact sinfo29 | exact sinfo31 | exact sinfo63 | exact sinfo67 | exact sinfo80 | exact sinfo71))) | (refine st_store rfl _ _ _ rfl _ _ rfl HST STB ?_ ?_ (#[.int .i64 p.2.zone, .int .i64 p.2.orig.pr, .int .u32 p.2.orig.sr, .int .u32 p.2.orig.ds, .int .i64 p.2.orig.sp, .int .i64 p.2.orig.dp]) ⟨?_, _, _, 2, _, ?_, ?_, at2, ?_, ?_, ?_, ?_, set2, ?_⟩; rotate_left 3; (focus (first | (go_simp; rfl) | rfl)); (focus rfl); (focus (first | trivial | decide | simp)); (focus rfl); (focus rfl); (focus rfl); rotate_left; (focus (first | exact sinfo3 | exact sinfo25 | exact sinfo4 | exact sinfo22 | exact sinfo33 | exact sinfo35 | exact sinfo47 | exact sinfo29 | exact sinfo31 | exact sinfo63 | exact sinfo67 | exact sinfo80 | exact sinfo71))) | (refine st_store rfl _ _ _ rfl _ _ rfl HST STB ?_ ?_ (#[.int .i64 p.2.zone, .int .i64 p.2.orig.pr, .int .u32 p.2.orig.sr, .int .u32 p.2.orig.ds, .int .i64 p.2.orig.sp, .int .i64 p.2.orig.dp]) ⟨?_, _, _, 3, _, ?_, ?_, at3, ?_, ?_, ?_, ?_, set3, ?_⟩; rotate_left 3; (focus (first | (go_simp; rfl) | rfl)); (focus rfl); (focus (first | trivial | decide | simp)); (focus rfl); (focus rfl); (focus rfl); rotate_left; (focus (first | exact sinfo3 | exact sinfo25 | exact sinfo4 | exact sinfo22 | exact sinfo33 | exact sinfo35 | exact sinfo47 | exact sinfo29 | exact sinfo31 | exact sinfo63 | exact sinfo67 | exact sinfo80 | exact sinfo71))) | (refine st_store rfl _ _ _ rfl _ _ rfl HST STB ?_ ?_ (#[.int .i64 p.2.zone, .int .i64 p.2.orig.pr, .int .u32 p.2.orig.sr, .int .u32 p.2.orig.ds, .int .i64 p.2.orig.sp, .int .i64 p.2.orig.dp]) ⟨?_, _, _, 4, _, ?_, ?_, at4, ?_, ?_, ?_, ?_, set4, ?_⟩; rotate_left 3; (focus (first | (go_simp; rfl) | rfl)); (focus rfl); (focus (first | trivial | decide | simp)); (focus rfl); (focus rfl); (focus rfl); rotate_left; (focus (first | exact sinfo3 | exact sinfo25 | exact sinfo4 | exact sinfo22 | exact sinfo33 | exact sinfo35 | exact sinfo47 | exact sinfo29 | exact sinfo31 | exact sinfo63 | exact sinfo67 | exact sinfo80 | exact sinfo71))) | (refine st_store rfl _ _ _ rfl _ _ rfl HST STB ?_ ?_ (#[.int .i64 p.2.zone, .int .i64 p.2.orig.pr, .int .u32 p.2.orig.sr, .int .u32 p.2.orig.ds, .int .i64 p.2.orig.sp, .int .i64 p.2.orig.dp]) ⟨?_, _, _, 5, _, ?_, ?_, at5, ?_, ?_, ?_, ?_, set5, ?_⟩; rotate_left 3; (focus (first | (go_simp; rfl) | rfl)); (focus rfl); (focus (first | trivial | decide | simp)); (focus rfl); (focus rfl); (focus rfl); rotate_left; (focus (first | exact sinfo3 | exact sinfo25 | exact sinfo4 | exact sinfo22 | exact sinfo33 | exact sinfo35 | exact sinfo47 | exact sinfo29 | exact sinfo31 | exact sinfo63 | exact sinfo67 | exact sinfo80 | exact sinfo71))) | (refine st_store rfl _ _ _ rfl _ _ rfl HST STB ?_ ?_ (#[.int .i64 p.2.zone, .int .i64 p.2.orig.pr, .int .u32 p.2.orig.sr, .int .u32 p.2.orig.ds, .int .i64 p.2.orig.sp, .int .i64 p.2.orig.dp]) ⟨?_, _, _, 6, _, ?_, ?_, at6, ?_, ?_, ?_, ?_, set6, ?_⟩; rotate_left 3; (focus (first | (go_simp; rfl) | rfl)); (focus rfl); (focus (first | trivial | decide | simp)); (focus rfl); (focus rfl); (focus rfl); rotate_left; (focus (first | exact sinfo3 | exact sinfo25 | exact sinfo4 | exact sinfo22 | exact sinfo33 | exact sinfo35 | exact sinfo47 | exact sinfo29 | exact sinfo31 | exact sinfo63 | exact sinfo67 | exact sinfo80 | exact sinfo71)))); clear HST; intro w1 hk HST; clear hk; (try clear hq0); (try clear hq1); have hq0 := cell_at (HST.at_ 0 at0); try (have hq1 := cell_at (HST.at_ 1 at1))))
      have c1 := HST.fr.1.c1
      have d0 : w1.cell? ⟨g, 0, none⟩ = some (.int .i64 p.2.zone) := cell_at (HST.at_ 0 at0) 0
      clear hq0
      have d12 : w1.cell? ⟨p.1, 12, none⟩ = some (.int .i64 p.2.exp) := cell_at (HST.fr.1.cn p hpL) 12
      have fin : ∀ (k : Nat) (v : Value) (wr' : World) (V' : List (Nat × Cn)), Keeps w1 wr' (fun i => w.heap.size ≤ i ∧ i ≠ r) → V' = (Sn ++ [p]).filter (selB z now) → wr'.ownsRow w.heap.size 67 1 v V'.length (V'.map ptrV) → k = (leftOf es (seen.push e.born)).size → OfS w mo r es clock z now L k v wr' := by
        intro k v wr' V' hK hV' ho hk
        have K4 := (B1.out.2.2.2.1.trans HST.keeps (fun _ h => h.elim)).trans hK (fun i hi => .inr hi.1)
        refine ⟨K4, seen.push e.born, Sn ++ [p], s ++ t, V', (hK.block r (heap_lt HST.fr.2.1) (fun h => h.2 rfl)).trans HST.fr.2.1, hk.symm, B1.out.2.2.1, B1.out.1, hV', ho⟩
      by_cases hz : p.2.zone = z
      · have hdz : (p.2.zone == z) = true := by simpa using hz
        by_cases he : now < p.2.exp
        · have hde : decide (now < p.2.exp) = true := decide_eq_true he
          have hsel : selB z now p = true := by simp [selB, hz, he]
          clear hz he
          go_quiet (fail)
          have hown2 : (w1.drewN nq).ownsRow w.heap.size 67 1 u5 V.length (V.map ptrV) := owns_same HST.fr.2.2 (fun _ _ _ => rfl)
          have K5 : Keeps w1 (w1.drewN nq) (fun i => w.heap.size ≤ i ∧ i ≠ r) := (Keeps.refl w1 _).drewN nq
          have R5 : (w1.drewN nq).heap[r]? = some (.mapIter (some mo) clock (seen.push e.born) clock) := HST.fr.2.1
          generalize w1.drewN nq = w2 at hown2 K5 R5 ⊢
          clear hdz hde
          have hVl : V.length + 1 ≤ 1000000 := by
            have h1 : V.length ≤ Sn.length := by rw [B1.out.2.2.2.2]; exact List.length_filter_le _ _
            have h2 := B1.out.2.2.1.length_eq
            simp at h2
            omega
          obtain ⟨i67, hi, hz0, hz1, hz2⟩ := info_parts info67
          have hwB : w.heap.size ≤ (w2.alloc (.cells #[.pointer (some ⟨p.1, 0, none⟩)] 67)).heap.size := by
            have h1 := B1.out.2.2.2.1.size
            have h2 := HST.keeps.size
            have h3 := K5.size
            simp
            omega
          have hown3 : (w2.alloc (.cells #[.pointer (some ⟨p.1, 0, none⟩)] 67)).ownsRow w.heap.size 67 1 u5 V.length (V.map ptrV) := owns_same hown2 fun k cs hk => Below.heap_alloc w2 _ k (heap_lt hk)
          have hnews := World.news_of_block (heap_alloc_new w2 (.cells #[.pointer (some ⟨p.1, 0, none⟩)] 67))
          go_wp2_with ((with_reducible refine gate_app rfl ?_); refine wpList_append_lies _ rfl _ _ 74 rfl w.heap.size 67 i67 (.pointer none) 1 8 Try.underlying74 hi hz0 hz1 hz2 rfl (by decide) u5 V.length (V.map ptrV) rfl hown3 ⟨w2.heap.size, 0, none⟩ 1 1 [.pointer (some ⟨p.1, 0, none⟩)] rfl rfl hnews (by intro u hu; rw [List.mem_singleton.1 hu]; rfl) (by decide) (by simp only [maxLen]; omega) (by omega) hwB _ rfl ?_; intro gg cap w4 hown4 hgrow hat hlt)
          go_roundg ((leftOf es (seen.push e.born)).size)
          case measure => exact B1.out.2.1
          case rel =>
            refine fin _ _ _ (V ++ [p]) ((K5.alloc _).of_grown hgrow (fun k hk => .inl ?_)) (by rw [B1.out.2.2.2.2]; simp [List.filter_append, hsel]) (by simpa [ptrV] using hown4) rfl
            obtain ⟨h1, cs, h2⟩ := own_row hown2 hk
            exact ⟨h1, fun e => by rw [e, R5] at h2; cases h2⟩
        · have hde : decide (now < p.2.exp) = false := decide_eq_false he
          have hsel : selB z now p = false := by simp [selB, he]
          clear hz he
          go_quiet (fail)
          go_wp2
          go_roundg ((leftOf es (seen.push e.born)).size)
          case measure => exact B1.out.2.1
          case rel => exact fin _ _ _ V ((Keeps.refl w1 _).drewN nq) (by rw [B1.out.2.2.2.2]; simp [List.filter_append, hsel]) (owns_same HST.fr.2.2 (fun _ _ _ => rfl)) rfl
      · have hdz : (p.2.zone == z) = false := by simpa using hz
        have hsel : selB z now p = false := by simp [selB, hz]
        clear hz
        go_quiet (fail)
        go_wp2
        go_roundg ((leftOf es (seen.push e.born)).size)
        case measure => exact B1.out.2.1
        case rel => exact fin _ _ _ V ((Keeps.refl w1 _).drewN nq) (by rw [B1.out.2.2.2.2]; simp [List.filter_append, hsel]) (owns_same HST.fr.2.2 (fun _ _ _ => rfl)) rfl
end
end Go.Proofs.Ytomfgdkmkacebaa
