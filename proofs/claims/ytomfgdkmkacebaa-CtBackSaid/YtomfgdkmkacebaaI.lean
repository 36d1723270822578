/- The table's Count, Drop, New, Tick. Conditions: the table is as Tab says and holds at most a million connections. -/
import Derived.Test.YtomfgdkmkacebaaH
namespace Go.Proofs.Ytomfgdkmkacebaa
open Go.RowKit Go.MapKept
open Go.ChangeMaps (setBlock)
set_option linter.unusedSimpArgs false
set_option linter.unusedVariables false

section
variable {w : World} {tb mo mr : Nat} {room now : Int} {L : List (Nat × Cn)}

/-- A slice that owns n elements: its form, the length being n. -/
theorem own_form {W : World} {B : Nat} {v : Value} {n : Nat} {xs : List Value} (h : W.ownsRow B 67 1 v n xs) : ∃ b c, v = .slice b n c := by
  rcases h.2 with ⟨rfl, rfl⟩ | ⟨g, cap, cur, rfl, _⟩
  · exact ⟨_, _, rfl⟩
  · exact ⟨_, _, rfl⟩

theorem count_any (h : Tab w tb mo mr room now L) (hlen : L.length ≤ 1000000) (z : Int) : Calls Try.prog 16 #[.pointer (some ⟨tb, 0, none⟩), .int .i64 z] w fun e w' => e = .returned (.int .i64 (L.filter (selB z now)).length) ∧ Tab w' tb mo mr room now L ∧ Keeps w w' (fun _ => False) := by
  go_enter Try.func16, Try.ntmps16
  go_wp2_with (go_at_call 30; refine (zoned_any h hlen z).mono ?_; rintro e w1 ⟨v, V, rfl, hV, hown, hT, hk⟩; obtain ⟨b, c, rfl⟩ := own_form hown; clear hown)
  go_ret
  refine ⟨?_, hT, hk⟩
  show Ending.returned (.int .i64 (V.length : Int)) = _
  rw [hV.length_eq]

theorem new_bad (w : World) (n : Int) (hn : ¬ (1 ≤ n ∧ n ≤ 65536)) : Calls Try.prog 12 #[.int .i64 n] w fun e w' => e = .returned (.tuple #[.pointer none, .int .i64 1]) ∧ w' = w := by
  go_enter Try.func12, Try.ntmps12
  by_cases h1 : n < 1
  · have hd : decide (n < 1) = true := decide_eq_true h1
    go_wp2
    go_ret2
    exact ⟨rfl, rfl⟩
  · have hd : decide (n < 1) = false := decide_eq_false h1
    have hd2 : decide (n > 65536) = true := decide_eq_true (by omega)
    go_wp2
    go_ret2
    exact ⟨rfl, rfl⟩
theorem new_good (w : World) (n : Int) (hn : 1 ≤ n ∧ n ≤ 65536) : Calls Try.prog 12 #[.int .i64 n] w fun e w' => ∃ tb mo mr, e = .returned (.tuple #[.pointer (some ⟨tb, 0, none⟩), .int .i64 0]) ∧ Tab w' tb mo mr n 0 [] ∧ Keeps w w' (fun _ => False) ∧ w.heap.size ≤ tb ∧ w.heap.size ≤ mo ∧ w.heap.size ≤ mr := by
  have hd : decide (n < 1) = false := decide_eq_false (by omega)
  have hd2 : decide (n > 65536) = false := decide_eq_false (by omega)
  have hm1 := run_makeMap (P := Try.prog) 63 w
  have hm2 := run_makeMap (P := Try.prog) 63 (w.alloc (.map #[] 0))
  go_enter Try.func12, Try.ntmps12
  go_wp2
  go_ret2
  have K : Keeps w (((w.alloc (.map #[] 0)).alloc (.map #[] 0)).alloc (.cells #[.int .i64 n, .int .i64 0, .map (some w.heap.size), .map (some (w.heap.size + 1))] 65 (0, 0))) (fun _ => False) := (((Keeps.refl w _).alloc _).alloc _).alloc _
  have e2 : ((w.alloc (.map #[] 0)).alloc (.map #[] 0)).heap.size = w.heap.size + 1 + 1 := by simp
  have e1 : (w.alloc (.map #[] 0)).heap.size = w.heap.size + 1 := by simp
  refine ⟨_, _, _, rfl, ⟨by rw [← e2]; exact heap_alloc_new _ _, ?_, ?_, ?_, by simp, by simp, by simp⟩, K, ?_, ?_, ?_⟩
  · refine (Ents.made (P := Try.prog) (kt := 80) w).same ?_
    rw [Below.heap_alloc _ _ _ (by simp; omega), Below.heap_alloc _ _ _ (by simp)]
  · rw [← e1]
    refine (Ents.made (P := Try.prog) (kt := 80) (w.alloc (.map #[] 0))).same ?_
    rw [Below.heap_alloc _ _ _ (by simp)]
  all_goals first | omega | (simp; omega) | simp
theorem drop_all (h : Tab w tb mo mr room now L) (hlen : L.length ≤ 1000000) (z : Int) : Calls Try.prog 17 #[.pointer (some ⟨tb, 0, none⟩), .int .i64 z] w fun e w' => e = .returned (.int .i64 (L.filter (selB z now)).length) ∧ Tab w' tb mo mr room now (L.filter fun p => !selB z now p) ∧ Keeps w w' (Maps2 mo mr) := by
  go_enter Try.func17, Try.ntmps17
  go_wp2_with (go_at_call 30; refine (zoned_any h hlen z).mono ?_; rintro e w1 ⟨v, V, rfl, hV, hown, hT, hk⟩; obtain ⟨b, c, rfl⟩ := own_form hown)
  have hsplit : L.Perm (V ++ L.filter fun p => !selB z now p) := ((List.filter_append_perm (selB z now) L).symm).trans (hV.symm.append_right _)
  have A := Lib.hid (And.intro hV (And.intro hown (And.intro (hT.perm hsplit) hk)))
  clear hV hown hT hk hsplit h
  go_loopg [13] (V.length) (fun k v wr => ∃ i, i + k = V.length ∧ v = .int .i64 i ∧ Tab wr tb mo mr room now (V.drop i ++ L.filter fun p => !selB z now p) ∧ Keeps w1 wr (Maps2 mo mr))
  · exact ⟨0, by simp, rfl, by simpa using A.out.2.2.1, Keeps.refl _ _⟩
  · obtain ⟨i, hik, rfl, hT, hK⟩ := hrel
    by_cases hi : i < V.length
    · have hd : decide ((i : Int) < (V.length : Int)) = true := decide_eq_true (by omega)
      obtain ⟨g, cap, cur, hb, hgB, hg, hcap, hmax, hsz, htake⟩ : ∃ g cap cur, Value.slice b V.length c = .slice (some ⟨g, 0, none⟩) V.length cap ∧ w.heap.size ≤ g ∧ w1.heap[g]? = some (.cells cur 67 (0, 0)) ∧ V.length ≤ cap ∧ cap ≤ maxLen ∧ cur.size = cap * 1 ∧ cur.toList.take (V.length * 1) = V.map ptrV := by
        rcases A.out.2.1.2 with ⟨_, h0⟩ | h1
        · omega
        · exact h1
      simp only [Value.slice.injEq, true_and] at hb
      obtain ⟨rfl, rfl⟩ := hb
      have hgs : wr.heap[g]? = some (.cells cur 67 (0, 0)) := by
        refine (hK.block g (heap_lt hg) ?_).trans hg
        rintro (e | e)
        · exact A.out.2.2.1.om.not_cells (e ▸ hg)
        · exact A.out.2.2.1.rm.not_cells (e ▸ hg)
      have hcell : wr.cell? ⟨g, i, none⟩ = some (.pointer (some ⟨(V[i]).1, 0, none⟩)) := by
        rw [cell_at hgs i]
        have h1 : (cur.toList.take (V.length * 1))[i]? = (V.map ptrV)[i]? := by rw [htake]
        rw [List.getElem?_take_of_lt (by omega)] at h1
        rw [← Array.getElem?_toList, h1]
        simp [hi, ptrV]
      have hdrop : V.drop i ++ (L.filter fun p => !selB z now p) = V[i] :: (V.drop (i + 1) ++ L.filter fun p => !selB z now p) := by
        rw [List.drop_eq_getElem_cons hi]
        rfl
      have B := Lib.hid (And.intro hT hK)
      generalize V[i] = p at hcell hdrop
      clear hT hK htake hg hgs hsz hcap hmax
      have C := Lib.hid (show Tab wr tb mo mr room now (p :: (V.drop (i + 1) ++ L.filter fun p => !selB z now p)) by rw [← hdrop]; exact B.out.1)
      clear hdrop
      go_wp2_with (go_at_call 31; refine (drop_any C.out (List.Perm.refl _)).mono ?_; rintro e w2 ⟨rfl, hT2, hK2⟩)
      go_roundg (gk - 1)
      case measure => omega
      have hVl : V.length ≤ 1000000 := by
        have h1 := A.out.1.length_eq
        have h2 := List.length_filter_le (selB z now) L
        omega
      case rel => exact ⟨i + 1, by omega, by rw [show wrap64 ((i : Int) + 1) = ((i + 1 : Nat) : Int) by unfold wrap64; omega], hT2, B.out.2.trans hK2 (fun i hi => .inl hi)⟩
    · have hd : decide ((i : Int) < (V.length : Int)) = false := decide_eq_false (by omega)
      have hT2 : Tab wr tb mo mr room now (L.filter fun p => !selB z now p) := by rw [List.drop_eq_nil_of_le (by omega)] at hT; exact hT
      clear hik hT
      go_wp2
      go_ret
      refine ⟨?_, hT2, A.out.2.2.2.mono (fun _ _ h => h.elim) |>.trans hK (fun i hi => .inl hi)⟩
      show Ending.returned (.int .i64 (V.length : Int)) = _
      rw [A.out.1.length_eq]
theorem Tab.tick (h : Tab w tb mo mr room now L) (v : Int) : Tab (w.setCell ⟨tb, 1, none⟩ (.int .i64 v)) tb mo mr room v L := by
  have hne := h.tb_ne
  have far : ∀ i, i ≠ tb → (w.setCell ⟨tb, 1, none⟩ (.int .i64 v)).heap[i]? = w.heap[i]? := fun i hi => Below.heap_setCell w _ _ i hi
  refine ⟨?_, h.om.same (far _ (Ne.symm hne.1)), h.rm.same (far _ (Ne.symm hne.2)), h.ne, fun p hp => (far _ (h.cn_ne hp).1).trans (h.cn p hp), h.ok, h.nd⟩
  have hc := h.cell
  unfold World.setCell
  simp only [Array.getElem?_modify, if_true]
  rw [hc]
  rfl
theorem tick_any (h : Tab w tb mo mr room now L) (n : Int) (h0 : 0 ≤ n) (h1 : n ≤ 2147483647) (h2 : 0 ≤ now) (h3 : now + n ≤ 4611686018427387904) : Calls Try.prog 15 #[.pointer (some ⟨tb, 0, none⟩), .int .i64 n] w fun e w' => e = .returned (.int .i64 0) ∧ Tab w' tb mo mr room (now + n) L ∧ Keeps w w' (fun i => i = tb) := by
  have c1 := h.c1
  have hd1 : decide (n < 0) = false := decide_eq_false (by omega)
  have hd2 : decide (n > 2147483647) = false := decide_eq_false (by omega)
  have hfz := free_at h.cell 1
  have HT := Lib.hid h
  have hd3 : decide (4611686018427387904 - n < now) = false := decide_eq_false (by omega)
  clear h
  go_enter Try.func15, Try.ntmps15
  go_wp2_with (go_at_call 24; refine (made_any HT.out).mono ?_; rintro e w' ⟨rfl, rfl⟩)
  go_ret
  exact ⟨rfl, HT.out.tick _, (Keeps.refl w (fun i => i = tb)).setCell (p := ⟨tb, 1, none⟩) (.inl rfl) _⟩
end
end Go.Proofs.Ytomfgdkmkacebaa
