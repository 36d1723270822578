/- The table's Commit. Conditions: the table is as Tab says and holds at most a million connections; the packet has a tuple, of the state's kind. -/
import Derived.Test.YtomfgdkmkacebaaQ
namespace Go.Proofs.Ytomfgdkmkacebaa
open Go.RowKit Go.MapKept
open Go.ChangeMaps (setBlock)
set_option linter.unusedSimpArgs false
set_option linter.unusedVariables false

section
variable {w : World} {tb mo mr : Nat} {room now : Int} {L : List (Nat × Cn)}
theorem ld_sta_pr {w0 w : World} {S : Nat → Prop} {F : World → Prop} {bs : List Blk} {ops : Array Oper} {rest : List Oper} {o : Oper} {a : Act} {Q : Exit → Act → World → Prop} (hgd : Region.wanted o (yielded ops a.tmps) = true) (x : Operand) (ho : o.op = .load 3 x) (h : St w0 S F w bs) (i g : Nat) (s : Sta) (hx : a.eval x = .pointer (some ⟨g, 44, none⟩)) (hi : bs[i]? = some (g, s.cells, 47)) (hK : wpList Try.prog ops Q rest (a.put o.dst (.int .i64 s.orig.pr)) w) : wpList Try.prog ops Q (o :: rest) a w :=
  ld_one hgd 3 x ho g 44 hx (h.at_ i hi) one3 ⟨_, s.at44, hK⟩
theorem ld_tup_pr {w0 w : World} {S : Nat → Prop} {F : World → Prop} {bs : List Blk} {ops : Array Oper} {rest : List Oper} {o : Oper} {a : Act} {Q : Exit → Act → World → Prop} (hgd : Region.wanted o (yielded ops a.tmps) = true) (x : Operand) (ho : o.op = .load 3 x) (h : St w0 S F w bs) (i g : Nat) (y : Tup) (hx : a.eval x = .pointer (some ⟨g, 0, none⟩)) (hi : bs[i]? = some (g, y.v.cells, 35)) (hK : wpList Try.prog ops Q rest (a.put o.dst (.int .i64 y.pr)) w) : wpList Try.prog ops Q (o :: rest) a w :=
  ld_one hgd 3 x ho g 0 hx (h.at_ i hi) one3 ⟨_, rfl, hK⟩

/-- What Commit adds. -/
def newCn (z now : Int) (s : Sta) : Cn := ⟨z, s.orig, s.p.tup.turned, !decide (s.p.tup = s.orig), now + 30⟩
/-- What Commit tells, and what it leaves. -/
def CommitP (w : World) (tb mo mr : Nat) (room now : Int) (L : List (Nat × Cn)) (s : Sta) (z : Int) (e : Ending) (w' : World) : Prop :=
  (∃ q b L1, FindS z s.orig now L (some q) b L1 ∧ e = .returned (.int .i64 0) ∧ Tab w' tb mo mr room now L1) ∨
  (∃ b L1 n g L', FindS z s.orig now L none b L1 ∧ e = .returned (.int .i64 n) ∧ AddS (newCn z now s) room now L1 n g L' ∧ Tab w' tb mo mr room now L' ∧ w.heap.size ≤ g)

theorem wrap_small {n : Int} (h0 : -9223372036854775808 ≤ n) (h1 : n ≤ 9223372036854775807) : IntKind.i64.wrap n = n := by
  rw [IntKind.wrap_i64]
  omega
theorem keep_cell2 {w w' : World} {S : Nat → Prop} (hk : Keeps w w' S) {x : Addr} (hx : ¬ S x.block) {v : Value} (h : w.cell? x = some v) : w'.cell? x = some v := by
  have hlt : x.block < w.heap.size := by
    rcases Nat.lt_or_ge x.block w.heap.size with h1 | h1
    · exact h1
    · simp [World.cell?, Array.getElem?_eq_none h1] at h
  rw [← h]
  exact World.cell?_of_block (hk.block _ hlt hx)
theorem cms_keep {W W' : World} {S : Nat → Prop} {gs gt : Nat} {s : Sta} (hk : Keeps W W' S) (h1 : ¬ S gs) (h2 : ¬ S gt) (h3 : ¬ S tb) (h : (W.cell? ⟨gs, 44, none⟩ = some (.int .i64 s.orig.pr) ∧ W.cell? ⟨gs, 45, none⟩ = some (.int .u32 s.orig.sr) ∧ W.cell? ⟨gs, 46, none⟩ = some (.int .u32 s.orig.ds) ∧ W.cell? ⟨gs, 47, none⟩ = some (.int .i64 s.orig.sp) ∧ W.cell? ⟨gs, 48, none⟩ = some (.int .i64 s.orig.dp) ∧ W.cell? ⟨gt, 0, none⟩ = some (.int .i64 s.p.tup.pr) ∧ W.cell? ⟨gt, 1, none⟩ = some (.int .u32 s.p.tup.sr) ∧ W.cell? ⟨gt, 2, none⟩ = some (.int .u32 s.p.tup.ds) ∧ W.cell? ⟨gt, 3, none⟩ = some (.int .i64 s.p.tup.sp) ∧ W.cell? ⟨gt, 4, none⟩ = some (.int .i64 s.p.tup.dp) ∧ W.cell? ⟨tb, 1, none⟩ = some (.int .i64 now))) : (W'.cell? ⟨gs, 44, none⟩ = some (.int .i64 s.orig.pr) ∧ W'.cell? ⟨gs, 45, none⟩ = some (.int .u32 s.orig.sr) ∧ W'.cell? ⟨gs, 46, none⟩ = some (.int .u32 s.orig.ds) ∧ W'.cell? ⟨gs, 47, none⟩ = some (.int .i64 s.orig.sp) ∧ W'.cell? ⟨gs, 48, none⟩ = some (.int .i64 s.orig.dp) ∧ W'.cell? ⟨gt, 0, none⟩ = some (.int .i64 s.p.tup.pr) ∧ W'.cell? ⟨gt, 1, none⟩ = some (.int .u32 s.p.tup.sr) ∧ W'.cell? ⟨gt, 2, none⟩ = some (.int .u32 s.p.tup.ds) ∧ W'.cell? ⟨gt, 3, none⟩ = some (.int .i64 s.p.tup.sp) ∧ W'.cell? ⟨gt, 4, none⟩ = some (.int .i64 s.p.tup.dp) ∧ W'.cell? ⟨tb, 1, none⟩ = some (.int .i64 now)) :=
  ⟨keep_cell2 hk h1 h.1, keep_cell2 hk h1 h.2.1, keep_cell2 hk h1 h.2.2.1, keep_cell2 hk h1 h.2.2.2.1, keep_cell2 hk h1 h.2.2.2.2.1, keep_cell2 hk h2 h.2.2.2.2.2.1, keep_cell2 hk h2 h.2.2.2.2.2.2.1, keep_cell2 hk h2 h.2.2.2.2.2.2.2.1, keep_cell2 hk h2 h.2.2.2.2.2.2.2.2.1, keep_cell2 hk h2 h.2.2.2.2.2.2.2.2.2.1, keep_cell2 hk h3 h.2.2.2.2.2.2.2.2.2.2⟩
set_option maxHeartbeats 4000000 in
theorem commit_any (h : Tab w tb mo mr room now L) (hlen : L.length ≤ 1000000) (s : Sta) (hs : s.ok) (z : Int) (hz : 0 ≤ z ∧ z ≤ 65535) (hh : hasB s.p = true) (hpr : s.orig.pr = s.p.tup.pr) (hn : 0 ≤ now ∧ now ≤ 4611686018427387904) : Calls Try.prog 14 #[.pointer (some ⟨tb, 0, none⟩), .int .i64 z, s.v] w fun e w' =>
    CommitP w tb mo mr room now L s z e w' ∧ Keeps w w' (Maps2 mo mr) := by
  have STB := tab_stab tb mo mr room now L
  have HST : St w (Maps2 mo mr) (fun w => Tab w tb mo mr room now L) w [] := St.start h
  have hzd : decide (0 ≤ z ∧ z ≤ 65535) = true := decide_eq_true hz
  have hov : ofV s.p = .tuple #[s.p.tup.v, .bool true] := by simp [ofV, hh]
  have hzw : (Lit.int .i64 z).wf = true := wf64 (by omega) (by omega)
  have hxo : s.p.tup.ok := Pk.tup_ok hs.1
  have HN := Lib.hid (And.intro hn (And.intro hxo hlen))
  have hprb : (s.orig.pr != s.p.tup.pr) = false := by simp [hpr]
  have hn1 := neq_nil_some
  have hn2 := neq_nil_none
  clear h hz hh hn hxo hpr hlen
  go_enter Try.func14, Try.ntmps14
  go_wp2_with (first | ((with_reducible refine gate_box rfl ?_); refine st_box (by rfl) _ _ rfl HST STB ⟨?_, _, ?_, rfl, ?_⟩; rotate_left; (focus (first | (go_simp; rfl) | rfl)); clear HST; intro gs w1 hg hb HST; clear hg hb) | ((with_reducible refine gate_alloc rfl ?_); refine st_alloc rfl _ rfl HST STB _ zinfo35 _ rfl ?_; clear HST; intro g w1 hg hb HST; clear hg hb) | ((with_reducible refine gate_load rfl ?_); first | refine ld_sta_pr rfl _ rfl HST 1 _ _ rfl at1 ?_ | refine ld_tup_pr rfl _ rfl HST 0 _ _ rfl at0 ?_) | ((with_reducible refine gate_build47 rfl ?_); refine bd_sta rfl rfl ?_) | ((with_reducible refine gate_load rfl ?_); first | ((first | (refine ld_sta_p rfl _ rfl HST 0 _ _ rfl at0 ?_) | (refine ld_sta_p rfl _ rfl HST 1 _ _ rfl at1 ?_) | (refine ld_sta_p rfl _ rfl HST 2 _ _ rfl at2 ?_) | (refine ld_sta_p rfl _ rfl HST 3 _ _ rfl at3 ?_))) | ((first | (refine ld_sta_o rfl _ rfl HST 0 _ _ rfl at0 ?_) | (refine ld_sta_o rfl _ rfl HST 1 _ _ rfl at1 ?_) | (refine ld_sta_o rfl _ rfl HST 2 _ _ rfl at2 ?_) | (refine ld_sta_o rfl _ rfl HST 3 _ _ rfl at3 ?_))) | ((first | (refine ld_sta_all rfl _ rfl HST 0 _ _ rfl at0 ?_) | (refine ld_sta_all rfl _ rfl HST 1 _ _ rfl at1 ?_) | (refine ld_sta_all rfl _ rfl HST 2 _ _ rfl at2 ?_) | (refine ld_sta_all rfl _ rfl HST 3 _ _ rfl at3 ?_))) | ((first | (refine ld_sta_ct rfl _ rfl HST 0 _ _ rfl at0 ?_) | (refine ld_sta_ct rfl _ rfl HST 1 _ _ rfl at1 ?_) | (refine ld_sta_ct rfl _ rfl HST 2 _ _ rfl at2 ?_) | (refine ld_sta_ct rfl _ rfl HST 3 _ _ rfl at3 ?_))) | ((first | (refine ld_tup rfl _ rfl HST 0 _ _ rfl at0 ?_) | (refine ld_tup rfl _ rfl HST 1 _ _ rfl at1 ?_) | (refine ld_tup rfl _ rfl HST 2 _ _ rfl at2 ?_) | (refine ld_tup rfl _ rfl HST 3 _ _ rfl at3 ?_)))) | ((with_reducible refine gate_store rfl ?_); (first | ((first | (refine st_sta_p rfl _ _ rfl HST STB ok47 0 _ _ _ rfl rfl at0 _ set0 ?_) | (refine st_sta_p rfl _ _ rfl HST STB ok47 1 _ _ _ rfl rfl at1 _ set1 ?_) | (refine st_sta_p rfl _ _ rfl HST STB ok47 2 _ _ _ rfl rfl at2 _ set2 ?_) | (refine st_sta_p rfl _ _ rfl HST STB ok47 3 _ _ _ rfl rfl at3 _ set3 ?_))) | ((first | (refine st_sta_o rfl _ _ rfl HST STB ok47 0 _ _ _ rfl rfl at0 _ set0 ?_) | (refine st_sta_o rfl _ _ rfl HST STB ok47 1 _ _ _ rfl rfl at1 _ set1 ?_) | (refine st_sta_o rfl _ _ rfl HST STB ok47 2 _ _ _ rfl rfl at2 _ set2 ?_) | (refine st_sta_o rfl _ _ rfl HST STB ok47 3 _ _ _ rfl rfl at3 _ set3 ?_))) | ((first | (refine st_sta_ct rfl _ _ rfl HST STB ok47 0 _ _ _ rfl rfl at0 _ set0 ?_) | (refine st_sta_ct rfl _ _ rfl HST STB ok47 1 _ _ _ rfl rfl at1 _ set1 ?_) | (refine st_sta_ct rfl _ _ rfl HST STB ok47 2 _ _ _ rfl rfl at2 _ set2 ?_) | (refine st_sta_ct rfl _ _ rfl HST STB ok47 3 _ _ _ rfl rfl at3 _ set3 ?_))) | ((first | (refine st_sta_all rfl _ _ rfl HST STB ok47 0 _ _ _ rfl rfl at0 _ set0 ?_) | (refine st_sta_all rfl _ _ rfl HST STB ok47 1 _ _ _ rfl rfl at1 _ set1 ?_) | (refine st_sta_all rfl _ _ rfl HST STB ok47 2 _ _ _ rfl rfl at2 _ set2 ?_) | (refine st_sta_all rfl _ _ rfl HST STB ok47 3 _ _ _ rfl rfl at3 _ set3 ?_))) | ((first | (refine st_tup rfl _ _ rfl HST STB ok35 0 _ _ _ rfl rfl at0 _ set0 ?_) | (refine st_tup rfl _ _ rfl HST STB ok35 1 _ _ _ rfl rfl at1 _ set1 ?_) | (refine st_tup rfl _ _ rfl HST STB ok35 2 _ _ _ rfl rfl at2 _ set2 ?_) | (refine st_tup rfl _ _ rfl HST STB ok35 3 _ _ _ rfl rfl at3 _ set3 ?_)))); clear HST; intro w1 HST) | (go_at_call 24; refine (made_any HST.fr).mono ?_; rintro e w' ⟨rfl, rfl⟩) | (go_at_call 25; refine (isZone_any _ _).mono ?_; rintro e w' ⟨rfl, rfl⟩; rw [hzd]) | (go_at_call 7; refine (of_any s.p hs.1 _).mono ?_; rintro e w3 ⟨rfl, hb⟩; rw [hov]; replace HST := HST.below STB hb; clear hb) | (go_at_call 26; refine (find_any HST.fr z _ hzw hs.2).mono ?_; rintro e w3 ⟨r1, b1, L1, rfl, hT1, hk1, hf1⟩; have HST2 := HST.turn (F' := fun w => Tab w tb mo mr room now L1) hk1 (fun i hi => .inl hi) (fun b hb hi => HST.no_maps2 b hb hi) hT1; clear HST hT1 hk1; cases r1 <;> simp only [ptrO_some, ptrO_none] <;> refine Stop.go ?_))
  · have hgt0 : ∃ gt, gt = g := ⟨g, rfl⟩
    obtain ⟨gt, rfl⟩ := hgt0
    refine Stop.mk ?_
    go_wp2_with (fail)
    have STB2 := tab_stab tb mo mr room now L1
    have hc0 := cell_at (HST2.at_ 0 at0)
    have hc1 := cell_at (HST2.at_ 1 at1)
    have HS : (w3.drew.cell? ⟨gs, 44, none⟩ = some (.int .i64 s.orig.pr) ∧ w3.drew.cell? ⟨gs, 45, none⟩ = some (.int .u32 s.orig.sr) ∧ w3.drew.cell? ⟨gs, 46, none⟩ = some (.int .u32 s.orig.ds) ∧ w3.drew.cell? ⟨gs, 47, none⟩ = some (.int .i64 s.orig.sp) ∧ w3.drew.cell? ⟨gs, 48, none⟩ = some (.int .i64 s.orig.dp) ∧ w3.drew.cell? ⟨gt, 0, none⟩ = some (.int .i64 s.p.tup.pr) ∧ w3.drew.cell? ⟨gt, 1, none⟩ = some (.int .u32 s.p.tup.sr) ∧ w3.drew.cell? ⟨gt, 2, none⟩ = some (.int .u32 s.p.tup.ds) ∧ w3.drew.cell? ⟨gt, 3, none⟩ = some (.int .i64 s.p.tup.sp) ∧ w3.drew.cell? ⟨gt, 4, none⟩ = some (.int .i64 s.p.tup.dp) ∧ w3.drew.cell? ⟨tb, 1, none⟩ = some (.int .i64 now)) := ⟨(hc1 44).trans s.at44, (hc1 45).trans s.at45, (hc1 46).trans s.at46, (hc1 47).trans s.at47, (hc1 48).trans s.at48, hc0 0, hc0 1, hc0 2, hc0 3, hc0 4, HST2.fr.c1⟩
    have hg0 : ¬ Maps2 mo mr gt := HST2.no_maps2 _ (List.mem_of_getElem? at0)
    have hg1 : ¬ Maps2 mo mr gs := HST2.no_maps2 _ (List.mem_of_getElem? at1)
    have hgt : ¬ Maps2 mo mr tb := fun h => h.elim (fun e => HST2.fr.tb_ne.1 e) (fun e => HST2.fr.tb_ne.2 e)
    have hl1 : L1.length ≤ 1000000 := Nat.le_trans hf1.gone.length HN.out.2.2
    have hok : (newCn z now s).ok := ⟨hzw, hs.2, Tup.turned_ok HN.out.2.1⟩
    have HD := Lib.hid (HST2.drew STB2)
    have hneq := neq35 s.p.tup s.orig
    have hw30 : IntKind.i64.wrap (now + 30) = now + 30 := wrap_small (by have := HN.out.1; omega) (by have := HN.out.1; omega)
    clear hc0 hc1 hn1 hn2 hov hprb HST2
    go_region_held3 (fun w' => (w'.cell? ⟨gs, 44, none⟩ = some (.int .i64 s.orig.pr) ∧ w'.cell? ⟨gs, 45, none⟩ = some (.int .u32 s.orig.sr) ∧ w'.cell? ⟨gs, 46, none⟩ = some (.int .u32 s.orig.ds) ∧ w'.cell? ⟨gs, 47, none⟩ = some (.int .i64 s.orig.sp) ∧ w'.cell? ⟨gs, 48, none⟩ = some (.int .i64 s.orig.dp) ∧ w'.cell? ⟨gt, 0, none⟩ = some (.int .i64 s.p.tup.pr) ∧ w'.cell? ⟨gt, 1, none⟩ = some (.int .u32 s.p.tup.sr) ∧ w'.cell? ⟨gt, 2, none⟩ = some (.int .u32 s.p.tup.ds) ∧ w'.cell? ⟨gt, 3, none⟩ = some (.int .i64 s.p.tup.sp) ∧ w'.cell? ⟨gt, 4, none⟩ = some (.int .i64 s.p.tup.dp) ∧ w'.cell? ⟨tb, 1, none⟩ = some (.int .i64 now))) (assumption)
      (first
        | (go_at_call 10; refine (turned_any s.p.tup _).mono ?_; rintro e w4 ⟨rfl, hb4⟩; have hS4 := cms_keep (Keeps.of_below hb4 (fun _ => False)) (fun h => h) (fun h => h) (fun h => h) HS; have HD4 := Lib.hid (HD.out.below STB2 hb4))
        | (go_at_call 29; refine (add_any HD4.out.fr hl1 (newCn z now s) hok).mono ?_; rintro e w5 ⟨n5, g5, L5, rfl, hT5, hk5, hg5, hadd5⟩; have hS5 := cms_keep hk5 hg1 hg0 hgt hS4))
    go_wp2
    go_ret
    exact ⟨.inr ⟨b1, L1, n5, g5, L5, hf1, rfl, hadd5, hT5, Nat.le_trans HD4.out.keeps.size hg5⟩, HD4.out.keeps.trans hk5 (fun i hi => .inl hi)⟩
  · rename_i q
    refine Stop.mk ?_
    go_wp2
    go_ret
    exact ⟨.inl ⟨q, b1, L1, hf1, rfl, HST2.fr⟩, HST2.keeps⟩
end
end Go.Proofs.Ytomfgdkmkacebaa
