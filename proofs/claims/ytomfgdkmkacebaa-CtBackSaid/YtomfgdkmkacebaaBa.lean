/- CtBack: the cells that it reads and writes, and what the calls answer. Conditions: the numbers are of their kinds. -/
import Derived.Test.YtomfgdkmkacebaaZr
import Derived.BigRegion
namespace Go.Proofs.Ytomfgdkmkacebaa
open Go.RowKit Go.MapKept
set_option linter.unusedSimpArgs false
set_option linter.unusedVariables false
theorem ok33 : (fun t : TypeId => t ≠ 65 ∧ t ≠ 71) 33 := ⟨by decide, by decide⟩
section
variable {w0 w : World} {S : Nat → Prop} {F : World → Prop} {ok : TypeId → Prop} {bs : List Blk} {ops : Array Oper} {rest : List Oper} {o : Oper} {a : Act} {Q : Exit → Act → World → Prop}
/-- A state whose packet has another destination. -/
def Sta.putDst (s : Sta) (n : Int) : Sta := { s with p := { s.p with dst := n } }
def Sta.putDport (s : Sta) (n : Int) : Sta := { s with p := { s.p with dport := n } }
theorem ld_sta_kind (hgd : Region.wanted o (yielded ops a.tmps) = true) (x : Operand) (ho : o.op = .load 3 x) (h : St w0 S F w bs) (i g : Nat) (s : Sta) (hx : a.eval x = .pointer (some ⟨g, 20, none⟩)) (hi : bs[i]? = some (g, s.cells, 47)) (hK : wpList Try.prog ops Q rest (a.put o.dst (.int .i64 s.p.kind)) w) : wpList Try.prog ops Q (o :: rest) a w :=
  ld_one hgd 3 x ho g 20 hx (h.at_ i hi) one3 ⟨_, s.at20, hK⟩
theorem ld_pkb_kind (hgd : Region.wanted o (yielded ops a.tmps) = true) (x : Operand) (ho : o.op = .load 3 x) (h : St w0 S F w bs) (i g : Nat) (s : Pk) (hx : a.eval x = .pointer (some ⟨g, 20, none⟩)) (hi : bs[i]? = some (g, s.cells, 33)) (hK : wpList Try.prog ops Q rest (a.put o.dst (.int .i64 s.kind)) w) : wpList Try.prog ops Q (o :: rest) a w :=
  ld_one hgd 3 x ho g 20 hx (h.at_ i hi) one3 ⟨_, s.at20, hK⟩
theorem ld_tup_sr2 (hgd : Region.wanted o (yielded ops a.tmps) = true) (x : Operand) (ho : o.op = .load 25 x) (h : St w0 S F w bs) (i g : Nat) (s : Tup) (hx : a.eval x = .pointer (some ⟨g, 1, none⟩)) (hi : bs[i]? = some (g, s.v.cells, 35)) (hK : wpList Try.prog ops Q rest (a.put o.dst (.int .u32 s.sr)) w) : wpList Try.prog ops Q (o :: rest) a w :=
  ld_one hgd 25 x ho g 1 hx (h.at_ i hi) one25 ⟨_, rfl, hK⟩
theorem ld_tup_ds2 (hgd : Region.wanted o (yielded ops a.tmps) = true) (x : Operand) (ho : o.op = .load 25 x) (h : St w0 S F w bs) (i g : Nat) (s : Tup) (hx : a.eval x = .pointer (some ⟨g, 2, none⟩)) (hi : bs[i]? = some (g, s.v.cells, 35)) (hK : wpList Try.prog ops Q rest (a.put o.dst (.int .u32 s.ds)) w) : wpList Try.prog ops Q (o :: rest) a w :=
  ld_one hgd 25 x ho g 2 hx (h.at_ i hi) one25 ⟨_, rfl, hK⟩
theorem ld_tup_sp2 (hgd : Region.wanted o (yielded ops a.tmps) = true) (x : Operand) (ho : o.op = .load 3 x) (h : St w0 S F w bs) (i g : Nat) (s : Tup) (hx : a.eval x = .pointer (some ⟨g, 3, none⟩)) (hi : bs[i]? = some (g, s.v.cells, 35)) (hK : wpList Try.prog ops Q rest (a.put o.dst (.int .i64 s.sp)) w) : wpList Try.prog ops Q (o :: rest) a w :=
  ld_one hgd 3 x ho g 3 hx (h.at_ i hi) one3 ⟨_, rfl, hK⟩
theorem ld_tup_dp2 (hgd : Region.wanted o (yielded ops a.tmps) = true) (x : Operand) (ho : o.op = .load 3 x) (h : St w0 S F w bs) (i g : Nat) (s : Tup) (hx : a.eval x = .pointer (some ⟨g, 4, none⟩)) (hi : bs[i]? = some (g, s.v.cells, 35)) (hK : wpList Try.prog ops Q rest (a.put o.dst (.int .i64 s.dp)) w) : wpList Try.prog ops Q (o :: rest) a w :=
  ld_one hgd 3 x ho g 4 hx (h.at_ i hi) one3 ⟨_, rfl, hK⟩
theorem st_sta_dst_set (s : Sta) (n : Int) : (s.cells.toList.take 18 ++ (Value.int .u32 n).cells.toList ++ s.cells.toList.drop (18 + 1)).toArray = (Sta.putDst s n).cells := by kernel_rfl
theorem st_sta_dst (hgd : Region.wanted o (yielded ops a.tmps) = true) (x y : Operand) (ho : o.op = .store 25 x y) (h : St w0 S F w bs) (hs : Stab F ok) (hok : ok 47) (i g : Nat) (s : Sta) (n : Int) (hx : a.eval x = .pointer (some ⟨g, 18, none⟩)) (hy : a.eval y = .int .u32 n) (hi : bs[i]? = some (g, s.cells, 47)) (bs' : List Blk) (hbs : bs.set i (g, (Sta.putDst s n).cells, 47) = bs')
    (hK : ∀ W : World, St w0 S F W bs' → wpList Try.prog ops Q rest (a.put o.dst undef) W) : wpList Try.prog ops Q (o :: rest) a w :=
  st_store hgd 25 x y ho g 18 hx h hs 1 sinfo25 _ ⟨_, _, _, i, bs', hy, rfl, hi, hok, rfl, rfl, st_sta_dst_set s n, hbs, fun W _ hW => hK W hW⟩
theorem st_sta_dport_set (s : Sta) (n : Int) : (s.cells.toList.take 25 ++ (Value.int .i64 n).cells.toList ++ s.cells.toList.drop (25 + 1)).toArray = (Sta.putDport s n).cells := by kernel_rfl
theorem st_sta_dport (hgd : Region.wanted o (yielded ops a.tmps) = true) (x y : Operand) (ho : o.op = .store 3 x y) (h : St w0 S F w bs) (hs : Stab F ok) (hok : ok 47) (i g : Nat) (s : Sta) (n : Int) (hx : a.eval x = .pointer (some ⟨g, 25, none⟩)) (hy : a.eval y = .int .i64 n) (hi : bs[i]? = some (g, s.cells, 47)) (bs' : List Blk) (hbs : bs.set i (g, (Sta.putDport s n).cells, 47) = bs')
    (hK : ∀ W : World, St w0 S F W bs' → wpList Try.prog ops Q rest (a.put o.dst undef) W) : wpList Try.prog ops Q (o :: rest) a w :=
  st_store hgd 3 x y ho g 25 hx h hs 1 sinfo3 _ ⟨_, _, _, i, bs', hy, rfl, hi, hok, rfl, rfl, st_sta_dport_set s n, hbs, fun W _ hW => hK W hW⟩
theorem st_pkb_all (hgd : Region.wanted o (yielded ops a.tmps) = true) (x y : Operand) (ho : o.op = .store 33 x y) (h : St w0 S F w bs) (hs : Stab F ok) (hok : ok 33) (i g : Nat) (s q : Pk) (hx : a.eval x = .pointer (some ⟨g, 0, none⟩)) (hy : a.eval y = q.v) (hi : bs[i]? = some (g, s.cells, 33)) (bs' : List Blk) (hbs : bs.set i (g, q.cells, 33) = bs')
    (hK : ∀ W : World, St w0 S F W bs' → wpList Try.prog ops Q rest (a.put o.dst undef) W) : wpList Try.prog ops Q (o :: rest) a w :=
  st_store hgd 33 x y ho g 0 hx h hs 36 sinfo33 _ ⟨_, _, _, i, bs', hy, rfl, hi, hok, rfl, q.one, (show (s.cells.toList.take 0 ++ q.v.cells.toList ++ s.cells.toList.drop (0 + 36)).toArray = q.cells from by kernel_rfl), hbs, fun W _ hW => hK W hW⟩
theorem setCell_row {g off : Nat} {cs : Array Value} {t : TypeId} {fr : Nat × Nat} (hg : w.heap[g]? = some (.cells cs t fr)) (v : Value) : w.setCell ⟨g, off, none⟩ v = w.setRow g (cs.setIfInBounds off v) := by
  have hh : (w.setCell ⟨g, off, none⟩ v).heap = (w.setRow g (cs.setIfInBounds off v)).heap := by
    refine Array.ext_getElem? fun k => ?_
    simp only [World.setCell, World.setRow, Array.getElem?_modify]
    by_cases hk : g = k
    · subst hk
      simp [hg]
    · simp [hk]
  have e1 : w.setCell ⟨g, off, none⟩ v = { w with heap := (w.setCell ⟨g, off, none⟩ v).heap } := rfl
  rw [e1, hh]
  rfl
theorem St.cell_put (h : St w0 S F w bs) (hs : Stab F ok) (i : Nat) {g : Nat} {cs : Array Value} {t : TypeId} (hi : bs[i]? = some (g, cs, t)) (ht : ok t) (off : Nat) (v : Value) {cs' : Array Value} (hc : cs.setIfInBounds off v = cs') {bs' : List Blk} (hb : bs.set i (g, cs', t) = bs') : St w0 S F (w.setCell ⟨g, off, none⟩ v) bs' := by
  rw [setCell_row (h.at_ i hi), hc, ← hb]
  exact h.put hs i hi ht cs'
end
def Pk.withSrc (p : Pk) (n : Int) : Pk := { p with src := n }
def Pk.withDst (p : Pk) (n : Int) : Pk := { p with dst := n }
def Pk.withSport (p : Pk) (n : Int) : Pk := { p with sport := n }
def Pk.withDport (p : Pk) (n : Int) : Pk := { p with dport := n }
theorem Pk.put_src (p : Pk) (n : Int) : p.cells.setIfInBounds 17 (.int .u32 n) = (p.withSrc n).cells := by kernel_rfl
theorem Pk.put_dst (p : Pk) (n : Int) : p.cells.setIfInBounds 18 (.int .u32 n) = (p.withDst n).cells := by kernel_rfl
theorem Pk.put_sport (p : Pk) (n : Int) : p.cells.setIfInBounds 24 (.int .i64 n) = (p.withSport n).cells := by kernel_rfl
theorem Pk.put_dport (p : Pk) (n : Int) : p.cells.setIfInBounds 25 (.int .i64 n) = (p.withDport n).cells := by kernel_rfl
theorem cell_other {W : World} {g g' off off' : Nat} {v : Value} (h : g ≠ g') : (W.setCell ⟨g', off', none⟩ v).cell? ⟨g, off, none⟩ = W.cell? ⟨g, off, none⟩ := by
  simp only [World.cell?, World.setCell, Array.getElem?_modify]
  rw [if_neg (fun e => h e.symm)]
/-- The packet whose destination is changed. -/
def Pk.sent (p : Pk) (dst port : Int) : Pk := { p with dst := dst, dport := if p.kind = 1 then p.dport else port }
/-- Its answer. -/
def Pk.answer (p : Pk) : Pk := { p with src := p.tup.ds, dst := p.tup.sr, sport := if p.kind = 1 then p.sport else p.tup.dp, dport := if p.kind = 1 then p.dport else p.tup.sp }
theorem answer1 {p : Pk} (hk : p.kind = 1) : (p.withSrc p.tup.ds).withDst p.tup.sr = p.answer := by
  unfold Pk.answer
  rw [if_pos hk, if_pos hk]
  rfl
theorem answer2 {p : Pk} (hk : ¬ p.kind = 1) : ((((p.withSrc p.tup.ds).withDst p.tup.sr).withSport p.tup.dp).withDport p.tup.sp) = p.answer := by
  unfold Pk.answer
  rw [if_neg hk, if_neg hk]
  rfl
theorem hasB_kind {p : Pk} (h : hasB p = true) : p.kind = 2 ∨ p.kind = 3 ∨ (p.kind = 1 ∧ (p.ty = 8 ∨ p.ty = 0)) := by
  simp only [hasB, knownB, Bool.and_eq_true, Bool.or_eq_true, beq_iff_eq] at h
  rcases h.2 with (h | h) | ⟨⟨h1, h2⟩, _⟩
  · exact .inl h
  · exact .inr (.inl h)
  · exact .inr (.inr ⟨h1, h2⟩)
section
variable {w : World} {tb mo mr : Nat} {p : Pk} {dst port z : Int}
theorem sent_has (h : hasB p = true) : hasB (p.sent dst port) = true := h
theorem answer_has (h : hasB p = true) : hasB p.answer = true := h
theorem sent_ok (h : p.ok) (hd : (Lit.int .u32 dst).wf = true) (hp : (Lit.int .i64 port).wf = true) : (p.sent dst port).ok := by
  obtain ⟨h1, h2, h3, h4, h5, h6⟩ := h
  refine ⟨h1, h2, hd, h4, h5, ?_⟩
  show (Lit.int .i64 (if p.kind = 1 then p.dport else port)).wf = true
  split
  · exact h6
  · exact hp
theorem answer_ok (h : p.ok) : p.answer.ok := by
  obtain ⟨t1, t2, t3, t4, t5⟩ := Pk.tup_ok h
  obtain ⟨h1, h2, h3, h4, h5, h6⟩ := h
  refine ⟨h1, t3, t2, h4, ?_, ?_⟩
  · show (Lit.int .i64 (if p.kind = 1 then p.sport else p.tup.dp)).wf = true
    split
    · exact h5
    · exact t5
  · show (Lit.int .i64 (if p.kind = 1 then p.dport else p.tup.sp)).wf = true
    split
    · exact h6
    · exact t4
theorem answer_tup (hh : hasB p = true) : p.answer.tup = p.tup.turned := by
  rcases hasB_kind hh with h | h | ⟨h, h2⟩
  · simp [Pk.answer, Pk.tup, Tup.turned, portS, h]
  · simp [Pk.answer, Pk.tup, Tup.turned, portS, h]
  · simp [Pk.answer, Pk.tup, Tup.turned, portS, h, h2]
theorem sent_same (hh : hasB p = true) (h : (p.sent dst port).tup = p.tup) : p.sent dst port = p := by
  have h3 : dst = p.dst := congrArg Tup.ds h
  have h5 := congrArg Tup.dp h
  rcases hasB_kind hh with hk | hk | ⟨hk, _⟩
  · have : port = p.dport := by simpa [Pk.sent, Pk.tup, portS, hk] using h5
    subst h3 this
    simp [Pk.sent]
  · have : port = p.dport := by simpa [Pk.sent, Pk.tup, portS, hk] using h5
    subst h3 this
    simp [Pk.sent]
  · subst h3
    unfold Pk.sent
    rw [if_pos hk]
theorem sent_forthed (hh : hasB p = true) (n : Bool) (e : Int) : p.forthed ⟨z, p.tup, (p.sent dst port).tup.turned, n, e⟩ = p.sent dst port := by
  rcases hasB_kind hh with hk | hk | ⟨hk, _⟩ <;> simp [Pk.forthed, Pk.sent, Pk.tup, Tup.turned, portS, hk]
theorem backed_tup (hh : hasB p = true) (n : Bool) (e : Int) : ((p.sent dst port).answer.backed ⟨z, p.tup, (p.sent dst port).tup.turned, n, e⟩).tup = p.tup.turned := by
  rcases hasB_kind hh with hk | hk | ⟨hk, h2⟩
  · simp [Pk.backed, Pk.answer, Pk.sent, Pk.tup, Tup.turned, portS, hk]
  · simp [Pk.backed, Pk.answer, Pk.sent, Pk.tup, Tup.turned, portS, hk]
  · simp [Pk.backed, Pk.answer, Pk.sent, Pk.tup, Tup.turned, portS, hk, h2]
theorem backed_ok {q : Pk} {c : Cn} (h : q.ok) (hc : c.orig.ok) : (q.backed c).ok := by
  obtain ⟨h1, h2, h3, h4, h5, h6⟩ := h
  refine ⟨h1, hc.2.2.1, h3, h4, ?_, h6⟩
  show (Lit.int .i64 (if q.kind = 1 then q.sport else c.orig.dp)).wf = true
  split
  · exact h5
  · exact hc.2.2.2.2
/-- The one connection that Commit makes. -/
def backC (p : Pk) (dst port z : Int) : Cn := ⟨z, p.tup, (p.sent dst port).tup.turned, !decide ((p.sent dst port).tup = p.tup), 30⟩
def backS (p : Pk) : Sta := { Sta.zero with p := p, ct := 1, orig := p.tup }
def backS2 (p : Pk) (dst port : Int) : Sta := { Sta.zero with p := p.sent dst port, ct := 1, orig := p.tup }
theorem bk_put1 (hk : p.kind = 1) : Sta.putDst (backS p) dst = backS2 p dst port := by
  unfold backS2 Pk.sent
  rw [if_pos hk]
  rfl
theorem bk_put2 (hk : ¬ p.kind = 1) : Sta.putDport (Sta.putDst (backS p) dst) port = backS2 p dst port := by
  unfold backS2 Pk.sent
  rw [if_neg hk]
  rfl
theorem bk_kind : (Sta.putDst (backS p) dst).p.kind = p.kind := rfl
theorem bk_look1 (hp : p.ok) (hh : hasB p = true) (hz : 0 ≤ z ∧ z ≤ 65535) (h : Tab w tb mo mr 8 0 []) : Calls Try.prog 13 #[.pointer (some ⟨tb, 0, none⟩), .int .i64 z, ({ Sta.zero with p := p } : Sta).v] w fun e w' =>
    e = .returned (.tuple #[(backS p).v, .int .i64 0]) ∧ Tab w' tb mo mr 8 0 [] ∧ Keeps w w' (LookB mo mr []) :=
  (look_yes h { Sta.zero with p := p } ⟨hp, tup_zero_ok⟩ z hz hh (by omega)).mono fun e w' ⟨⟨r, b, L2, hf, he, hTb⟩, hk⟩ => by
    obtain ⟨rfl, rfl⟩ := hf.nil
    exact ⟨he, hTb, hk⟩
theorem bk_commit (hp : p.ok) (hh : hasB p = true) (hd : (Lit.int .u32 dst).wf = true) (hpo : (Lit.int .i64 port).wf = true) (hz : 0 ≤ z ∧ z ≤ 65535) (h : Tab w tb mo mr 8 0 []) : Calls Try.prog 14 #[.pointer (some ⟨tb, 0, none⟩), .int .i64 z, (backS2 p dst port).v] w fun e w' =>
    ∃ g, e = .returned (.int .i64 0) ∧ Tab w' tb mo mr 8 0 [(g, backC p dst port z)] ∧ Keeps w w' (Maps2 mo mr) ∧ w.heap.size ≤ g :=
  (commit_any h (by simp) (backS2 p dst port) ⟨sent_ok hp hd hpo, Pk.tup_ok hp⟩ z hz (sent_has hh) rfl (by omega)).mono fun e w' ⟨hc, hk⟩ => by
    rcases hc with ⟨q, b, L1, hf, rfl, hT1⟩ | ⟨b, L1, n, g, L', hf, rfl, ha, hT1, hg⟩
    · obtain ⟨h1, _⟩ := hf.nil
      cases h1
    · obtain ⟨_, rfl⟩ := hf.nil
      rcases ha.live (by simp) with ⟨⟨q, hq, _⟩, _⟩ | ⟨_, ⟨hlt, _⟩ | ⟨hlt, rfl, rfl⟩⟩
      · simp at hq
      · simp at hlt
      · exact ⟨g, rfl, hT1, hk, hg⟩
theorem bk_look2 {g : Nat} (hp : p.ok) (hh : hasB p = true) (hz : 0 ≤ z ∧ z ≤ 65535) (h : Tab w tb mo mr 8 0 [(g, backC p dst port z)]) : Calls Try.prog 13 #[.pointer (some ⟨tb, 0, none⟩), .int .i64 z, ({ Sta.zero with p := p } : Sta).v] w fun e w' =>
    ∃ c, (c = 2 ∨ c = 10) ∧ e = .returned (.tuple #[({ Sta.zero with p := p.sent dst port, ct := c, orig := p.tup } : Sta).v, .int .i64 0]) ∧ Tab w' tb mo mr 8 0 [(g, backC p dst port z)] ∧ Keeps w w' (LookB mo mr [(g, backC p dst port z)]) :=
  (look_yes h { Sta.zero with p := p } ⟨hp, tup_zero_ok⟩ z hz hh (by omega)).mono fun e w' ⟨⟨r, b, L2, hf, he, hTb⟩, hk⟩ => by
    obtain ⟨rfl, hr⟩ := hf.live (by simp [backC])
    have hr : r = some (g, backC p dst port z) ∧ b = false := by
      rcases hr with ⟨q, hq, hr, hb, _⟩ | ⟨q, hq, _, _, _, hn⟩ | ⟨_, hn⟩
      · exact ⟨by rw [hr, List.mem_singleton.1 hq], hb⟩
      · exact absurd ⟨rfl, rfl⟩ (hn _ (List.mem_singleton.2 rfl))
      · exact absurd ⟨rfl, rfl⟩ (hn _ (List.mem_singleton.2 rfl)).1
    obtain ⟨rfl, rfl⟩ := hr
    have ht : touchO (some (g, backC p dst port z)) (0 + 30) [(g, backC p dst port z)] = [(g, backC p dst port z)] := by simp [touchO, Go.Proofs.Ytomfgdkmkacebaa.touch, backC]
    rw [ht] at hTb
    by_cases hs : (p.sent dst port).tup = p.tup
    · have hn : (backC p dst port z).nat = false := by simp [backC, hs]
      refine ⟨2, .inl rfl, ?_, hTb, hk⟩
      rw [he, sent_same hh hs]
      simp [lookSt, hn]
    · have hn : (backC p dst port z).nat = true := by simp [backC, hs]
      refine ⟨10, .inr rfl, ?_, hTb, hk⟩
      have hf := sent_forthed (dst := dst) (port := port) (z := z) hh (!decide ((p.sent dst port).tup = p.tup)) 30
      rw [he]
      simp only [lookSt, hn, if_true, Bool.false_eq_true, if_false]
      rw [show p.forthed (backC p dst port z) = p.sent dst port from hf]
theorem bk_look3 {g : Nat} (hp : p.ok) (hh : hasB p = true) (hd : (Lit.int .u32 dst).wf = true) (hpo : (Lit.int .i64 port).wf = true) (hz : 0 ≤ z ∧ z ≤ 65535) (hne : (p.sent dst port).tup.turned ≠ p.tup) (h : Tab w tb mo mr 8 0 [(g, backC p dst port z)]) : Calls Try.prog 13 #[.pointer (some ⟨tb, 0, none⟩), .int .i64 z, ({ Sta.zero with p := (p.sent dst port).answer } : Sta).v] w fun e w' =>
    ∃ s : Sta, (s.p.ok ∧ (s.ct = 6 ∨ s.ct = 14) ∧ ofV s.p = .tuple #[p.tup.turned.v, .bool true]) ∧ e = .returned (.tuple #[s.v, .int .i64 0]) ∧ Tab w' tb mo mr 8 0 [(g, backC p dst port z)] ∧ Keeps w w' (LookB mo mr [(g, backC p dst port z)]) := by
  have hsh : hasB (p.sent dst port) = true := sent_has hh
  have hat := answer_tup hsh
  have hao := answer_ok (sent_ok hp hd hpo)
  refine (look_yes h { Sta.zero with p := (p.sent dst port).answer } ⟨hao, tup_zero_ok⟩ z hz (answer_has hsh) (by omega)).mono fun e w' ⟨⟨r, b, L2, hf, he, hTb⟩, hk⟩ => ?_
  obtain ⟨rfl, hr⟩ := hf.live (by simp [backC])
  have hr : r = some (g, backC p dst port z) ∧ b = true := by
    rcases hr with ⟨q, hq, _, _, ho⟩ | ⟨q, hq, hr, hb, _⟩ | ⟨_, hn⟩
    · rw [List.mem_singleton.1 hq] at ho
      exact absurd (ho.2.trans hat).symm hne
    · exact ⟨by rw [hr, List.mem_singleton.1 hq], hb⟩
    · exact absurd ⟨rfl, hat.symm⟩ (hn _ (List.mem_singleton.2 rfl)).2
  obtain ⟨rfl, rfl⟩ := hr
  have ht : touchO (some (g, backC p dst port z)) (0 + 30) [(g, backC p dst port z)] = [(g, backC p dst port z)] := by simp [touchO, Go.Proofs.Ytomfgdkmkacebaa.touch, backC]
  rw [ht] at hTb
  by_cases hs : (p.sent dst port).tup = p.tup
  · have hn : (backC p dst port z).nat = false := by simp [backC, hs]
    refine ⟨_, ⟨?_, ?_, ?_⟩, he, hTb, hk⟩
    · simpa [lookSt, hn] using hao
    · simp [lookSt, hn]
    · have h1 : hasB (p.sent dst port).answer = true := answer_has hsh
      simp [lookSt, hn, ofV, h1, hat, hs]
  · have hn : (backC p dst port z).nat = true := by simp [backC, hs]
    have hbt := backed_tup (dst := dst) (port := port) (z := z) hh (!decide ((p.sent dst port).tup = p.tup)) 30
    refine ⟨_, ⟨?_, ?_, ?_⟩, he, hTb, hk⟩
    · simp only [lookSt, hn, if_true]
      exact backed_ok hao (Pk.tup_ok hp)
    · simp [lookSt, hn]
    · have h1 : hasB ((p.sent dst port).answer.backed (backC p dst port z)) = true := hsh
      simp only [lookSt, hn, if_true, ofV, h1]
      rw [show ((p.sent dst port).answer.backed (backC p dst port z)).tup = p.tup.turned from hbt]
end
end Go.Proofs.Ytomfgdkmkacebaa
