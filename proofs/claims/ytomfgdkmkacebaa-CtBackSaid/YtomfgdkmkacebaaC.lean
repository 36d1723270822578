/- The functions of the connection table that only compute: a packet's tuple, its ports, turned tuples, the zone's bounds; each with what it answers. Conditions: the numbers that a packet's fields hold are of their kinds, where it is said. -/
import Derived.Test.YtomfgdkmkacebaaB
import Derived.Lib.Hide
namespace Go.Proofs.Ytomfgdkmkacebaa
open Go.RowKit Go.MapKept
set_option linter.unusedSimpArgs false
set_option linter.unusedVariables false

theorem pw_drewN {B : Nat} {w W : World} (h : Below B w W) (n : Nat) : Below B w (W.drewN n) := ⟨h.os, h.tape, h.output, h.size, h.block⟩
theorem below_trans {B n : Nat} {a b c : World} (h : Below B a b) (k : Below n b c) (hB : B ≤ n) : Below B a c := h.trans (k.mono hB)

structure Pk where
  ed : Int
  es : Int
  et : Bool
  etag : Int
  ety : Int
  isArp : Bool
  aop : Int
  asha : Int
  aspa : Int
  atha : Int
  atpa : Int
  isIp : Bool
  tos : Int
  id : Int
  frag : Int
  ttl : Int
  proto : Int
  src : Int
  dst : Int
  iopt : ByteArray
  kind : Int
  ty : Int
  code : Int
  rest : Int
  sport : Int
  dport : Int
  nosum : Bool
  seq : Int
  ack : Int
  flags : Int
  win : Int
  urg : Int
  topt : ByteArray
  data : ByteArray
  body : ByteArray
  pad : ByteArray
abbrev ipC (p : Pk) : Array Value := #[.int .i64 p.tos, .int .i64 p.id, .int .i64 p.frag, .int .i64 p.ttl, .int .i64 p.proto, .int .u32 p.src, .int .u32 p.dst, .string p.iopt]
abbrev ipV (p : Pk) : Value := .agg (ipC p)
abbrev l4C (p : Pk) : Array Value := #[.int .i64 p.kind, .int .i64 p.ty, .int .i64 p.code, .int .u32 p.rest, .int .i64 p.sport, .int .i64 p.dport, .bool p.nosum, .int .u32 p.seq, .int .u32 p.ack, .int .i64 p.flags, .int .i64 p.win, .int .i64 p.urg, .string p.topt, .string p.data]
abbrev l4V (p : Pk) : Value := .agg (l4C p)
def Pk.cells (p : Pk) : Array Value := #[.int .u64 p.ed, .int .u64 p.es, .bool p.et, .int .i64 p.etag, .int .i64 p.ety, .bool p.isArp, .int .i64 p.aop, .int .u64 p.asha, .int .u32 p.aspa, .int .u64 p.atha, .int .u32 p.atpa, .bool p.isIp, .int .i64 p.tos, .int .i64 p.id, .int .i64 p.frag, .int .i64 p.ttl, .int .i64 p.proto, .int .u32 p.src, .int .u32 p.dst, .string p.iopt, .int .i64 p.kind, .int .i64 p.ty, .int .i64 p.code, .int .u32 p.rest, .int .i64 p.sport, .int .i64 p.dport, .bool p.nosum, .int .u32 p.seq, .int .u32 p.ack, .int .i64 p.flags, .int .i64 p.win, .int .i64 p.urg, .string p.topt, .string p.data, .string p.body, .string p.pad]
abbrev Pk.v (p : Pk) : Value := .agg p.cells
theorem Pk.size (p : Pk) : p.cells.size = 36 := rfl
theorem Pk.at0 (p : Pk) : p.cells[0]? = some (.int .u64 p.ed) := rfl
theorem Pk.at1 (p : Pk) : p.cells[1]? = some (.int .u64 p.es) := rfl
theorem Pk.at2 (p : Pk) : p.cells[2]? = some (.bool p.et) := rfl
theorem Pk.at3 (p : Pk) : p.cells[3]? = some (.int .i64 p.etag) := rfl
theorem Pk.at4 (p : Pk) : p.cells[4]? = some (.int .i64 p.ety) := rfl
theorem Pk.at5 (p : Pk) : p.cells[5]? = some (.bool p.isArp) := rfl
theorem Pk.at6 (p : Pk) : p.cells[6]? = some (.int .i64 p.aop) := rfl
theorem Pk.at7 (p : Pk) : p.cells[7]? = some (.int .u64 p.asha) := rfl
theorem Pk.at8 (p : Pk) : p.cells[8]? = some (.int .u32 p.aspa) := rfl
theorem Pk.at9 (p : Pk) : p.cells[9]? = some (.int .u64 p.atha) := rfl
theorem Pk.at10 (p : Pk) : p.cells[10]? = some (.int .u32 p.atpa) := rfl
theorem Pk.at11 (p : Pk) : p.cells[11]? = some (.bool p.isIp) := rfl
theorem Pk.at12 (p : Pk) : p.cells[12]? = some (.int .i64 p.tos) := rfl
theorem Pk.at13 (p : Pk) : p.cells[13]? = some (.int .i64 p.id) := rfl
theorem Pk.at14 (p : Pk) : p.cells[14]? = some (.int .i64 p.frag) := rfl
theorem Pk.at15 (p : Pk) : p.cells[15]? = some (.int .i64 p.ttl) := rfl
theorem Pk.at16 (p : Pk) : p.cells[16]? = some (.int .i64 p.proto) := rfl
theorem Pk.at17 (p : Pk) : p.cells[17]? = some (.int .u32 p.src) := rfl
theorem Pk.at18 (p : Pk) : p.cells[18]? = some (.int .u32 p.dst) := rfl
theorem Pk.at19 (p : Pk) : p.cells[19]? = some (.string p.iopt) := rfl
theorem Pk.at20 (p : Pk) : p.cells[20]? = some (.int .i64 p.kind) := rfl
theorem Pk.at21 (p : Pk) : p.cells[21]? = some (.int .i64 p.ty) := rfl
theorem Pk.at22 (p : Pk) : p.cells[22]? = some (.int .i64 p.code) := rfl
theorem Pk.at23 (p : Pk) : p.cells[23]? = some (.int .u32 p.rest) := rfl
theorem Pk.at24 (p : Pk) : p.cells[24]? = some (.int .i64 p.sport) := rfl
theorem Pk.at25 (p : Pk) : p.cells[25]? = some (.int .i64 p.dport) := rfl
theorem Pk.at26 (p : Pk) : p.cells[26]? = some (.bool p.nosum) := rfl
theorem Pk.at27 (p : Pk) : p.cells[27]? = some (.int .u32 p.seq) := rfl
theorem Pk.at28 (p : Pk) : p.cells[28]? = some (.int .u32 p.ack) := rfl
theorem Pk.at29 (p : Pk) : p.cells[29]? = some (.int .i64 p.flags) := rfl
theorem Pk.at30 (p : Pk) : p.cells[30]? = some (.int .i64 p.win) := rfl
theorem Pk.at31 (p : Pk) : p.cells[31]? = some (.int .i64 p.urg) := rfl
theorem Pk.at32 (p : Pk) : p.cells[32]? = some (.string p.topt) := rfl
theorem Pk.at33 (p : Pk) : p.cells[33]? = some (.string p.data) := rfl
theorem Pk.at34 (p : Pk) : p.cells[34]? = some (.string p.body) := rfl
theorem Pk.at35 (p : Pk) : p.cells[35]? = some (.string p.pad) := rfl
attribute [local go_sem] Pk.size Pk.at0 Pk.at1 Pk.at2 Pk.at3 Pk.at4 Pk.at5 Pk.at6 Pk.at7 Pk.at8 Pk.at9 Pk.at10 Pk.at11 Pk.at12 Pk.at13 Pk.at14 Pk.at15 Pk.at16 Pk.at17 Pk.at18 Pk.at19 Pk.at20 Pk.at21 Pk.at22 Pk.at23 Pk.at24 Pk.at25 Pk.at26 Pk.at27 Pk.at28 Pk.at29 Pk.at30 Pk.at31 Pk.at32 Pk.at33 Pk.at34 Pk.at35

/-- The numbers of a packet that its tuple looks at are of their kinds. -/
def Pk.ok (p : Pk) : Prop := (Lit.int .i64 p.proto).wf = true ∧ (Lit.int .u32 p.src).wf = true ∧ (Lit.int .u32 p.dst).wf = true ∧ (Lit.int .u32 p.rest).wf = true ∧ (Lit.int .i64 p.sport).wf = true ∧ (Lit.int .i64 p.dport).wf = true

def wholeB (frag : Int) : Bool := bits .and .i64 frag 16383 == 0
def knownB (k t c : Int) : Bool := k == 2 || k == 3 || (k == 1 && (t == 8 || t == 0) && c == 0)
def portS (k t rest s : Int) : Int := if k = 2 ∨ k = 3 then s else if k = 1 ∧ (t = 8 ∨ t = 0) then rest / 65536 else 0
def Pk.tup (p : Pk) : Tup := ⟨p.proto, p.src, p.dst, portS p.kind p.ty p.rest p.sport, portS p.kind p.ty p.rest p.dport⟩
/-- Has a packet a tuple? -/
def hasB (p : Pk) : Bool := p.isIp && wholeB p.frag && knownB p.kind p.ty p.code
def Tup.zero : Tup := ⟨0, 0, 0, 0, 0⟩
/-- What Of answers. -/
def ofV (p : Pk) : Value := .tuple #[(if hasB p then p.tup else Tup.zero).v, .bool (hasB p)]

theorem rest_range {n : Int} (h : (Lit.int .u32 n).wf = true) : 0 ≤ n ∧ n ≤ 4294967295 := by
  have h1 : IntKind.u32.min = 0 := rfl
  have h2 : IntKind.u32.max = 4294967295 := rfl
  simp only [Lit.wf, h1, h2, Bool.and_eq_true, decide_eq_true_eq] at h
  exact h

theorem whole_any (p : Pk) (w : World) : Calls Try.prog 18 #[ipV p] w fun e w' => e = .returned (.bool (wholeB p.frag)) ∧ Below w.heap.size w w' := by
  go_enter Try.func18, Try.ntmps18
  go_wp2
  go_ret
  exact ⟨rfl, (by repeat (first | (with_reducible first | exact Below.refl _ _ | assumption | refine Below.alloc ?_ ?_ _ | refine Below.drew ?_ | refine pw_drewN ?_ _ | refine Below.setCell ?_ ?_ _ | refine below_trans ?_ (by assumption) ?_) | (focus (simp; done)) | (focus (simp; omega)) | omega))⟩
theorem whole_ref (p : Pk) (w : World) : Calls Try.prog 21 #[ipV p] w fun e w' => e = .returned (.bool (wholeB p.frag)) ∧ Below w.heap.size w w' := by
  go_enter Try.func21, Try.ntmps21
  go_wp2
  go_ret
  exact ⟨rfl, (by repeat (first | (with_reducible first | exact Below.refl _ _ | assumption | refine Below.alloc ?_ ?_ _ | refine Below.drew ?_ | refine pw_drewN ?_ _ | refine Below.setCell ?_ ?_ _ | refine below_trans ?_ (by assumption) ?_) | (focus (simp; done)) | (focus (simp; omega)) | omega))⟩
theorem known_any (p : Pk) (w : World) : Calls Try.prog 19 #[l4V p] w fun e w' => e = .returned (.bool (knownB p.kind p.ty p.code)) ∧ Below w.heap.size w w' := by
  go_enter Try.func19, Try.ntmps19
  go_wp2
  all_goals
    go_ret
    exact ⟨by simp [knownB, *], (by repeat (first | (with_reducible first | exact Below.refl _ _ | assumption | refine Below.alloc ?_ ?_ _ | refine Below.drew ?_ | refine pw_drewN ?_ _ | refine Below.setCell ?_ ?_ _ | refine below_trans ?_ (by assumption) ?_) | (focus (simp; done)) | (focus (simp; omega)) | omega))⟩
theorem ports_any (p : Pk) (hr : 0 ≤ p.rest ∧ p.rest ≤ 4294967295) (w : World) : Calls Try.prog 20 #[p.v] w fun e w' => e = .returned (.tuple #[.int .i64 (portS p.kind p.ty p.rest p.sport), .int .i64 (portS p.kind p.ty p.rest p.dport)]) ∧ Below w.heap.size w w' := by
  obtain ⟨hr0, hr1⟩ := hr
  by_cases h2 : p.kind = 2
  · have h2b : (p.kind == 2) = true := beq_iff_eq.2 h2
    have H2 : Hid (p.kind = 2) := h2
    clear h2
    go_enter Try.func20, Try.ntmps20
    go_wp2
    go_quiet (fail)
    go_wp2
    go_ret2
    exact ⟨by simp [portS, H2.out], (by repeat (first | (with_reducible first | exact Below.refl _ _ | assumption | refine Below.alloc ?_ ?_ _ | refine Below.drew ?_ | refine pw_drewN ?_ _ | refine Below.setCell ?_ ?_ _ | refine below_trans ?_ (by assumption) ?_) | (focus (simp; done)) | (focus (simp; omega)) | omega))⟩
  have h2b : (p.kind == 2) = false := beq_eq_false_iff_ne.2 h2
  by_cases h3 : p.kind = 3
  · have h3b : (p.kind == 3) = true := beq_iff_eq.2 h3
    have H3 : Hid (p.kind = 3) := h3
    clear h2 h3
    go_enter Try.func20, Try.ntmps20
    go_wp2
    go_quiet (fail)
    go_wp2
    go_ret2
    exact ⟨by simp [portS, H3.out], (by repeat (first | (with_reducible first | exact Below.refl _ _ | assumption | refine Below.alloc ?_ ?_ _ | refine Below.drew ?_ | refine pw_drewN ?_ _ | refine Below.setCell ?_ ?_ _ | refine below_trans ?_ (by assumption) ?_) | (focus (simp; done)) | (focus (simp; omega)) | omega))⟩
  have h3b : (p.kind == 3) = false := beq_eq_false_iff_ne.2 h3
  by_cases h1 : p.kind = 1 ∧ (p.ty = 8 ∨ p.ty = 0)
  · obtain ⟨h1, ht⟩ := h1
    have h1b : (p.kind == 1) = true := beq_iff_eq.2 h1
    have H1 : Hid (p.kind = 1) := h1
    have HT : Hid (p.ty = 8 ∨ p.ty = 0) := ht
    have HD : Hid (¬ p.kind = 2 ∧ ¬ p.kind = 3) := ⟨h2, h3⟩
    by_cases h8 : p.ty = 8
    · have h8b : (p.ty == 8) = true := beq_iff_eq.2 h8
      clear h2 h3 h1 ht h8
      go_enter Try.func20, Try.ntmps20
      go_wp2
      go_ret2
      exact ⟨by simp [portS, HD.out, H1.out, HT.out], (by repeat (first | (with_reducible first | exact Below.refl _ _ | assumption | refine Below.alloc ?_ ?_ _ | refine Below.drew ?_ | refine pw_drewN ?_ _ | refine Below.setCell ?_ ?_ _ | refine below_trans ?_ (by assumption) ?_) | (focus (simp; done)) | (focus (simp; omega)) | omega))⟩
    · have h8b : (p.ty == 8) = false := beq_eq_false_iff_ne.2 h8
      have h0b : (p.ty == 0) = true := beq_iff_eq.2 (ht.resolve_left h8)
      clear h2 h3 h1 ht h8
      go_enter Try.func20, Try.ntmps20
      go_wp2
      go_ret2
      exact ⟨by simp [portS, HD.out, H1.out, HT.out], (by repeat (first | (with_reducible first | exact Below.refl _ _ | assumption | refine Below.alloc ?_ ?_ _ | refine Below.drew ?_ | refine pw_drewN ?_ _ | refine Below.setCell ?_ ?_ _ | refine below_trans ?_ (by assumption) ?_) | (focus (simp; done)) | (focus (simp; omega)) | omega))⟩
  · have HN : Hid (portS p.kind p.ty p.rest p.sport = 0 ∧ portS p.kind p.ty p.rest p.dport = 0) := by simp [Hid, portS, h2, h3, h1]
    by_cases h11 : p.kind = 1
    · have h1b : (p.kind == 1) = true := beq_iff_eq.2 h11
      have h8b : (p.ty == 8) = false := beq_eq_false_iff_ne.2 (fun e => h1 ⟨h11, .inl e⟩)
      have h0b : (p.ty == 0) = false := beq_eq_false_iff_ne.2 (fun e => h1 ⟨h11, .inr e⟩)
      clear h2 h3 h1 h11
      go_enter Try.func20, Try.ntmps20
      go_wp2
      go_ret2
      exact ⟨by rw [HN.out.1, HN.out.2]; rfl, (by repeat (first | (with_reducible first | exact Below.refl _ _ | assumption | refine Below.alloc ?_ ?_ _ | refine Below.drew ?_ | refine pw_drewN ?_ _ | refine Below.setCell ?_ ?_ _ | refine below_trans ?_ (by assumption) ?_) | (focus (simp; done)) | (focus (simp; omega)) | omega))⟩
    · have h1b : (p.kind == 1) = false := beq_eq_false_iff_ne.2 h11
      clear h2 h3 h1 h11
      go_enter Try.func20, Try.ntmps20
      go_wp2
      go_ret2
      exact ⟨by rw [HN.out.1, HN.out.2]; rfl, (by repeat (first | (with_reducible first | exact Below.refl _ _ | assumption | refine Below.alloc ?_ ?_ _ | refine Below.drew ?_ | refine pw_drewN ?_ _ | refine Below.setCell ?_ ?_ _ | refine below_trans ?_ (by assumption) ?_) | (focus (simp; done)) | (focus (simp; omega)) | omega))⟩
theorem turned_any (x : Tup) (w : World) : Calls Try.prog 10 #[x.v] w fun e w' => e = .returned x.turned.v ∧ Below w.heap.size w w' := by
  go_enter Try.func10, Try.ntmps10
  go_wp2
  refine bodyPost_ret (v := x.turned.v) (by simp [results, Try.results10, go_sem, Tup.turned]) rfl ⟨rfl, (by repeat (first | (with_reducible first | exact Below.refl _ _ | assumption | refine Below.alloc ?_ ?_ _ | refine Below.drew ?_ | refine pw_drewN ?_ _ | refine Below.setCell ?_ ?_ _ | refine below_trans ?_ (by assumption) ?_) | (focus (simp; done)) | (focus (simp; omega)) | omega))⟩
theorem turned_ref (x : Tup) (w : World) : Calls Try.prog 11 #[x.v] w fun e w' => e = .returned x.turned.v ∧ Below w.heap.size w w' := by
  go_enter Try.func11, Try.ntmps11
  go_wp2
  refine bodyPost_ret (v := x.turned.v) (by simp [results, Try.results11, go_sem, Tup.turned]) rfl ⟨rfl, (by repeat (first | (with_reducible first | exact Below.refl _ _ | assumption | refine Below.alloc ?_ ?_ _ | refine Below.drew ?_ | refine pw_drewN ?_ _ | refine Below.setCell ?_ ?_ _ | refine below_trans ?_ (by assumption) ?_) | (focus (simp; done)) | (focus (simp; omega)) | omega))⟩
theorem isZone_any (n : Int) (w : World) : Calls Try.prog 25 #[.int .i64 n] w fun e w' => e = .returned (.bool (decide (0 ≤ n ∧ n ≤ 65535))) ∧ w = w' := by
  by_cases h0 : 0 ≤ n
  · go_enter Try.func25, Try.ntmps25
    go_wp2
    go_ret
    exact ⟨by simp [h0], rfl⟩
  · go_enter Try.func25, Try.ntmps25
    go_wp2
    go_ret
    exact ⟨by simp [show ¬ (0 ≤ n) from by omega], rfl⟩
theorem bcell {W w1 : World} {n : Nat} (hb : Below n W w1) : (∀ b o, b < n → w1.cell? ⟨b, o, none⟩ = W.cell? ⟨b, o, none⟩) ∧ (∀ b o, b < n → w1.frozen? ⟨b, o, none⟩ = W.frozen? ⟨b, o, none⟩) :=
  ⟨fun b o h => hb.cell (p := ⟨b, o, none⟩) h, fun b o h => hb.frozen (p := ⟨b, o, none⟩) h⟩

theorem info33 : (Try.prog.info? 33).map (·.size) = some 36 := by kernel_rfl
theorem keep2 {w w1 : World} {A B : Obj} {n : Nat} (h : Below n ((w.alloc A).alloc B) w1) (hn : w.heap.size < n := by first | omega | (simp; omega)) : w1.heap[w.heap.size]? = some A :=
  (h.block _ hn).trans (heap_alloc2_old _ _ _)
theorem keep1 {w w1 : World} {A : Obj} {n g : Nat} (h : Below n w w1) (hn : g < n) (hA : w.heap[g]? = some A) : w1.heap[g]? = some A := (h.block _ hn).trans hA
theorem size2 {w w1 : World} {A B : Obj} {n : Nat} (h : Below n ((w.alloc A).alloc B) w1) : w.heap.size < w1.heap.size ∧ w.heap.size + 1 < w1.heap.size := by
  have := h.size
  simp at this
  omega
set_option maxHeartbeats 400000 in
theorem of_no1 (p : Pk) (w : World) (h1 : p.isIp = false) : Calls Try.prog 7 #[p.v] w fun e w' => e = .returned (.tuple #[Tup.zero.v, .bool false]) ∧ Below w.heap.size w w' := by
  go_enter Try.func7, Try.ntmps7
  go_wp2_with fail
  refine bodyPost_ret (v := .tuple #[Tup.zero.v, .bool false]) (by simp [results, Try.results7, go_sem, Tup.zero]) rfl ⟨rfl, (by repeat (first | (with_reducible first | exact Below.refl _ _ | assumption | refine Below.alloc ?_ ?_ _ | refine Below.drew ?_ | refine pw_drewN ?_ _ | refine Below.setCell ?_ ?_ _ | refine below_trans ?_ (by assumption) ?_) | (focus (simp; done)) | (focus (simp; omega)) | omega))⟩
set_option maxHeartbeats 400000 in
theorem of_no2 (p : Pk) (w : World) (h1 : p.isIp = true) (h2 : wholeB p.frag = false) : Calls Try.prog 7 #[p.v] w fun e w' => e = .returned (.tuple #[Tup.zero.v, .bool false]) ∧ Below w.heap.size w w' := by
  go_enter Try.func7, Try.ntmps7
  go_wp2_with (go_at_call 18; refine (whole_any p _).mono ?_; rintro e w1 ⟨rfl, hb⟩; obtain ⟨hc, hf⟩ := bcell hb; obtain ⟨hy, hz⟩ := size2 hb; have G1 := keep2 hb)
  refine bodyPost_ret (v := .tuple #[Tup.zero.v, .bool false]) (by simp [results, Try.results7, go_sem, Tup.zero, hc, hf, hz]) rfl ⟨rfl, (by repeat (first | (with_reducible first | exact Below.refl _ _ | assumption | refine Below.alloc ?_ ?_ _ | refine Below.drew ?_ | refine pw_drewN ?_ _ | refine Below.setCell ?_ ?_ _ | refine below_trans ?_ (by assumption) ?_) | (focus (simp; done)) | (focus (simp; omega)) | omega))⟩
set_option maxHeartbeats 400000 in
theorem of_no3 (p : Pk) (w : World) (h1 : p.isIp = true) (h2 : wholeB p.frag = true) (h3 : knownB p.kind p.ty p.code = false) : Calls Try.prog 7 #[p.v] w fun e w' => e = .returned (.tuple #[Tup.zero.v, .bool false]) ∧ Below w.heap.size w w' := by
  go_enter Try.func7, Try.ntmps7
  go_wp2_with (first | (go_at_call 18; refine (whole_any p _).mono ?_; rintro e w1 ⟨rfl, hb⟩; obtain ⟨hc, hf⟩ := bcell hb; obtain ⟨hy, hz⟩ := size2 hb; have G1 := keep2 hb) | (go_at_call 19; refine (known_any p _).mono ?_; rintro e w2 ⟨rfl, hb2⟩; obtain ⟨hc2, hf2⟩ := bcell hb2; have hz2 := Nat.lt_of_lt_of_le hz hb2.size; have hy2 := Nat.lt_of_lt_of_le hy hb2.size; have G2 := keep1 hb2 hy G1))
  refine bodyPost_ret (v := .tuple #[Tup.zero.v, .bool false]) (by simp [results, Try.results7, go_sem, Tup.zero, hc, hf, hz, hc2, hf2, hz2]) rfl ⟨rfl, (by repeat (first | (with_reducible first | exact Below.refl _ _ | assumption | refine Below.alloc ?_ ?_ _ | refine Below.drew ?_ | refine pw_drewN ?_ _ | refine Below.setCell ?_ ?_ _ | refine below_trans ?_ (by assumption) ?_) | (focus (simp; done)) | (focus (simp; omega)) | omega))⟩
set_option maxHeartbeats 1000000 in
theorem of_yes (p : Pk) (hr : 0 ≤ p.rest ∧ p.rest ≤ 4294967295) (w : World) (h1 : p.isIp = true) (h2 : wholeB p.frag = true) (h3 : knownB p.kind p.ty p.code = true) : Calls Try.prog 7 #[p.v] w fun e w' => e = .returned (.tuple #[p.tup.v, .bool true]) ∧ Below w.heap.size w w' := by
  have Hr := Lib.hid hr
  clear hr
  go_enter Try.func7, Try.ntmps7
  go_wp2_with (first | (go_at_call 18; refine (whole_any p _).mono ?_; rintro e w1 ⟨rfl, hb⟩; obtain ⟨hc, hf⟩ := bcell hb; obtain ⟨hy, hz⟩ := size2 hb; have G1 := keep2 hb) | (go_at_call 19; refine (known_any p _).mono ?_; rintro e w2 ⟨rfl, hb2⟩; obtain ⟨hc2, hf2⟩ := bcell hb2; have hz2 := Nat.lt_of_lt_of_le hz hb2.size; have hy2 := Nat.lt_of_lt_of_le hy hb2.size; have G2 := keep1 hb2 hy G1) | (refine wpList_load_row rfl 33 _ rfl _ rfl 33 (Pk.cells p) (0, 0) _ G2 Try.underlying33 rfl info33 ?_) | (go_at_call 20; refine (ports_any p Hr.out _).mono ?_; rintro e w3 ⟨rfl, hb3⟩; obtain ⟨hc3, hf3⟩ := bcell hb3; have hz3 := Nat.lt_of_lt_of_le hz2 hb3.size; have hy3 := Nat.lt_of_lt_of_le hy2 hb3.size))
  refine bodyPost_ret (v := .tuple #[p.tup.v, .bool true]) (by simp [results, Try.results7, go_sem, Pk.tup, hc, hf, hz, hc2, hf2, hz2, hc3, hf3, hz3]) rfl ⟨rfl, (by repeat (first | (with_reducible first | exact Below.refl _ _ | assumption | refine Below.alloc ?_ ?_ _ | refine Below.drew ?_ | refine pw_drewN ?_ _ | refine Below.setCell ?_ ?_ _ | refine below_trans ?_ (by assumption) ?_) | (focus (simp; done)) | (focus (simp; omega)) | omega))⟩
theorem of_any (p : Pk) (hp : p.ok) (w : World) : Calls Try.prog 7 #[p.v] w fun e w' => e = .returned (ofV p) ∧ Below w.heap.size w w' := by
  cases h1 : p.isIp
  · have e1 : ofV p = .tuple #[Tup.zero.v, .bool false] := by simp [ofV, hasB, h1]
    rw [e1]
    exact of_no1 p w h1
  cases h2 : wholeB p.frag
  · have e1 : ofV p = .tuple #[Tup.zero.v, .bool false] := by simp [ofV, hasB, h2]
    rw [e1]
    exact of_no2 p w h1 h2
  cases h3 : knownB p.kind p.ty p.code
  · have e1 : ofV p = .tuple #[Tup.zero.v, .bool false] := by simp [ofV, hasB, h3]
    rw [e1]
    exact of_no3 p w h1 h2 h3
  · have e1 : ofV p = .tuple #[p.tup.v, .bool true] := by simp [ofV, hasB, h1, h2, h3]
    rw [e1]
    exact of_yes p (rest_range hp.2.2.2.1) w h1 h2 h3
end Go.Proofs.Ytomfgdkmkacebaa
