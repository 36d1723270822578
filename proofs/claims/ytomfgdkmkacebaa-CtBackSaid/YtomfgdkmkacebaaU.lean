/- A packet and a tuple as they come in: what their cells hold. -/
import Derived.Test.YtomfgdkmkacebaaT
import Derived.WalkKit
import Derived.ProofKit
import Derived.OpenShut
import Derived.ShutString
import Derived.ChangeOld
import Derived.SizedLaws
namespace Go.Proofs.Ytomfgdkmkacebaa
open Go.ChangeShapes Go.WideShapes Go.ChangeAt Go.RowKit
section
variable {H : Type} {enc : TypeId × Value → H} {P : Program} {w : World} {base : Nat} {spare : Nat → Bool} {held : Bool} {fuel : Nat} {t : TypeId} {cs : List Value} {x : DataW H × List MemPlace}
theorem trod_field {fs : Array Field} (ht : P.underlying t = some (.struct fs)) (h : DataW.trod enc P w base spare held fuel t cs = some x) (i T o : Nat) (hf : (fs[i]?).map (fun f => (f.type, f.offset)) = some (T, o)) : ∃ n y, DataW.trod enc P w base spare held n T ((cs.drop o).take (P.cellsOf T)) = some y := by
  obtain ⟨f, hf1, he⟩ := Option.map_eq_some_iff.1 hf
  cases he
  obtain ⟨xs, n, _, _, _, hlen, hh⟩ := DataW.trod_struct ht h
  have h1 := hh i f hf1
  have h2 : i < xs.length := by rw [hlen]; exact (Array.getElem?_eq_some_iff.1 hf1).1
  rw [List.getElem?_eq_getElem h2] at h1
  exact ⟨n, _, h1⟩
theorem get_of {l : List Value} {o : Nat} {v : Value} (h : (l.drop o).take 1 = [v]) : l[o]? = some v := by
  have := congrArg (fun l => l[0]?) h
  simpa using this
theorem get_in {l : List Value} {a m o : Nat} {v : Value} (ho : o < m) (h : ((l.drop a).take m)[o]? = some v) : l[a + o]? = some v := by
  rw [List.getElem?_take_of_lt ho, List.getElem?_drop] at h
  exact h
theorem leaf_int {k : IntKind} {o : Nat} (hu : P.underlying t = some (.int k)) (hm : P.cellsOf t = 1) (h : DataW.trod enc P w base spare held fuel t ((cs.drop o).take (P.cellsOf t)) = some x) : ∃ n, cs[o]? = some (.int k n) ∧ (Lit.int k n).wf = true := by
  rw [hm] at h
  obtain ⟨n, h1, _, hw⟩ := DataW.trod_int hu h
  exact ⟨n, get_of h1, hw⟩
theorem leaf_bool {o : Nat} (hu : P.underlying t = some .bool) (hm : P.cellsOf t = 1) (h : DataW.trod enc P w base spare held fuel t ((cs.drop o).take (P.cellsOf t)) = some x) : ∃ b, cs[o]? = some (.bool b) := by
  rw [hm] at h
  obtain ⟨b, h1, _⟩ := DataW.trod_bool hu h
  exact ⟨b, get_of h1⟩
theorem leaf_str {o : Nat} (hu : P.underlying t = some .string) (hm : P.cellsOf t = 1) (h : DataW.trod enc P w base spare held fuel t ((cs.drop o).take (P.cellsOf t)) = some x) : ∃ s : ByteArray, cs[o]? = some (.string s) ∧ s.size ≤ maxLen := by
  rw [hm] at h
  obtain ⟨s, h1, _, hs⟩ := DataW.trod_string hu h
  exact ⟨s, get_of h1, hs⟩
end
theorem u4 : Try.prog.underlying 4 = some .bool := by kernel_rfl
theorem u9 : Try.prog.underlying 9 = some .string := by kernel_rfl
theorem u22 : Try.prog.underlying 22 = some (.int .u64) := by kernel_rfl
theorem co3 : Try.prog.cellsOf 3 = 1 := by kernel_rfl
theorem co4 : Try.prog.cellsOf 4 = 1 := by kernel_rfl
theorem co9 : Try.prog.cellsOf 9 = 1 := by kernel_rfl
theorem co22 : Try.prog.cellsOf 22 = 1 := by kernel_rfl
theorem co25 : Try.prog.cellsOf 25 = 1 := by kernel_rfl
theorem co33 : Try.prog.cellsOf 33 = 36 := by kernel_rfl
theorem co24 : Try.prog.cellsOf 24 = 5 := by kernel_rfl
theorem co27 : Try.prog.cellsOf 27 = 5 := by kernel_rfl
theorem co29 : Try.prog.cellsOf 29 = 8 := by kernel_rfl
theorem co31 : Try.prog.cellsOf 31 = 14 := by kernel_rfl
theorem co35 : Try.prog.cellsOf 35 = 5 := by kernel_rfl
section
variable {H : Type} {enc : TypeId × Value → H} {w : World} {base : Nat} {spare : Nat → Bool} {held : Bool} {fuel : Nat} {cs : List Value} {x : DataW H × List MemPlace}
/-- All the numbers that a packet's fields hold are of their kinds; its strings are no longer than strings are. -/
def Pk.full (p : Pk) : Prop := p.ok ∧ (Lit.int .u64 p.ed).wf = true ∧ (Lit.int .u64 p.es).wf = true ∧ (Lit.int .i64 p.etag).wf = true ∧ (Lit.int .i64 p.ety).wf = true ∧ (Lit.int .i64 p.aop).wf = true ∧ (Lit.int .u64 p.asha).wf = true ∧ (Lit.int .u32 p.aspa).wf = true ∧ (Lit.int .u64 p.atha).wf = true ∧ (Lit.int .u32 p.atpa).wf = true ∧ (Lit.int .i64 p.tos).wf = true ∧ (Lit.int .i64 p.id).wf = true ∧ (Lit.int .i64 p.frag).wf = true ∧ (Lit.int .i64 p.ttl).wf = true ∧ (Lit.int .i64 p.proto).wf = true ∧ (Lit.int .u32 p.src).wf = true ∧ (Lit.int .u32 p.dst).wf = true ∧ (Lit.int .i64 p.kind).wf = true ∧ (Lit.int .i64 p.ty).wf = true ∧ (Lit.int .i64 p.code).wf = true ∧ (Lit.int .u32 p.rest).wf = true ∧ (Lit.int .i64 p.sport).wf = true ∧ (Lit.int .i64 p.dport).wf = true ∧ (Lit.int .u32 p.seq).wf = true ∧ (Lit.int .u32 p.ack).wf = true ∧ (Lit.int .i64 p.flags).wf = true ∧ (Lit.int .i64 p.win).wf = true ∧ (Lit.int .i64 p.urg).wf = true
theorem open_pk (h : DataW.trod enc Try.prog w base spare held fuel 33 cs = some x) : ∃ p : Pk, cs = p.cells.toList ∧ p.ok := by
  have hl : cs.length = 36 := by
    obtain ⟨_, _, _, _, hl, _⟩ := DataW.trod_struct Try.underlying33 h
    rw [hl, co33]
  obtain ⟨_, _, h_0⟩ := trod_field Try.underlying33 h 0 24 0 rfl
  rw [co24] at h_0
  obtain ⟨_, _, h_0_0⟩ := trod_field Try.underlying24 h_0 0 22 0 rfl
  obtain ⟨a0, g0, w0⟩ := leaf_int u22 co22 h_0_0
  replace g0 := get_in (by decide) g0
  obtain ⟨_, _, h_0_1⟩ := trod_field Try.underlying24 h_0 1 22 1 rfl
  obtain ⟨a1, g1, w1⟩ := leaf_int u22 co22 h_0_1
  replace g1 := get_in (by decide) g1
  obtain ⟨_, _, h_0_2⟩ := trod_field Try.underlying24 h_0 2 4 2 rfl
  obtain ⟨a2, g2⟩ := leaf_bool u4 co4 h_0_2
  replace g2 := get_in (by decide) g2
  obtain ⟨_, _, h_0_3⟩ := trod_field Try.underlying24 h_0 3 3 3 rfl
  obtain ⟨a3, g3, w3⟩ := leaf_int u3 co3 h_0_3
  replace g3 := get_in (by decide) g3
  obtain ⟨_, _, h_0_4⟩ := trod_field Try.underlying24 h_0 4 3 4 rfl
  obtain ⟨a4, g4, w4⟩ := leaf_int u3 co3 h_0_4
  replace g4 := get_in (by decide) g4
  obtain ⟨_, _, h_1⟩ := trod_field Try.underlying33 h 1 4 5 rfl
  obtain ⟨a5, g5⟩ := leaf_bool u4 co4 h_1
  obtain ⟨_, _, h_2⟩ := trod_field Try.underlying33 h 2 27 6 rfl
  rw [co27] at h_2
  obtain ⟨_, _, h_2_0⟩ := trod_field Try.underlying27 h_2 0 3 0 rfl
  obtain ⟨a6, g6, w6⟩ := leaf_int u3 co3 h_2_0
  replace g6 := get_in (by decide) g6
  obtain ⟨_, _, h_2_1⟩ := trod_field Try.underlying27 h_2 1 22 1 rfl
  obtain ⟨a7, g7, w7⟩ := leaf_int u22 co22 h_2_1
  replace g7 := get_in (by decide) g7
  obtain ⟨_, _, h_2_2⟩ := trod_field Try.underlying27 h_2 2 25 2 rfl
  obtain ⟨a8, g8, w8⟩ := leaf_int u25 co25 h_2_2
  replace g8 := get_in (by decide) g8
  obtain ⟨_, _, h_2_3⟩ := trod_field Try.underlying27 h_2 3 22 3 rfl
  obtain ⟨a9, g9, w9⟩ := leaf_int u22 co22 h_2_3
  replace g9 := get_in (by decide) g9
  obtain ⟨_, _, h_2_4⟩ := trod_field Try.underlying27 h_2 4 25 4 rfl
  obtain ⟨a10, g10, w10⟩ := leaf_int u25 co25 h_2_4
  replace g10 := get_in (by decide) g10
  obtain ⟨_, _, h_3⟩ := trod_field Try.underlying33 h 3 4 11 rfl
  obtain ⟨a11, g11⟩ := leaf_bool u4 co4 h_3
  obtain ⟨_, _, h_4⟩ := trod_field Try.underlying33 h 4 29 12 rfl
  rw [co29] at h_4
  obtain ⟨_, _, h_4_0⟩ := trod_field Try.underlying29 h_4 0 3 0 rfl
  obtain ⟨a12, g12, w12⟩ := leaf_int u3 co3 h_4_0
  replace g12 := get_in (by decide) g12
  obtain ⟨_, _, h_4_1⟩ := trod_field Try.underlying29 h_4 1 3 1 rfl
  obtain ⟨a13, g13, w13⟩ := leaf_int u3 co3 h_4_1
  replace g13 := get_in (by decide) g13
  obtain ⟨_, _, h_4_2⟩ := trod_field Try.underlying29 h_4 2 3 2 rfl
  obtain ⟨a14, g14, w14⟩ := leaf_int u3 co3 h_4_2
  replace g14 := get_in (by decide) g14
  obtain ⟨_, _, h_4_3⟩ := trod_field Try.underlying29 h_4 3 3 3 rfl
  obtain ⟨a15, g15, w15⟩ := leaf_int u3 co3 h_4_3
  replace g15 := get_in (by decide) g15
  obtain ⟨_, _, h_4_4⟩ := trod_field Try.underlying29 h_4 4 3 4 rfl
  obtain ⟨a16, g16, w16⟩ := leaf_int u3 co3 h_4_4
  replace g16 := get_in (by decide) g16
  obtain ⟨_, _, h_4_5⟩ := trod_field Try.underlying29 h_4 5 25 5 rfl
  obtain ⟨a17, g17, w17⟩ := leaf_int u25 co25 h_4_5
  replace g17 := get_in (by decide) g17
  obtain ⟨_, _, h_4_6⟩ := trod_field Try.underlying29 h_4 6 25 6 rfl
  obtain ⟨a18, g18, w18⟩ := leaf_int u25 co25 h_4_6
  replace g18 := get_in (by decide) g18
  obtain ⟨_, _, h_4_7⟩ := trod_field Try.underlying29 h_4 7 9 7 rfl
  obtain ⟨a19, g19, w19⟩ := leaf_str u9 co9 h_4_7
  replace g19 := get_in (by decide) g19
  obtain ⟨_, _, h_5⟩ := trod_field Try.underlying33 h 5 31 20 rfl
  rw [co31] at h_5
  obtain ⟨_, _, h_5_0⟩ := trod_field Try.underlying31 h_5 0 3 0 rfl
  obtain ⟨a20, g20, w20⟩ := leaf_int u3 co3 h_5_0
  replace g20 := get_in (by decide) g20
  obtain ⟨_, _, h_5_1⟩ := trod_field Try.underlying31 h_5 1 3 1 rfl
  obtain ⟨a21, g21, w21⟩ := leaf_int u3 co3 h_5_1
  replace g21 := get_in (by decide) g21
  obtain ⟨_, _, h_5_2⟩ := trod_field Try.underlying31 h_5 2 3 2 rfl
  obtain ⟨a22, g22, w22⟩ := leaf_int u3 co3 h_5_2
  replace g22 := get_in (by decide) g22
  obtain ⟨_, _, h_5_3⟩ := trod_field Try.underlying31 h_5 3 25 3 rfl
  obtain ⟨a23, g23, w23⟩ := leaf_int u25 co25 h_5_3
  replace g23 := get_in (by decide) g23
  obtain ⟨_, _, h_5_4⟩ := trod_field Try.underlying31 h_5 4 3 4 rfl
  obtain ⟨a24, g24, w24⟩ := leaf_int u3 co3 h_5_4
  replace g24 := get_in (by decide) g24
  obtain ⟨_, _, h_5_5⟩ := trod_field Try.underlying31 h_5 5 3 5 rfl
  obtain ⟨a25, g25, w25⟩ := leaf_int u3 co3 h_5_5
  replace g25 := get_in (by decide) g25
  obtain ⟨_, _, h_5_6⟩ := trod_field Try.underlying31 h_5 6 4 6 rfl
  obtain ⟨a26, g26⟩ := leaf_bool u4 co4 h_5_6
  replace g26 := get_in (by decide) g26
  obtain ⟨_, _, h_5_7⟩ := trod_field Try.underlying31 h_5 7 25 7 rfl
  obtain ⟨a27, g27, w27⟩ := leaf_int u25 co25 h_5_7
  replace g27 := get_in (by decide) g27
  obtain ⟨_, _, h_5_8⟩ := trod_field Try.underlying31 h_5 8 25 8 rfl
  obtain ⟨a28, g28, w28⟩ := leaf_int u25 co25 h_5_8
  replace g28 := get_in (by decide) g28
  obtain ⟨_, _, h_5_9⟩ := trod_field Try.underlying31 h_5 9 3 9 rfl
  obtain ⟨a29, g29, w29⟩ := leaf_int u3 co3 h_5_9
  replace g29 := get_in (by decide) g29
  obtain ⟨_, _, h_5_10⟩ := trod_field Try.underlying31 h_5 10 3 10 rfl
  obtain ⟨a30, g30, w30⟩ := leaf_int u3 co3 h_5_10
  replace g30 := get_in (by decide) g30
  obtain ⟨_, _, h_5_11⟩ := trod_field Try.underlying31 h_5 11 3 11 rfl
  obtain ⟨a31, g31, w31⟩ := leaf_int u3 co3 h_5_11
  replace g31 := get_in (by decide) g31
  obtain ⟨_, _, h_5_12⟩ := trod_field Try.underlying31 h_5 12 9 12 rfl
  obtain ⟨a32, g32, w32⟩ := leaf_str u9 co9 h_5_12
  replace g32 := get_in (by decide) g32
  obtain ⟨_, _, h_5_13⟩ := trod_field Try.underlying31 h_5 13 9 13 rfl
  obtain ⟨a33, g33, w33⟩ := leaf_str u9 co9 h_5_13
  replace g33 := get_in (by decide) g33
  obtain ⟨_, _, h_6⟩ := trod_field Try.underlying33 h 6 9 34 rfl
  obtain ⟨a34, g34, w34⟩ := leaf_str u9 co9 h_6
  obtain ⟨_, _, h_7⟩ := trod_field Try.underlying33 h 7 9 35 rfl
  obtain ⟨a35, g35, w35⟩ := leaf_str u9 co9 h_7
  refine ⟨⟨a0, a1, a2, a3, a4, a5, a6, a7, a8, a9, a10, a11, a12, a13, a14, a15, a16, a17, a18, a19, a20, a21, a22, a23, a24, a25, a26, a27, a28, a29, a30, a31, a32, a33, a34, a35⟩, ?_, ?_⟩
  · apply List.ext_getElem?
    intro i
    by_cases hi : i < 36
    · exact (match i, hi with
        | 0, _ => g0
        | 1, _ => g1
        | 2, _ => g2
        | 3, _ => g3
        | 4, _ => g4
        | 5, _ => g5
        | 6, _ => g6
        | 7, _ => g7
        | 8, _ => g8
        | 9, _ => g9
        | 10, _ => g10
        | 11, _ => g11
        | 12, _ => g12
        | 13, _ => g13
        | 14, _ => g14
        | 15, _ => g15
        | 16, _ => g16
        | 17, _ => g17
        | 18, _ => g18
        | 19, _ => g19
        | 20, _ => g20
        | 21, _ => g21
        | 22, _ => g22
        | 23, _ => g23
        | 24, _ => g24
        | 25, _ => g25
        | 26, _ => g26
        | 27, _ => g27
        | 28, _ => g28
        | 29, _ => g29
        | 30, _ => g30
        | 31, _ => g31
        | 32, _ => g32
        | 33, _ => g33
        | 34, _ => g34
        | 35, _ => g35
        | k + 36, hk => absurd hk (by omega))
    · rw [List.getElem?_eq_none (by omega), List.getElem?_eq_none (by simp [Pk.size]; omega)]
  · exact ⟨w16, w17, w18, w23, w24, w25⟩
end
section
variable {H : Type} {enc : TypeId × Value → H} {w : World} {base : Nat} {spare : Nat → Bool} {held : Bool} {fuel : Nat} {cs : List Value} {x : DataW H × List MemPlace}
theorem open_tup (h : DataW.trod enc Try.prog w base spare held fuel 35 cs = some x) : ∃ p : Tup, cs = p.v.cells.toList ∧ p.ok := by
  have hl : cs.length = 5 := by
    obtain ⟨_, _, _, _, hl, _⟩ := DataW.trod_struct Try.underlying35 h
    rw [hl, co35]
  obtain ⟨_, _, h_0⟩ := trod_field Try.underlying35 h 0 3 0 rfl
  obtain ⟨a0, g0, w0⟩ := leaf_int u3 co3 h_0
  obtain ⟨_, _, h_1⟩ := trod_field Try.underlying35 h 1 25 1 rfl
  obtain ⟨a1, g1, w1⟩ := leaf_int u25 co25 h_1
  obtain ⟨_, _, h_2⟩ := trod_field Try.underlying35 h 2 25 2 rfl
  obtain ⟨a2, g2, w2⟩ := leaf_int u25 co25 h_2
  obtain ⟨_, _, h_3⟩ := trod_field Try.underlying35 h 3 3 3 rfl
  obtain ⟨a3, g3, w3⟩ := leaf_int u3 co3 h_3
  obtain ⟨_, _, h_4⟩ := trod_field Try.underlying35 h 4 3 4 rfl
  obtain ⟨a4, g4, w4⟩ := leaf_int u3 co3 h_4
  refine ⟨⟨a0, a1, a2, a3, a4⟩, ?_, ?_⟩
  · apply List.ext_getElem?
    intro i
    by_cases hi : i < 5
    · exact (match i, hi with
        | 0, _ => g0
        | 1, _ => g1
        | 2, _ => g2
        | 3, _ => g3
        | 4, _ => g4
        | k + 5, hk => absurd hk (by omega))
    · rw [List.getElem?_eq_none (by omega), List.getElem?_eq_none (by simp [Value.cells]; omega)]
  · exact ⟨w0, w1, w2, w3, w4⟩
end
end Go.Proofs.Ytomfgdkmkacebaa
