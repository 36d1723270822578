/- CtZones: what the calls of its loop do. Conditions: the zones are zones, the packets' numbers are of their kinds. -/
import Derived.Test.YtomfgdkmkacebaaEx
namespace Go.Proofs.Ytomfgdkmkacebaa
open Go.RowKit Go.MapKept
set_option linter.unusedSimpArgs false
set_option linter.unusedVariables false

/-- All connections lie in zone a, none has run out or been turned by the way. -/
def ZoT (a : Int) (B : Nat) (L : List (Nat × Cn)) : Prop := (∀ q ∈ L, q.2.zone = a ∧ q.2.exp = 30 ∧ q.2.nat = false ∧ B ≤ q.1) ∧ L.length ≤ 16
section
variable {w : World} {tb mo mr : Nat} {L : List (Nat × Cn)} {p : Pk} {B : Nat} {a b : Int}
theorem ZoT.live (h : ZoT a B L) : ∀ q ∈ L, (0 : Int) < q.2.exp := fun q hq => by have := (h.1 q hq).2.1; omega
theorem ZoT.touch (h : ZoT a B L) (r : Option (Nat × Cn)) : touchO r (0 + 30) L = L := by
  cases r with
  | none => rfl
  | some q =>
    simp only [touchO, Go.Proofs.Ytomfgdkmkacebaa.touch]
    refine (List.map_congr_left fun x hx => ?_).trans (List.map_id L)
    have he := (h.1 x hx).2.1
    split
    · obtain ⟨g, c⟩ := x
      cases c
      simp only at he
      subst he
      rfl
    · rfl
theorem zo_no {z : Int} (hp : p.ok) (hh : hasB p = false) (hz : 0 ≤ z ∧ z ≤ 65535) (h : Tab w tb mo mr 16 0 L) : Calls Try.prog 13 #[.pointer (some ⟨tb, 0, none⟩), .int .i64 z, ({ Sta.zero with p := p } : Sta).v] w fun e w' =>
    e = .returned (.tuple #[Sta.zero.v, .int .i64 81]) ∧ Tab w' tb mo mr 16 0 L ∧ Keeps w w' (LookB mo mr L) :=
  look_no h { Sta.zero with p := p } ⟨hp, tup_zero_ok⟩ z hz hh
theorem zo_look_a (hp : p.ok) (hh : hasB p = true) (hz : 0 ≤ a ∧ a ≤ 65535) (h : Tab w tb mo mr 16 0 L) (hT : ZoT a B L) : Calls Try.prog 13 #[.pointer (some ⟨tb, 0, none⟩), .int .i64 a, ({ Sta.zero with p := p } : Sta).v] w fun e w' =>
    ∃ s : Sta, e = .returned (.tuple #[s.v, .int .i64 0]) ∧ (s.p = p ∧ s.orig = p.tup) ∧ Tab w' tb mo mr 16 0 L ∧ Keeps w w' (LookB mo mr L) :=
  (look_yes h { Sta.zero with p := p } ⟨hp, tup_zero_ok⟩ a hz hh (by omega)).mono fun e w' ⟨⟨r, b, L2, hf, he, hTb⟩, hk⟩ => by
    obtain ⟨rfl, hr⟩ := hf.live hT.live
    rw [hT.touch] at hTb
    refine ⟨_, he, ?_, hTb, hk⟩
    cases r with
    | none => exact ⟨rfl, rfl⟩
    | some q =>
      have hq : q ∈ L2 := hf.mem
      have hn := (hT.1 q hq).2.2.1
      simp [lookSt, hn]
theorem zo_look_b (hp : p.ok) (hh : hasB p = true) (hz : 0 ≤ b ∧ b ≤ 65535) (hab : a ≠ b) (h : Tab w tb mo mr 16 0 L) (hT : ZoT a B L) : Calls Try.prog 13 #[.pointer (some ⟨tb, 0, none⟩), .int .i64 b, ({ Sta.zero with p := p } : Sta).v] w fun e w' =>
    e = .returned (.tuple #[({ Sta.zero with p := p, ct := 1, orig := p.tup } : Sta).v, .int .i64 0]) ∧ Tab w' tb mo mr 16 0 L ∧ Keeps w w' (LookB mo mr L) :=
  (look_yes h { Sta.zero with p := p } ⟨hp, tup_zero_ok⟩ b hz hh (by omega)).mono fun e w' ⟨⟨r, b1, L2, hf, he, hTb⟩, hk⟩ => by
    obtain ⟨rfl, hr⟩ := hf.live hT.live
    rw [hT.touch] at hTb
    have hr : r = none := by
      rcases hr with ⟨q, hq, _, _, ho⟩ | ⟨q, hq, _, _, ho, _⟩ | ⟨hr, _⟩
      · exact absurd ((hT.1 q hq).1.symm.trans ho.1) hab
      · exact absurd ((hT.1 q hq).1.symm.trans ho.1) hab
      · exact hr
    subst hr
    exact ⟨he, hTb, hk⟩
theorem zo_commit {s : Sta} (hp : p.ok) (hh : hasB p = true) (hs : s.p = p ∧ s.orig = p.tup) (hz : 0 ≤ a ∧ a ≤ 65535) (hB : B ≤ w.heap.size) (h : Tab w tb mo mr 16 0 L) (hT : ZoT a B L) : Calls Try.prog 14 #[.pointer (some ⟨tb, 0, none⟩), .int .i64 a, s.v] w fun e w' =>
    ∃ (n : Int) (L' : List (Nat × Cn)), e = .returned (.int .i64 n) ∧ Tab w' tb mo mr 16 0 L' ∧ ZoT a B L' ∧ Keeps w w' (Maps2 mo mr) := by
  obtain ⟨rfl, ho⟩ := hs
  refine (commit_any h (Nat.le_trans hT.2 (by omega)) s ⟨hp, by rw [ho]; exact Pk.tup_ok hp⟩ a hz hh (by rw [ho]) (by omega)).mono fun e w' ⟨hc, hk⟩ => ?_
  rcases hc with ⟨q, b, L1, hf, rfl, hT1⟩ | ⟨b, L1, n, g, L', hf, rfl, ha, hT1, hg⟩
  · obtain ⟨rfl, _⟩ := hf.live hT.live
    exact ⟨_, _, rfl, hT1, hT, hk⟩
  · obtain ⟨rfl, _⟩ := hf.live hT.live
    rcases ha.live hT.live with ⟨_, _, rfl⟩ | ⟨_, ⟨_, _, rfl⟩ | ⟨hlt, _, rfl⟩⟩
    · exact ⟨_, _, rfl, hT1, hT, hk⟩
    · exact ⟨_, _, rfl, hT1, hT, hk⟩
    · refine ⟨_, _, rfl, hT1, ⟨fun q hq => ?_, ?_⟩, hk⟩
      · rcases List.mem_cons.1 hq with rfl | hq
        · exact ⟨rfl, rfl, by simp [newCn, ho], Nat.le_trans hB hg⟩
        · exact hT.1 q hq
      · have hall : L1.filter (selB (newCn a 0 s).zone 0) = L1 := List.filter_eq_self.2 fun q hq => by
          have h1 := hT.1 q hq
          simp [selB, newCn, h1.1, h1.2.1]
        rw [hall] at hlt
        simp only [List.length_cons]
        omega
theorem zo_count_b (hab : a ≠ b) (h : Tab w tb mo mr 16 0 L) (hT : ZoT a B L) : Calls Try.prog 16 #[.pointer (some ⟨tb, 0, none⟩), .int .i64 b] w fun e w' => e = .returned (.int .i64 0) ∧ Tab w' tb mo mr 16 0 L ∧ Keeps w w' (fun _ => False) :=
  (count_any h (Nat.le_trans hT.2 (by omega)) b).mono fun e w' ⟨he, hTb, hk⟩ => by
    have hnil : L.filter (selB b 0) = [] := List.filter_eq_nil_iff.2 fun q hq => by
      have h1 := hT.1 q hq
      simp [selB, h1.1, hab]
    rw [hnil] at he
    exact ⟨he, hTb, hk⟩
theorem zo_count_a (h : Tab w tb mo mr 16 0 L) (hT : ZoT a B L) : Calls Try.prog 16 #[.pointer (some ⟨tb, 0, none⟩), .int .i64 a] w fun e w' => e = .returned (.int .i64 L.length) ∧ Tab w' tb mo mr 16 0 L ∧ Keeps w w' (fun _ => False) :=
  (count_any h (Nat.le_trans hT.2 (by omega)) a).mono fun e w' ⟨he, hTb, hk⟩ => by
    have hall : L.filter (selB a 0) = L := List.filter_eq_self.2 fun q hq => by
      have h1 := hT.1 q hq
      simp [selB, h1.1, h1.2.1]
    rw [hall] at he
    exact ⟨he, hTb, hk⟩
theorem zo_drop_b (hab : a ≠ b) (h : Tab w tb mo mr 16 0 L) (hT : ZoT a B L) : Calls Try.prog 17 #[.pointer (some ⟨tb, 0, none⟩), .int .i64 b] w fun e w' => e = .returned (.int .i64 0) ∧ Tab w' tb mo mr 16 0 L ∧ Keeps w w' (Maps2 mo mr) :=
  (drop_all h (Nat.le_trans hT.2 (by omega)) b).mono fun e w' ⟨he, hTb, hk⟩ => by
    have hno : ∀ q ∈ L, selB b 0 q = false := fun q hq => by
      have h1 := hT.1 q hq
      simp [selB, h1.1, hab]
    have hnil : L.filter (selB b 0) = [] := List.filter_eq_nil_iff.2 fun q hq => by simp [hno q hq]
    have hall : (L.filter fun q => !selB b 0 q) = L := List.filter_eq_self.2 fun q hq => by simp [hno q hq]
    rw [hnil] at he
    rw [hall] at hTb
    exact ⟨he, hTb, hk⟩
theorem zo_drop_a (h : Tab w tb mo mr 16 0 L) (hT : ZoT a B L) : Calls Try.prog 17 #[.pointer (some ⟨tb, 0, none⟩), .int .i64 a] w fun e w' => e = .returned (.int .i64 L.length) ∧ Tab w' tb mo mr 16 0 [] ∧ Keeps w w' (Maps2 mo mr) :=
  (drop_all h (Nat.le_trans hT.2 (by omega)) a).mono fun e w' ⟨he, hTb, hk⟩ => by
    have hyes : ∀ q ∈ L, selB a 0 q = true := fun q hq => by
      have h1 := hT.1 q hq
      simp [selB, h1.1, h1.2.1]
    have hnil : (L.filter fun q => !selB a 0 q) = [] := List.filter_eq_nil_iff.2 fun q hq => by simp [hyes q hq]
    have hall : L.filter (selB a 0) = L := List.filter_eq_self.2 hyes
    rw [hall] at he
    rw [hnil] at hTb
    exact ⟨he, hTb, hk⟩
end
end Go.Proofs.Ytomfgdkmkacebaa
