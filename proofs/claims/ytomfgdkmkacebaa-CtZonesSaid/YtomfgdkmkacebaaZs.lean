/- A slice of packets as it comes in: its cells and its length. No condition beyond the parameter's own. -/
import Derived.Test.YtomfgdkmkacebaaZq
import Derived.Test.YtomfgdkmkacebaaU
namespace Go.Proofs.Ytomfgdkmkacebaa
open Go.ChangeShapes Go.WideShapes Go.ChangeAt Go.RowKit
set_option linter.unusedVariables false
theorem pick_each {α : Type} {q : Nat → α → Prop} : ∀ (n : Nat), (∀ i, i < n → ∃ x, q i x) → ∃ l : List α, l.length = n ∧ ∀ i x, l[i]? = some x → q i x
  | 0, _ => ⟨[], rfl, by simp⟩
  | n + 1, h => by
    obtain ⟨l, hl, hq⟩ := pick_each n (fun i hi => h i (by omega))
    obtain ⟨x, hx⟩ := h n (by omega)
    refine ⟨l ++ [x], by simp [hl], fun i y hy => ?_⟩
    by_cases hi : i < n
    · rw [List.getElem?_append_left (by omega)] at hy
      exact hq i y hy
    · rw [List.getElem?_append_right (by omega)] at hy
      have h0 : i - l.length = 0 := by
        have := (List.getElem?_eq_some_iff.1 hy).1
        simp at this
        omega
      rw [h0] at hy
      have h1 : i = n := by omega
      subst h1
      have : x = y := by simpa using hy
      exact this ▸ hx
theorem read_pks {H : Type} {enc : TypeId × Value → H} {W : World} {base : Nat} {spare : Nat → Bool} {held : Bool} {a : Option Addr} {len cap : Nat} {d : DataW H} {ps : List MemPlace} {ts : List TypeId} {ds : List (DataW H)} {j : Nat}
    (hsz : (DataW.weightsEach Try.prog ts ds).all (· ≤ reachBytes) = true) (ht : ts[j]? = some 56) (hd : ds[j]? = some d) (hu : Try.prog.underlying 56 = some (.slice 33)) {B : Nat} (hB : Try.prog.bytesOf 33 = B) (hB36 : 36 ≤ B)
    (h : DataW.Trod enc Try.prog W base spare held 56 (.slice a len cap) d ps) : (∃ L, IsPks W a len L) ∧ len * 36 ≤ 140737488351232 := by
  obtain ⟨fuel, hf⟩ := h
  rcases DataW.trod_slice hu hf with ⟨hcs, _⟩ | ⟨x, l, c, elems, rest, n, _, hcs, hx, hb, hl, hm, hlen, hel, _, _⟩
  · simp [Value.cells] at hcs
    obtain ⟨rfl, rfl, rfl⟩ := hcs
    exact ⟨⟨[], .inl ⟨rfl, rfl⟩⟩, by simp⟩
  · simp [Value.cells] at hcs
    obtain ⟨rfl, rfl, rfl⟩ := hcs
    obtain ⟨hx, _⟩ := Prod.mk.inj hx
    subst hx
    constructor
    · obtain ⟨L, hL, hq⟩ := pick_each (q := fun i p => p.ok ∧ PkAt W (x.add (i * 36)) p) len (fun i hi => by
        have h1 := hel i hi
        rw [co33, List.getElem?_eq_getElem (by omega), Option.bind_eq_some_iff] at h1
        obtain ⟨cs, hc, hy⟩ := h1
        obtain ⟨p, rfl, hp⟩ := open_pk hy
        refine ⟨p, hp, fun k v hk => ?_⟩
        obtain ⟨_, _, hat⟩ := World.cells?_some hc
        have hk2 : k < 36 := by have := (List.getElem?_eq_some_iff.1 hk).1; exact this
        exact (hat k hk2).trans hk)
      exact ⟨L, .inr ⟨x, rfl, by omega, hq⟩⟩
    · have z := sized_slice hsz ht hd hu
      rw [hB] at z
      simp only [List.length_map] at z
      have h1 : len * 36 ≤ len * B := Nat.mul_le_mul_left _ hB36
      have h2 : len * B ≤ (elems.length + rest.length) * B := Nat.mul_le_mul_right _ (by omega)
      have h3 : reachBytes = 140737488351232 := rfl
      omega
end Go.Proofs.Ytomfgdkmkacebaa
