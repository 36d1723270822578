/- CtZones' walk. Conditions: the packets lie in memory as they are read. -/
import Derived.Test.YtomfgdkmkacebaaZr
namespace Go.Proofs.Ytomfgdkmkacebaa
open Go.RowKit Go.MapKept
set_option linter.unusedSimpArgs false
set_option linter.unusedVariables false
set_option maxRecDepth 100000 in
set_option maxHeartbeats 8000000 in
theorem zones_law (ao : Option Addr) (len cap : Nat) (ps : List Pk) (a b : Int) (w : World) (hz : IsPks w ao len ps) (hlen : len * 36 ≤ 140737488351232) : Calls Try.prog 6 #[.slice ao len cap, .int .i64 a, .int .i64 b] w fun e w' => e = .returned (.bool true) ∧ Keeps w w' (fun _ => False) := by
  have hn1 := eql41_some
  go_enter Try.func6, Try.ntmps6
  go_wp2_with (first | (go_at_call 12; refine (new_good _ 16 (by omega)).mono ?_; rintro e w2 ⟨tb, mo, mr, rfl, hT, hk, hb1, hb2, hb3⟩; refine Stop.go ?_))
  have HB := Lib.hid (And.intro hb1 (And.intro hb2 hb3))
  have HST : St w (fun _ => False) (fun w => Tab w tb mo mr 16 0 []) w2 [] := ⟨hk, by simp, by simp, by simp, hT⟩
  have hmaps : ∀ i, Maps2 mo mr i → False ∨ w.heap.size ≤ i := fun i h => .inr (by rcases h with rfl | rfl; exact HB.out.2.1; exact HB.out.2.2)
  have HM := Lib.hid hmaps
  clear hk hb1 hb2 hb3 hT hmaps
  have STB := tab_stab tb mo mr 16 0 []
  refine Stop.mk ?_
  by_cases hg : 0 ≤ a ∧ a ≤ 65535 ∧ 0 ≤ b ∧ b ≤ 65535 ∧ a ≠ b
  · obtain ⟨g1, g2, g3, g4, g5⟩ := hg
    have d1 : decide (a < 0) = false := decide_eq_false (by omega)
    have d2 : decide (65535 < a) = false := decide_eq_false (by omega)
    have d3 : decide (b < 0) = false := decide_eq_false (by omega)
    have d4 : decide (65535 < b) = false := decide_eq_false (by omega)
    have d5 : (a == b) = false := by simpa using g5
    have G := Lib.hid (And.intro (And.intro g1 g2) (And.intro (And.intro g3 g4) g5))
    have A := Lib.hid (And.intro hz hlen)
    clear g1 g2 g3 g4 g5 hz hlen
    go_wp2_with (first | (go_at_call 9; refine (lives_any _).mono ?_; rintro e w4 ⟨rfl, hk4⟩; replace HST := HST.drawn_keep STB hk4; clear hk4))
    have BB0 := Lib.hid HST
    clear HST STB d1 d2 d3 d4 d5
    go_loopg [9] len (fun k v9 wr => ∃ (i : Nat) (L : List (Nat × Cn)), i + k = len ∧ v9 = .int .i64 i ∧ ZoT a w.heap.size L ∧ St w (fun _ => False) (fun w => Tab w tb mo mr 16 0 L) wr [])
    · exact ⟨0, [], by simp, rfl, ⟨by simp, by simp⟩, BB0.out⟩
    · obtain ⟨i, L, hik, rfl, hZ, HST⟩ := hrel
      have STB := tab_stab tb mo mr 16 0 L
      by_cases hi : i < len
      · have hd : decide ((i : Int) < (len : Int)) = true := decide_eq_true (by omega)
        obtain ⟨x, rfl, hlz, hps⟩ : ∃ x, ao = some x ∧ len ≤ ps.length ∧ ∀ i p, ps[i]? = some p → p.ok ∧ PkAt w (x.add (i * 36)) p := by
          rcases A.out.1 with ⟨_, h0⟩ | h
          · omega
          · exact h
        obtain ⟨hp, hpk⟩ := hps i _ (List.getElem?_eq_getElem (by omega))
        have BB := Lib.hid (And.intro hZ hik)
        generalize ps[i] = p at hp hpk
        clear hps hlz hik hZ
        cases hh : hasB p
        · have PK := Lib.hid (And.intro hp (And.intro hpk hh))
          clear hp hpk hh
          go_wp2_with (first | ((with_reducible refine gate_load rfl ?_); refine ld_pk rfl _ rfl _ p rfl (PK.out.2.1.keep HST.keeps) ?_) | ((with_reducible refine gate_build47p rfl ?_); refine bd_stap rfl _ rfl _ rfl ?_) | ((with_reducible refine gate_alloc rfl ?_); refine st_alloc rfl _ rfl HST STB _ zinfo47 _ rfl ?_; clear HST; intro g w1 hg hb HST; clear hg hb) | ((with_reducible refine gate_build47 rfl ?_); refine bd_sta rfl rfl ?_) | ((with_reducible refine gate_load rfl ?_); first | ((first | (refine ld_sta_p rfl _ rfl HST 0 _ _ rfl at0 ?_) | (refine ld_sta_p rfl _ rfl HST 1 _ _ rfl at1 ?_) | (refine ld_sta_p rfl _ rfl HST 2 _ _ rfl at2 ?_) | (refine ld_sta_p rfl _ rfl HST 3 _ _ rfl at3 ?_))) | ((first | (refine ld_sta_o rfl _ rfl HST 0 _ _ rfl at0 ?_) | (refine ld_sta_o rfl _ rfl HST 1 _ _ rfl at1 ?_) | (refine ld_sta_o rfl _ rfl HST 2 _ _ rfl at2 ?_) | (refine ld_sta_o rfl _ rfl HST 3 _ _ rfl at3 ?_))) | ((first | (refine ld_sta_all rfl _ rfl HST 0 _ _ rfl at0 ?_) | (refine ld_sta_all rfl _ rfl HST 1 _ _ rfl at1 ?_) | (refine ld_sta_all rfl _ rfl HST 2 _ _ rfl at2 ?_) | (refine ld_sta_all rfl _ rfl HST 3 _ _ rfl at3 ?_))) | ((first | (refine ld_sta_ct rfl _ rfl HST 0 _ _ rfl at0 ?_) | (refine ld_sta_ct rfl _ rfl HST 1 _ _ rfl at1 ?_) | (refine ld_sta_ct rfl _ rfl HST 2 _ _ rfl at2 ?_) | (refine ld_sta_ct rfl _ rfl HST 3 _ _ rfl at3 ?_))) | ((first | (refine ld_tup rfl _ rfl HST 0 _ _ rfl at0 ?_) | (refine ld_tup rfl _ rfl HST 1 _ _ rfl at1 ?_) | (refine ld_tup rfl _ rfl HST 2 _ _ rfl at2 ?_) | (refine ld_tup rfl _ rfl HST 3 _ _ rfl at3 ?_)))) | ((with_reducible refine gate_store rfl ?_); (first | ((first | (refine st_sta_p rfl _ _ rfl HST STB ok47 0 _ _ _ rfl rfl at0 _ set0 ?_) | (refine st_sta_p rfl _ _ rfl HST STB ok47 1 _ _ _ rfl rfl at1 _ set1 ?_) | (refine st_sta_p rfl _ _ rfl HST STB ok47 2 _ _ _ rfl rfl at2 _ set2 ?_) | (refine st_sta_p rfl _ _ rfl HST STB ok47 3 _ _ _ rfl rfl at3 _ set3 ?_))) | ((first | (refine st_sta_o rfl _ _ rfl HST STB ok47 0 _ _ _ rfl rfl at0 _ set0 ?_) | (refine st_sta_o rfl _ _ rfl HST STB ok47 1 _ _ _ rfl rfl at1 _ set1 ?_) | (refine st_sta_o rfl _ _ rfl HST STB ok47 2 _ _ _ rfl rfl at2 _ set2 ?_) | (refine st_sta_o rfl _ _ rfl HST STB ok47 3 _ _ _ rfl rfl at3 _ set3 ?_))) | ((first | (refine st_sta_ct rfl _ _ rfl HST STB ok47 0 _ _ _ rfl rfl at0 _ set0 ?_) | (refine st_sta_ct rfl _ _ rfl HST STB ok47 1 _ _ _ rfl rfl at1 _ set1 ?_) | (refine st_sta_ct rfl _ _ rfl HST STB ok47 2 _ _ _ rfl rfl at2 _ set2 ?_) | (refine st_sta_ct rfl _ _ rfl HST STB ok47 3 _ _ _ rfl rfl at3 _ set3 ?_))) | ((first | (refine st_sta_all rfl _ _ rfl HST STB ok47 0 _ _ _ rfl rfl at0 _ set0 ?_) | (refine st_sta_all rfl _ _ rfl HST STB ok47 1 _ _ _ rfl rfl at1 _ set1 ?_) | (refine st_sta_all rfl _ _ rfl HST STB ok47 2 _ _ _ rfl rfl at2 _ set2 ?_) | (refine st_sta_all rfl _ _ rfl HST STB ok47 3 _ _ _ rfl rfl at3 _ set3 ?_))) | ((first | (refine st_tup rfl _ _ rfl HST STB ok35 0 _ _ _ rfl rfl at0 _ set0 ?_) | (refine st_tup rfl _ _ rfl HST STB ok35 1 _ _ _ rfl rfl at1 _ set1 ?_) | (refine st_tup rfl _ _ rfl HST STB ok35 2 _ _ _ rfl rfl at2 _ set2 ?_) | (refine st_tup rfl _ _ rfl HST STB ok35 3 _ _ _ rfl rfl at3 _ set3 ?_)))); clear HST; intro w1 HST) | (go_at_call_of 13 (Value.int .i64 a); refine (zo_no PK.out.1 PK.out.2.2 G.out.1 HST.fr).mono ?_; rintro e w5 ⟨rfl, hT5, hk5⟩; replace HST := HST.turn (F' := fun w => Tab w tb mo mr 16 0 L) hk5 (fun i hi => hi.elim (HM.out i) (fun ⟨q, hq, hqi⟩ => .inr (hqi ▸ (BB.out.1.1 q hq).2.2.2))) (fun b hb hi => hi.elim (HST.no_maps2 b hb) (fun ⟨q, hq, hqi⟩ => HST.no_cn hq (by simp) b hb hqi.symm)) hT5; clear hk5 hT5) | (go_at_call_of 13 (Value.int .i64 b); refine (zo_no PK.out.1 PK.out.2.2 G.out.2.1 HST.fr).mono ?_; rintro e w5 ⟨rfl, hT5, hk5⟩; replace HST := HST.turn (F' := fun w => Tab w tb mo mr 16 0 L) hk5 (fun i hi => hi.elim (HM.out i) (fun ⟨q, hq, hqi⟩ => .inr (hqi ▸ (BB.out.1.1 q hq).2.2.2))) (fun b hb hi => hi.elim (HST.no_maps2 b hb) (fun ⟨q, hq, hqi⟩ => HST.no_cn hq (by simp) b hb hqi.symm)) hT5; clear hk5 hT5))
          have STD := HST.drew STB
          clear HST
          refine wp_region_still_tail 24 (by kernel_rfl) (by kernel_rfl) ?_
          simp only [List.take_succ_cons, List.take_zero, List.drop_succ_cons, List.drop_zero]
          iterate 7 (with_reducible refine wpStill_step ?_; intro K hK; go_simp; with_reducible refine hK _ ?_; clear hK K)
          iterate 12 (with_reducible refine still_skip (by kernel_rfl) ?_; simp only [Act.put, List.setIfInBounds_toArray, List.set_cons_zero, List.set_cons_succ])
          iterate 5 (with_reducible refine wpStill_step ?_; intro K hK; go_simp; with_reducible refine hK _ ?_; clear hK K)
          refine wpStill_nil ?_
          change wpList _ _ _ _ _ w1.drew
          have HST := STD
          clear STD
          generalize w1.drew = w2 at HST ⊢
          go_wp2_with (first | (go_at_call 16; refine (zo_count_b G.out.2.2 HST.fr BB.out.1).mono ?_; rintro e w5 ⟨rfl, hT5, hk5⟩; replace HST := HST.turn (F' := fun w => Tab w tb mo mr 16 0 L) hk5 (fun i hi => hi.elim) (fun b hb hi => hi) hT5; clear hk5 hT5))
          go_roundg (gk - 1)
          case measure => have := BB.out.2; omega
          case rel => exact ⟨i + 1, L, by have := BB.out.2; omega, by rw [show wrap64 ((i : Int) + 1) = ((i + 1 : Nat) : Int) by have := A.out.2; unfold wrap64; omega], BB.out.1, HST.forget.forget⟩
        · have PK := Lib.hid (And.intro hp (And.intro hpk hh))
          clear hp hpk hh
          go_wp2_with (first | ((with_reducible refine gate_load rfl ?_); refine ld_pk rfl _ rfl _ p rfl (PK.out.2.1.keep HST.keeps) ?_) | ((with_reducible refine gate_build47p rfl ?_); refine bd_stap rfl _ rfl _ rfl ?_) | ((with_reducible refine gate_alloc rfl ?_); refine st_alloc rfl _ rfl HST STB _ zinfo47 _ rfl ?_; clear HST; intro g w1 hg hb HST; clear hg hb) | ((with_reducible refine gate_build47 rfl ?_); refine bd_sta rfl rfl ?_) | ((with_reducible refine gate_load rfl ?_); first | ((first | (refine ld_sta_p rfl _ rfl HST 0 _ _ rfl at0 ?_) | (refine ld_sta_p rfl _ rfl HST 1 _ _ rfl at1 ?_) | (refine ld_sta_p rfl _ rfl HST 2 _ _ rfl at2 ?_) | (refine ld_sta_p rfl _ rfl HST 3 _ _ rfl at3 ?_))) | ((first | (refine ld_sta_o rfl _ rfl HST 0 _ _ rfl at0 ?_) | (refine ld_sta_o rfl _ rfl HST 1 _ _ rfl at1 ?_) | (refine ld_sta_o rfl _ rfl HST 2 _ _ rfl at2 ?_) | (refine ld_sta_o rfl _ rfl HST 3 _ _ rfl at3 ?_))) | ((first | (refine ld_sta_all rfl _ rfl HST 0 _ _ rfl at0 ?_) | (refine ld_sta_all rfl _ rfl HST 1 _ _ rfl at1 ?_) | (refine ld_sta_all rfl _ rfl HST 2 _ _ rfl at2 ?_) | (refine ld_sta_all rfl _ rfl HST 3 _ _ rfl at3 ?_))) | ((first | (refine ld_sta_ct rfl _ rfl HST 0 _ _ rfl at0 ?_) | (refine ld_sta_ct rfl _ rfl HST 1 _ _ rfl at1 ?_) | (refine ld_sta_ct rfl _ rfl HST 2 _ _ rfl at2 ?_) | (refine ld_sta_ct rfl _ rfl HST 3 _ _ rfl at3 ?_))) | ((first | (refine ld_tup rfl _ rfl HST 0 _ _ rfl at0 ?_) | (refine ld_tup rfl _ rfl HST 1 _ _ rfl at1 ?_) | (refine ld_tup rfl _ rfl HST 2 _ _ rfl at2 ?_) | (refine ld_tup rfl _ rfl HST 3 _ _ rfl at3 ?_)))) | ((with_reducible refine gate_store rfl ?_); (first | ((first | (refine st_sta_p rfl _ _ rfl HST STB ok47 0 _ _ _ rfl rfl at0 _ set0 ?_) | (refine st_sta_p rfl _ _ rfl HST STB ok47 1 _ _ _ rfl rfl at1 _ set1 ?_) | (refine st_sta_p rfl _ _ rfl HST STB ok47 2 _ _ _ rfl rfl at2 _ set2 ?_) | (refine st_sta_p rfl _ _ rfl HST STB ok47 3 _ _ _ rfl rfl at3 _ set3 ?_))) | ((first | (refine st_sta_o rfl _ _ rfl HST STB ok47 0 _ _ _ rfl rfl at0 _ set0 ?_) | (refine st_sta_o rfl _ _ rfl HST STB ok47 1 _ _ _ rfl rfl at1 _ set1 ?_) | (refine st_sta_o rfl _ _ rfl HST STB ok47 2 _ _ _ rfl rfl at2 _ set2 ?_) | (refine st_sta_o rfl _ _ rfl HST STB ok47 3 _ _ _ rfl rfl at3 _ set3 ?_))) | ((first | (refine st_sta_ct rfl _ _ rfl HST STB ok47 0 _ _ _ rfl rfl at0 _ set0 ?_) | (refine st_sta_ct rfl _ _ rfl HST STB ok47 1 _ _ _ rfl rfl at1 _ set1 ?_) | (refine st_sta_ct rfl _ _ rfl HST STB ok47 2 _ _ _ rfl rfl at2 _ set2 ?_) | (refine st_sta_ct rfl _ _ rfl HST STB ok47 3 _ _ _ rfl rfl at3 _ set3 ?_))) | ((first | (refine st_sta_all rfl _ _ rfl HST STB ok47 0 _ _ _ rfl rfl at0 _ set0 ?_) | (refine st_sta_all rfl _ _ rfl HST STB ok47 1 _ _ _ rfl rfl at1 _ set1 ?_) | (refine st_sta_all rfl _ _ rfl HST STB ok47 2 _ _ _ rfl rfl at2 _ set2 ?_) | (refine st_sta_all rfl _ _ rfl HST STB ok47 3 _ _ _ rfl rfl at3 _ set3 ?_))) | ((first | (refine st_tup rfl _ _ rfl HST STB ok35 0 _ _ _ rfl rfl at0 _ set0 ?_) | (refine st_tup rfl _ _ rfl HST STB ok35 1 _ _ _ rfl rfl at1 _ set1 ?_) | (refine st_tup rfl _ _ rfl HST STB ok35 2 _ _ _ rfl rfl at2 _ set2 ?_) | (refine st_tup rfl _ _ rfl HST STB ok35 3 _ _ _ rfl rfl at3 _ set3 ?_)))); clear HST; intro w1 HST) | (go_at_call_of 13 (Value.int .i64 a); refine (zo_look_a PK.out.1 PK.out.2.2 G.out.1 HST.fr BB.out.1).mono ?_; rintro e w5 ⟨s, rfl, hs, hT5, hk5⟩; refine Stop.go ?_))
          replace HST := HST.turn (F' := fun w => Tab w tb mo mr 16 0 L) hk5 (fun i hi => hi.elim (HM.out i) (fun ⟨q, hq, hqi⟩ => .inr (hqi ▸ (BB.out.1.1 q hq).2.2.2))) (fun b hb hi => hi.elim (HST.no_maps2 b hb) (fun ⟨q, hq, hqi⟩ => HST.no_cn hq (by simp) b hb hqi.symm)) hT5; clear hk5 hT5
          have HSS := Lib.hid hs
          clear hs
          refine Stop.mk ?_
          go_wp2_with (first | ((with_reducible refine gate_alloc rfl ?_); refine st_alloc rfl _ rfl HST STB _ zinfo47 _ rfl ?_; clear HST; intro g w1 hg hb HST; clear hg hb) | ((with_reducible refine gate_build47 rfl ?_); refine bd_sta rfl rfl ?_) | ((with_reducible refine gate_load rfl ?_); first | ((first | (refine ld_sta_p rfl _ rfl HST 0 _ _ rfl at0 ?_) | (refine ld_sta_p rfl _ rfl HST 1 _ _ rfl at1 ?_) | (refine ld_sta_p rfl _ rfl HST 2 _ _ rfl at2 ?_) | (refine ld_sta_p rfl _ rfl HST 3 _ _ rfl at3 ?_))) | ((first | (refine ld_sta_o rfl _ rfl HST 0 _ _ rfl at0 ?_) | (refine ld_sta_o rfl _ rfl HST 1 _ _ rfl at1 ?_) | (refine ld_sta_o rfl _ rfl HST 2 _ _ rfl at2 ?_) | (refine ld_sta_o rfl _ rfl HST 3 _ _ rfl at3 ?_))) | ((first | (refine ld_sta_all rfl _ rfl HST 0 _ _ rfl at0 ?_) | (refine ld_sta_all rfl _ rfl HST 1 _ _ rfl at1 ?_) | (refine ld_sta_all rfl _ rfl HST 2 _ _ rfl at2 ?_) | (refine ld_sta_all rfl _ rfl HST 3 _ _ rfl at3 ?_))) | ((first | (refine ld_sta_ct rfl _ rfl HST 0 _ _ rfl at0 ?_) | (refine ld_sta_ct rfl _ rfl HST 1 _ _ rfl at1 ?_) | (refine ld_sta_ct rfl _ rfl HST 2 _ _ rfl at2 ?_) | (refine ld_sta_ct rfl _ rfl HST 3 _ _ rfl at3 ?_))) | ((first | (refine ld_tup rfl _ rfl HST 0 _ _ rfl at0 ?_) | (refine ld_tup rfl _ rfl HST 1 _ _ rfl at1 ?_) | (refine ld_tup rfl _ rfl HST 2 _ _ rfl at2 ?_) | (refine ld_tup rfl _ rfl HST 3 _ _ rfl at3 ?_)))) | ((with_reducible refine gate_store rfl ?_); (first | ((first | (refine st_sta_p rfl _ _ rfl HST STB ok47 0 _ _ _ rfl rfl at0 _ set0 ?_) | (refine st_sta_p rfl _ _ rfl HST STB ok47 1 _ _ _ rfl rfl at1 _ set1 ?_) | (refine st_sta_p rfl _ _ rfl HST STB ok47 2 _ _ _ rfl rfl at2 _ set2 ?_) | (refine st_sta_p rfl _ _ rfl HST STB ok47 3 _ _ _ rfl rfl at3 _ set3 ?_))) | ((first | (refine st_sta_o rfl _ _ rfl HST STB ok47 0 _ _ _ rfl rfl at0 _ set0 ?_) | (refine st_sta_o rfl _ _ rfl HST STB ok47 1 _ _ _ rfl rfl at1 _ set1 ?_) | (refine st_sta_o rfl _ _ rfl HST STB ok47 2 _ _ _ rfl rfl at2 _ set2 ?_) | (refine st_sta_o rfl _ _ rfl HST STB ok47 3 _ _ _ rfl rfl at3 _ set3 ?_))) | ((first | (refine st_sta_ct rfl _ _ rfl HST STB ok47 0 _ _ _ rfl rfl at0 _ set0 ?_) | (refine st_sta_ct rfl _ _ rfl HST STB ok47 1 _ _ _ rfl rfl at1 _ set1 ?_) | (refine st_sta_ct rfl _ _ rfl HST STB ok47 2 _ _ _ rfl rfl at2 _ set2 ?_) | (refine st_sta_ct rfl _ _ rfl HST STB ok47 3 _ _ _ rfl rfl at3 _ set3 ?_))) | ((first | (refine st_sta_all rfl _ _ rfl HST STB ok47 0 _ _ _ rfl rfl at0 _ set0 ?_) | (refine st_sta_all rfl _ _ rfl HST STB ok47 1 _ _ _ rfl rfl at1 _ set1 ?_) | (refine st_sta_all rfl _ _ rfl HST STB ok47 2 _ _ _ rfl rfl at2 _ set2 ?_) | (refine st_sta_all rfl _ _ rfl HST STB ok47 3 _ _ _ rfl rfl at3 _ set3 ?_))) | ((first | (refine st_tup rfl _ _ rfl HST STB ok35 0 _ _ _ rfl rfl at0 _ set0 ?_) | (refine st_tup rfl _ _ rfl HST STB ok35 1 _ _ _ rfl rfl at1 _ set1 ?_) | (refine st_tup rfl _ _ rfl HST STB ok35 2 _ _ _ rfl rfl at2 _ set2 ?_) | (refine st_tup rfl _ _ rfl HST STB ok35 3 _ _ _ rfl rfl at3 _ set3 ?_)))); clear HST; intro w1 HST) | (go_at_call 14; refine (zo_commit PK.out.1 PK.out.2.2 HSS.out G.out.1 HST.keeps.size HST.fr BB.out.1).mono ?_; rintro e w5 ⟨n, L2, rfl, hT5, hZ2, hk5⟩; refine Stop.go ?_))
          replace HST := HST.turn (F' := fun w => Tab w tb mo mr 16 0 L2) hk5 (fun i hi => HM.out i hi) (fun b hb hi => HST.no_maps2 b hb hi) hT5; clear hk5 hT5
          have HZ2 := Lib.hid hZ2
          clear hZ2 STB
          have STB := tab_stab tb mo mr 16 0 L2
          refine Stop.mk ?_
          go_wp2_with (first | ((with_reducible refine gate_load rfl ?_); refine ld_pk rfl _ rfl _ p rfl (PK.out.2.1.keep HST.keeps) ?_) | ((with_reducible refine gate_build47p rfl ?_); refine bd_stap rfl _ rfl _ rfl ?_) | ((with_reducible refine gate_alloc rfl ?_); refine st_alloc rfl _ rfl HST STB _ zinfo47 _ rfl ?_; clear HST; intro g w1 hg hb HST; clear hg hb) | ((with_reducible refine gate_build47 rfl ?_); refine bd_sta rfl rfl ?_) | ((with_reducible refine gate_load rfl ?_); first | ((first | (refine ld_sta_p rfl _ rfl HST 0 _ _ rfl at0 ?_) | (refine ld_sta_p rfl _ rfl HST 1 _ _ rfl at1 ?_) | (refine ld_sta_p rfl _ rfl HST 2 _ _ rfl at2 ?_) | (refine ld_sta_p rfl _ rfl HST 3 _ _ rfl at3 ?_))) | ((first | (refine ld_sta_o rfl _ rfl HST 0 _ _ rfl at0 ?_) | (refine ld_sta_o rfl _ rfl HST 1 _ _ rfl at1 ?_) | (refine ld_sta_o rfl _ rfl HST 2 _ _ rfl at2 ?_) | (refine ld_sta_o rfl _ rfl HST 3 _ _ rfl at3 ?_))) | ((first | (refine ld_sta_all rfl _ rfl HST 0 _ _ rfl at0 ?_) | (refine ld_sta_all rfl _ rfl HST 1 _ _ rfl at1 ?_) | (refine ld_sta_all rfl _ rfl HST 2 _ _ rfl at2 ?_) | (refine ld_sta_all rfl _ rfl HST 3 _ _ rfl at3 ?_))) | ((first | (refine ld_sta_ct rfl _ rfl HST 0 _ _ rfl at0 ?_) | (refine ld_sta_ct rfl _ rfl HST 1 _ _ rfl at1 ?_) | (refine ld_sta_ct rfl _ rfl HST 2 _ _ rfl at2 ?_) | (refine ld_sta_ct rfl _ rfl HST 3 _ _ rfl at3 ?_))) | ((first | (refine ld_tup rfl _ rfl HST 0 _ _ rfl at0 ?_) | (refine ld_tup rfl _ rfl HST 1 _ _ rfl at1 ?_) | (refine ld_tup rfl _ rfl HST 2 _ _ rfl at2 ?_) | (refine ld_tup rfl _ rfl HST 3 _ _ rfl at3 ?_)))) | ((with_reducible refine gate_store rfl ?_); (first | ((first | (refine st_sta_p rfl _ _ rfl HST STB ok47 0 _ _ _ rfl rfl at0 _ set0 ?_) | (refine st_sta_p rfl _ _ rfl HST STB ok47 1 _ _ _ rfl rfl at1 _ set1 ?_) | (refine st_sta_p rfl _ _ rfl HST STB ok47 2 _ _ _ rfl rfl at2 _ set2 ?_) | (refine st_sta_p rfl _ _ rfl HST STB ok47 3 _ _ _ rfl rfl at3 _ set3 ?_))) | ((first | (refine st_sta_o rfl _ _ rfl HST STB ok47 0 _ _ _ rfl rfl at0 _ set0 ?_) | (refine st_sta_o rfl _ _ rfl HST STB ok47 1 _ _ _ rfl rfl at1 _ set1 ?_) | (refine st_sta_o rfl _ _ rfl HST STB ok47 2 _ _ _ rfl rfl at2 _ set2 ?_) | (refine st_sta_o rfl _ _ rfl HST STB ok47 3 _ _ _ rfl rfl at3 _ set3 ?_))) | ((first | (refine st_sta_ct rfl _ _ rfl HST STB ok47 0 _ _ _ rfl rfl at0 _ set0 ?_) | (refine st_sta_ct rfl _ _ rfl HST STB ok47 1 _ _ _ rfl rfl at1 _ set1 ?_) | (refine st_sta_ct rfl _ _ rfl HST STB ok47 2 _ _ _ rfl rfl at2 _ set2 ?_) | (refine st_sta_ct rfl _ _ rfl HST STB ok47 3 _ _ _ rfl rfl at3 _ set3 ?_))) | ((first | (refine st_sta_all rfl _ _ rfl HST STB ok47 0 _ _ _ rfl rfl at0 _ set0 ?_) | (refine st_sta_all rfl _ _ rfl HST STB ok47 1 _ _ _ rfl rfl at1 _ set1 ?_) | (refine st_sta_all rfl _ _ rfl HST STB ok47 2 _ _ _ rfl rfl at2 _ set2 ?_) | (refine st_sta_all rfl _ _ rfl HST STB ok47 3 _ _ _ rfl rfl at3 _ set3 ?_))) | ((first | (refine st_tup rfl _ _ rfl HST STB ok35 0 _ _ _ rfl rfl at0 _ set0 ?_) | (refine st_tup rfl _ _ rfl HST STB ok35 1 _ _ _ rfl rfl at1 _ set1 ?_) | (refine st_tup rfl _ _ rfl HST STB ok35 2 _ _ _ rfl rfl at2 _ set2 ?_) | (refine st_tup rfl _ _ rfl HST STB ok35 3 _ _ _ rfl rfl at3 _ set3 ?_)))); clear HST; intro w1 HST) | (go_at_call_of 13 (Value.int .i64 b); refine (zo_look_b PK.out.1 PK.out.2.2 G.out.2.1 G.out.2.2 HST.fr HZ2.out).mono ?_; rintro e w5 ⟨rfl, hT5, hk5⟩; replace HST := HST.turn (F' := fun w => Tab w tb mo mr 16 0 L2) hk5 (fun i hi => hi.elim (HM.out i) (fun ⟨q, hq, hqi⟩ => .inr (hqi ▸ (HZ2.out.1 q hq).2.2.2))) (fun b hb hi => hi.elim (HST.no_maps2 b hb) (fun ⟨q, hq, hqi⟩ => HST.no_cn hq (by simp) b hb hqi.symm)) hT5; clear hk5 hT5))
          have STD := HST.drew STB
          have l1 : (loadVar 3 ⟨g, 36, none⟩).run Try.prog w1.drew = .ok (.int .i64 1) w1.drew := run_load_sta_ct (STD.at_ 0 at0)
          have l2 : (loadVar 33 ⟨g, 0, none⟩).run Try.prog w1.drew = .ok p.v w1.drew := run_load_sta_p (STD.at_ 0 at0)
          have l3 : (loadVar 33 (x.add (i * 36))).run Try.prog w1.drew = .ok p.v w1.drew := run_load_pk (PK.out.2.1.keep STD.keeps)
          have l4 : ∀ W, (binOp .neq 33 p.v p.v).run Try.prog W = .ok (.bool false) W := neq33 p
          clear HST
          refine wp_region_still_tail 24 (by kernel_rfl) (by kernel_rfl) ?_
          simp only [List.take_succ_cons, List.take_zero, List.drop_succ_cons, List.drop_zero]
          iterate 8 (with_reducible refine wpStill_step ?_; intro K hK; go_simp; with_reducible refine hK _ ?_; clear hK K)
          with_reducible refine still_load (by kernel_rfl) 3 (.tmp 89) (by kernel_rfl) ⟨g, 36, none⟩ (.int .i64 1) (by kernel_rfl) ?_ ?_
          · exact l1
          simp only [Act.put, List.setIfInBounds_toArray, List.set_cons_zero, List.set_cons_succ]
          iterate 3 (with_reducible refine wpStill_step ?_; intro K hK; go_simp; with_reducible refine hK _ ?_; clear hK K)
          with_reducible refine still_load (by kernel_rfl) 33 (.tmp 93) (by kernel_rfl) ⟨g, 0, none⟩ p.v (by kernel_rfl) ?_ ?_
          · exact l2
          simp only [Act.put, List.setIfInBounds_toArray, List.set_cons_zero, List.set_cons_succ]
          iterate 3 (with_reducible refine wpStill_step ?_; intro K hK; go_simp; with_reducible refine hK _ ?_; clear hK K)
          with_reducible refine still_load (by kernel_rfl) 33 (.tmp 97) (by kernel_rfl) (x.add (i * 36)) p.v (by kernel_rfl) ?_ ?_
          · exact l3
          simp only [Act.put, List.setIfInBounds_toArray, List.set_cons_zero, List.set_cons_succ]
          iterate 7 (with_reducible refine wpStill_step ?_; intro K hK; go_simp; with_reducible refine hK _ ?_; clear hK K)
          refine wpStill_nil ?_
          change wpList _ _ _ _ _ w1.drew
          have HST := STD
          clear STD l1 l2 l3 l4
          generalize w1.drew = w2 at HST ⊢
          go_wp2_with (first | (go_at_call 16; refine (zo_count_b G.out.2.2 HST.fr HZ2.out).mono ?_; rintro e w5 ⟨rfl, hT5, hk5⟩; replace HST := HST.turn (F' := fun w => Tab w tb mo mr 16 0 L2) hk5 (fun i hi => hi.elim) (fun b hb hi => hi) hT5; clear hk5 hT5))
          go_roundg (gk - 1)
          case measure => have := BB.out.2; omega
          case rel => exact ⟨i + 1, L2, by have := BB.out.2; omega, by rw [show wrap64 ((i : Int) + 1) = ((i + 1 : Nat) : Int) by have := A.out.2; unfold wrap64; omega], HZ2.out, HST.forget.forget⟩
      · have hd : decide ((i : Int) < (len : Int)) = false := decide_eq_false (by omega)
        have BB := Lib.hid hZ
        clear hZ
        have HZN : ZoT a w.heap.size [] := ⟨by simp, by simp⟩
        have HZN := Lib.hid HZN
        go_wp2_with (first | (go_at_call 16; first | (refine (zo_count_a HST.fr BB.out).mono ?_; rintro e w5 ⟨rfl, hT5, hk5⟩; replace HST := HST.turn (F' := fun w => Tab w tb mo mr 16 0 L) hk5 (fun i hi => hi.elim) (fun b hb hi => hi) hT5; clear hk5 hT5) | (refine (zo_count_a HST.fr HZN.out).mono ?_; rintro e w5 ⟨rfl, hT5, hk5⟩; replace HST := HST.turn (F' := fun w => Tab w tb mo mr 16 0 []) hk5 (fun i hi => hi.elim) (fun b hb hi => hi) hT5; clear hk5 hT5)) | (go_at_call_of 17 (Value.int .i64 b); refine (zo_drop_b G.out.2.2 HST.fr BB.out).mono ?_; rintro e w5 ⟨rfl, hT5, hk5⟩; replace HST := HST.turn (F' := fun w => Tab w tb mo mr 16 0 L) hk5 (fun i hi => HM.out i hi) (fun b hb hi => HST.no_maps2 b hb hi) hT5; clear hk5 hT5) | (go_at_call_of 17 (Value.int .i64 a); refine (zo_drop_a HST.fr BB.out).mono ?_; rintro e w5 ⟨rfl, hT5, hk5⟩; replace HST := HST.turn (F' := fun w => Tab w tb mo mr 16 0 []) hk5 (fun i hi => HM.out i hi) (fun b hb hi => HST.no_maps2 b hb hi) hT5; clear hk5 hT5))
        go_ret
        exact ⟨rfl, HST.keeps⟩
  · clear hz hlen
    by_cases h1 : a < 0
    · have d1 : decide (a < 0) = true := decide_eq_true h1
      clear hg h1
      go_wp2_with (first | (go_at_call 9; refine (lives_any _).mono ?_; rintro e w4 ⟨rfl, hk4⟩; replace HST := HST.drawn_keep STB hk4; clear hk4))
      go_ret
      exact ⟨rfl, HST.keeps⟩
    have d1 : decide (a < 0) = false := decide_eq_false h1
    by_cases h2 : 65535 < a
    · have d2 : decide (65535 < a) = true := decide_eq_true h2
      clear hg h1 h2
      go_wp2_with (first | (go_at_call 9; refine (lives_any _).mono ?_; rintro e w4 ⟨rfl, hk4⟩; replace HST := HST.drawn_keep STB hk4; clear hk4))
      go_ret
      exact ⟨rfl, HST.keeps⟩
    have d2 : decide (65535 < a) = false := decide_eq_false h2
    by_cases h3 : b < 0
    · have d3 : decide (b < 0) = true := decide_eq_true h3
      clear hg h1 h2 h3
      go_wp2_with (first | (go_at_call 9; refine (lives_any _).mono ?_; rintro e w4 ⟨rfl, hk4⟩; replace HST := HST.drawn_keep STB hk4; clear hk4))
      go_ret
      exact ⟨rfl, HST.keeps⟩
    have d3 : decide (b < 0) = false := decide_eq_false h3
    by_cases h4 : 65535 < b
    · have d4 : decide (65535 < b) = true := decide_eq_true h4
      clear hg h1 h2 h3 h4
      go_wp2_with (first | (go_at_call 9; refine (lives_any _).mono ?_; rintro e w4 ⟨rfl, hk4⟩; replace HST := HST.drawn_keep STB hk4; clear hk4))
      go_ret
      exact ⟨rfl, HST.keeps⟩
    have d4 : decide (65535 < b) = false := decide_eq_false h4
    have d5 : (a == b) = true := by
      have : a = b := Classical.byContradiction fun h => hg ⟨by omega, by omega, by omega, by omega, h⟩
      simpa using this
    clear hg h1 h2 h3 h4
    go_wp2_with (first | (go_at_call 9; refine (lives_any _).mono ?_; rintro e w4 ⟨rfl, hk4⟩; replace HST := HST.drawn_keep STB hk4; clear hk4))
    go_ret
    exact ⟨rfl, HST.keeps⟩
end Go.Proofs.Ytomfgdkmkacebaa
