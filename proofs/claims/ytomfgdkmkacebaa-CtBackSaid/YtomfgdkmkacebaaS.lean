/- The statements' own lives: a table of room for four is made, one connection goes in, is answered and runs out. -/
import Derived.Test.YtomfgdkmkacebaaO
namespace Go.Proofs.Ytomfgdkmkacebaa
open Go.RowKit Go.MapKept
open Go.ChangeMaps (setBlock)
set_option linter.unusedSimpArgs false
set_option linter.unusedVariables false

section
variable {w : World} {tb mo mr : Nat}
def lvP1 : Pk := Pk.udp 1 2 3 4
def lvP2 : Pk := Pk.udp 2 1 4 3
def lvT : Tup := ⟨17, 1, 2, 3, 4⟩
def lvS1 : Sta := { Sta.zero with p := lvP1, ct := 1, orig := lvT }
def lvS2 : Sta := { Sta.zero with p := lvP2, ct := 6, orig := lvT.turned }
def lvC : Cn := ⟨1, lvT, lvT.turned, false, 30⟩
theorem lv_has1 : hasB lvP1 = true := by decide +kernel
theorem lv_has2 : hasB lvP2 = true := by decide +kernel
theorem lv_tup1 : lvP1.tup = lvT := rfl
theorem lv_tup2 : lvP2.tup = lvT.turned := rfl
theorem tup_zero_ok : Tup.zero.ok := ⟨rfl, rfl, rfl, rfl, rfl⟩
theorem lv_ok1 : lvP1.ok := ⟨rfl, rfl, rfl, rfl, rfl, rfl⟩
theorem lv_ok2 : lvP2.ok := ⟨rfl, rfl, rfl, rfl, rfl, rfl⟩
theorem lvT_ok : lvT.ok := ⟨rfl, rfl, rfl, rfl, rfl⟩
theorem lv1 (h : Tab w tb mo mr 4 0 []) : Calls Try.prog 13 #[.pointer (some ⟨tb, 0, none⟩), .int .i64 1, ({ Sta.zero with p := lvP1 } : Sta).v] w fun e w' => e = .returned (.tuple #[lvS1.v, .int .i64 0]) ∧ Tab w' tb mo mr 4 0 [] ∧ Keeps w w' (LookB mo mr []) :=
  (look_yes h { Sta.zero with p := lvP1 } ⟨lv_ok1, tup_zero_ok⟩ 1 (by omega) lv_has1 (by omega)).mono fun e w' ⟨⟨r, b, L2, hf, he, hT⟩, hk⟩ => by
    obtain ⟨rfl, rfl⟩ := hf.nil
    exact ⟨he, hT, hk⟩
theorem lv2 (h : Tab w tb mo mr 4 0 []) : Calls Try.prog 14 #[.pointer (some ⟨tb, 0, none⟩), .int .i64 1, lvS1.v] w fun e w' => e = .returned (.int .i64 0) ∧ ∃ g, w.heap.size ≤ g ∧ Tab w' tb mo mr 4 0 [(g, lvC)] ∧ Keeps w w' (Maps2 mo mr) :=
  (commit_any h (by simp) lvS1 ⟨lv_ok1, lvT_ok⟩ 1 (by omega) lv_has1 rfl (by omega)).mono fun e w' ⟨hc, hk⟩ => by
    rcases hc with ⟨q, b, L1, hf, _, _⟩ | ⟨b, L1, n, g, L', hf, rfl, ha, hT, hg⟩
    · obtain ⟨h1, _⟩ := hf.nil
      cases h1
    · obtain ⟨_, rfl⟩ := hf.nil
      have e1 : newCn 1 0 lvS1 = lvC := by
        simp only [newCn, lvS1, lvC, lv_tup1]
        simp
      rcases ha.live (by simp) with ⟨⟨q, hq, _⟩, _⟩ | ⟨_, ⟨h1, _⟩ | ⟨_, rfl, rfl⟩⟩
      · simp at hq
      · simp at h1
      · exact ⟨rfl, g, hg, e1 ▸ hT, hk⟩
theorem lv3 {g : Nat} (h : Tab w tb mo mr 4 0 [(g, lvC)]) : Calls Try.prog 13 #[.pointer (some ⟨tb, 0, none⟩), .int .i64 1, ({ Sta.zero with p := lvP2 } : Sta).v] w fun e w' => e = .returned (.tuple #[lvS2.v, .int .i64 0]) ∧ Tab w' tb mo mr 4 0 [(g, lvC)] ∧ Keeps w w' (LookB mo mr [(g, lvC)]) :=
  (look_yes h { Sta.zero with p := lvP2 } ⟨lv_ok2, tup_zero_ok⟩ 1 (by omega) lv_has2 (by omega)).mono fun e w' ⟨⟨r, b, L2, hf, he, hT⟩, hk⟩ => by
    have hne : lvT ≠ lvT.turned := by
      intro h
      have := congrArg Tup.sr h
      simp [lvT, Tup.turned] at this
    obtain ⟨rfl, ⟨p, hp, _, _, ho⟩ | ⟨p, hp, rfl, rfl, _⟩ | ⟨_, hn⟩⟩ := hf.live (by simp [lvC])
    · simp only [List.mem_singleton] at hp
      subst hp
      exact absurd ho.2 hne
    · simp only [List.mem_singleton] at hp
      subst hp
      refine ⟨he, ?_, hk⟩
      have e1 : touchO (some (g, lvC)) (0 + 30) [(g, lvC)] = [(g, lvC)] := by simp [touchO, touch, lvC]
      rw [e1] at hT
      exact hT
    · exact absurd ⟨rfl, lv_tup2.symm⟩ (hn (g, lvC) (by simp)).2
theorem lv4 {g : Nat} (h : Tab w tb mo mr 4 0 [(g, lvC)]) : Calls Try.prog 16 #[.pointer (some ⟨tb, 0, none⟩), .int .i64 1] w fun e w' => e = .returned (.int .i64 1) ∧ Tab w' tb mo mr 4 0 [(g, lvC)] ∧ Keeps w w' (fun _ => False) :=
  (count_any h (by simp) 1).mono fun e w' ⟨he, hT, hk⟩ => ⟨by rw [he]; rfl, hT, hk⟩
theorem lv5 {g : Nat} (h : Tab w tb mo mr 4 0 [(g, lvC)]) : Calls Try.prog 15 #[.pointer (some ⟨tb, 0, none⟩), .int .i64 30] w fun e w' => e = .returned (.int .i64 0) ∧ Tab w' tb mo mr 4 30 [(g, lvC)] ∧ Keeps w w' (fun i => i = tb) :=
  (tick_any h 30 (by omega) (by omega) (by omega) (by omega)).mono fun e w' ⟨he, hT, hk⟩ => ⟨he, hT, hk⟩
theorem lv6 {g : Nat} (h : Tab w tb mo mr 4 30 [(g, lvC)]) : Calls Try.prog 16 #[.pointer (some ⟨tb, 0, none⟩), .int .i64 1] w fun e w' => e = .returned (.int .i64 0) ∧ Tab w' tb mo mr 4 30 [(g, lvC)] ∧ Keeps w w' (fun _ => False) :=
  (count_any h (by simp) 1).mono fun e w' ⟨he, hT, hk⟩ => ⟨by rw [he]; rfl, hT, hk⟩
end
set_option maxHeartbeats 4000000 in
theorem lives_any (w : World) : Calls Try.prog 9 #[] w fun e w' => e = .returned (.bool true) ∧ Keeps w w' (fun _ => False) := by
  have hn1 := eql41_some
  go_enter Try.func9, Try.ntmps9
  go_wp2_with (first | ((with_reducible refine gate_alloc rfl ?_); refine st_alloc rfl _ rfl HST STB _ zinfo47 _ rfl ?_; clear HST; intro g w1 hg hb HST; clear hg hb) | ((with_reducible refine gate_build47p rfl ?_); refine bd_stap rfl _ rfl _ rfl ?_) | (go_at_call 12; refine (new_good _ 4 (by omega)).mono ?_; rintro e w1 ⟨tb, mo, mr, rfl, hT, hk, hb1, hb2, hb3⟩; refine Stop.go ?_))
  have HST : St w (fun _ => False) (fun w => Tab w tb mo mr 4 0 []) w1 [] := ⟨hk, by simp, by simp, by simp, hT⟩
  have HB := Lib.hid (And.intro hb1 (And.intro hb2 hb3))
  have hmaps : ∀ i, Maps2 mo mr i → False ∨ w.heap.size ≤ i := fun i h => .inr (by rcases h with rfl | rfl; exact HB.out.2.1; exact HB.out.2.2)
  have HM := Lib.hid hmaps
  have hct1 : lvS1.ct = 1 := rfl
  have hct2 : lvS2.ct = 6 := rfl
  clear hk hT hb1 hb2 hb3 hmaps
  have STB := tab_stab tb mo mr 4 0 []
  refine Stop.mk ?_
  go_wp2_with (first | ((with_reducible refine gate_alloc rfl ?_); refine st_alloc rfl _ rfl HST STB _ zinfo47 _ rfl ?_; clear HST; intro g w1 hg hb HST; clear hg hb) | ((with_reducible refine gate_build47p rfl ?_); refine bd_stap rfl _ rfl _ rfl ?_) | ((with_reducible refine gate_build47 rfl ?_); refine bd_sta rfl rfl ?_) | ((with_reducible refine gate_load rfl ?_); first | ((first | (refine ld_sta_p rfl _ rfl HST 0 _ _ rfl at0 ?_) | (refine ld_sta_p rfl _ rfl HST 1 _ _ rfl at1 ?_) | (refine ld_sta_p rfl _ rfl HST 2 _ _ rfl at2 ?_) | (refine ld_sta_p rfl _ rfl HST 3 _ _ rfl at3 ?_))) | ((first | (refine ld_sta_o rfl _ rfl HST 0 _ _ rfl at0 ?_) | (refine ld_sta_o rfl _ rfl HST 1 _ _ rfl at1 ?_) | (refine ld_sta_o rfl _ rfl HST 2 _ _ rfl at2 ?_) | (refine ld_sta_o rfl _ rfl HST 3 _ _ rfl at3 ?_))) | ((first | (refine ld_sta_all rfl _ rfl HST 0 _ _ rfl at0 ?_) | (refine ld_sta_all rfl _ rfl HST 1 _ _ rfl at1 ?_) | (refine ld_sta_all rfl _ rfl HST 2 _ _ rfl at2 ?_) | (refine ld_sta_all rfl _ rfl HST 3 _ _ rfl at3 ?_))) | ((first | (refine ld_sta_ct rfl _ rfl HST 0 _ _ rfl at0 ?_) | (refine ld_sta_ct rfl _ rfl HST 1 _ _ rfl at1 ?_) | (refine ld_sta_ct rfl _ rfl HST 2 _ _ rfl at2 ?_) | (refine ld_sta_ct rfl _ rfl HST 3 _ _ rfl at3 ?_))) | ((first | (refine ld_tup rfl _ rfl HST 0 _ _ rfl at0 ?_) | (refine ld_tup rfl _ rfl HST 1 _ _ rfl at1 ?_) | (refine ld_tup rfl _ rfl HST 2 _ _ rfl at2 ?_) | (refine ld_tup rfl _ rfl HST 3 _ _ rfl at3 ?_)))) | ((with_reducible refine gate_store rfl ?_); (first | ((first | (refine st_sta_p rfl _ _ rfl HST STB ok47 0 _ _ _ rfl rfl at0 _ set0 ?_) | (refine st_sta_p rfl _ _ rfl HST STB ok47 1 _ _ _ rfl rfl at1 _ set1 ?_) | (refine st_sta_p rfl _ _ rfl HST STB ok47 2 _ _ _ rfl rfl at2 _ set2 ?_) | (refine st_sta_p rfl _ _ rfl HST STB ok47 3 _ _ _ rfl rfl at3 _ set3 ?_))) | ((first | (refine st_sta_o rfl _ _ rfl HST STB ok47 0 _ _ _ rfl rfl at0 _ set0 ?_) | (refine st_sta_o rfl _ _ rfl HST STB ok47 1 _ _ _ rfl rfl at1 _ set1 ?_) | (refine st_sta_o rfl _ _ rfl HST STB ok47 2 _ _ _ rfl rfl at2 _ set2 ?_) | (refine st_sta_o rfl _ _ rfl HST STB ok47 3 _ _ _ rfl rfl at3 _ set3 ?_))) | ((first | (refine st_sta_ct rfl _ _ rfl HST STB ok47 0 _ _ _ rfl rfl at0 _ set0 ?_) | (refine st_sta_ct rfl _ _ rfl HST STB ok47 1 _ _ _ rfl rfl at1 _ set1 ?_) | (refine st_sta_ct rfl _ _ rfl HST STB ok47 2 _ _ _ rfl rfl at2 _ set2 ?_) | (refine st_sta_ct rfl _ _ rfl HST STB ok47 3 _ _ _ rfl rfl at3 _ set3 ?_))) | ((first | (refine st_sta_all rfl _ _ rfl HST STB ok47 0 _ _ _ rfl rfl at0 _ set0 ?_) | (refine st_sta_all rfl _ _ rfl HST STB ok47 1 _ _ _ rfl rfl at1 _ set1 ?_) | (refine st_sta_all rfl _ _ rfl HST STB ok47 2 _ _ _ rfl rfl at2 _ set2 ?_) | (refine st_sta_all rfl _ _ rfl HST STB ok47 3 _ _ _ rfl rfl at3 _ set3 ?_))) | ((first | (refine st_tup rfl _ _ rfl HST STB ok35 0 _ _ _ rfl rfl at0 _ set0 ?_) | (refine st_tup rfl _ _ rfl HST STB ok35 1 _ _ _ rfl rfl at1 _ set1 ?_) | (refine st_tup rfl _ _ rfl HST STB ok35 2 _ _ _ rfl rfl at2 _ set2 ?_) | (refine st_tup rfl _ _ rfl HST STB ok35 3 _ _ _ rfl rfl at3 _ set3 ?_)))); clear HST; intro w1 HST) | (go_at_call 23; refine (udp_any 1 2 3 4 _).mono ?_; rintro e w5 ⟨rfl, hb5⟩; replace HST := HST.below STB hb5; clear hb5) | (go_at_call 13; refine (lv1 HST.fr).mono ?_; rintro e w5 ⟨rfl, hT5, hk5⟩; replace HST := HST.turn (F' := fun w => Tab w tb mo mr 4 0 []) hk5 (fun i hi => hi.elim (HM.out i) (fun ⟨p, hp, _⟩ => absurd hp (by simp))) (fun b hb hi => hi.elim (HST.no_maps2 b hb) (fun ⟨p, hp, _⟩ => absurd hp (by simp))) hT5; clear hk5 hT5) | (go_at_call 14; refine (lv2 HST.fr).mono ?_; rintro e w5 ⟨rfl, gc, hgc, hT5, hk5⟩; refine Stop.go ?_))
  have HST2 := HST.turn (F' := fun w => Tab w tb mo mr 4 0 [(gc, lvC)]) hk5 (fun i hi => HM.out i hi) (fun b hb hi => HST.no_maps2 b hb hi) hT5
  have HG := Lib.hid (Nat.le_trans HST.keeps.size hgc)
  clear STB HST hk5 hT5 hgc
  have HST := HST2
  clear HST2
  have STB := tab_stab tb mo mr 4 0 [(gc, lvC)]
  refine Stop.mk ?_
  go_wp2_with (first | ((with_reducible refine gate_alloc rfl ?_); refine st_alloc rfl _ rfl HST STB _ zinfo47 _ rfl ?_; clear HST; intro g w1 hg hb HST; clear hg hb) | ((with_reducible refine gate_build47p rfl ?_); refine bd_stap rfl _ rfl _ rfl ?_) | ((with_reducible refine gate_build47 rfl ?_); refine bd_sta rfl rfl ?_) | ((with_reducible refine gate_load rfl ?_); first | ((first | (refine ld_sta_p rfl _ rfl HST 0 _ _ rfl at0 ?_) | (refine ld_sta_p rfl _ rfl HST 1 _ _ rfl at1 ?_) | (refine ld_sta_p rfl _ rfl HST 2 _ _ rfl at2 ?_) | (refine ld_sta_p rfl _ rfl HST 3 _ _ rfl at3 ?_))) | ((first | (refine ld_sta_o rfl _ rfl HST 0 _ _ rfl at0 ?_) | (refine ld_sta_o rfl _ rfl HST 1 _ _ rfl at1 ?_) | (refine ld_sta_o rfl _ rfl HST 2 _ _ rfl at2 ?_) | (refine ld_sta_o rfl _ rfl HST 3 _ _ rfl at3 ?_))) | ((first | (refine ld_sta_all rfl _ rfl HST 0 _ _ rfl at0 ?_) | (refine ld_sta_all rfl _ rfl HST 1 _ _ rfl at1 ?_) | (refine ld_sta_all rfl _ rfl HST 2 _ _ rfl at2 ?_) | (refine ld_sta_all rfl _ rfl HST 3 _ _ rfl at3 ?_))) | ((first | (refine ld_sta_ct rfl _ rfl HST 0 _ _ rfl at0 ?_) | (refine ld_sta_ct rfl _ rfl HST 1 _ _ rfl at1 ?_) | (refine ld_sta_ct rfl _ rfl HST 2 _ _ rfl at2 ?_) | (refine ld_sta_ct rfl _ rfl HST 3 _ _ rfl at3 ?_))) | ((first | (refine ld_tup rfl _ rfl HST 0 _ _ rfl at0 ?_) | (refine ld_tup rfl _ rfl HST 1 _ _ rfl at1 ?_) | (refine ld_tup rfl _ rfl HST 2 _ _ rfl at2 ?_) | (refine ld_tup rfl _ rfl HST 3 _ _ rfl at3 ?_)))) | ((with_reducible refine gate_store rfl ?_); (first | ((first | (refine st_sta_p rfl _ _ rfl HST STB ok47 0 _ _ _ rfl rfl at0 _ set0 ?_) | (refine st_sta_p rfl _ _ rfl HST STB ok47 1 _ _ _ rfl rfl at1 _ set1 ?_) | (refine st_sta_p rfl _ _ rfl HST STB ok47 2 _ _ _ rfl rfl at2 _ set2 ?_) | (refine st_sta_p rfl _ _ rfl HST STB ok47 3 _ _ _ rfl rfl at3 _ set3 ?_))) | ((first | (refine st_sta_o rfl _ _ rfl HST STB ok47 0 _ _ _ rfl rfl at0 _ set0 ?_) | (refine st_sta_o rfl _ _ rfl HST STB ok47 1 _ _ _ rfl rfl at1 _ set1 ?_) | (refine st_sta_o rfl _ _ rfl HST STB ok47 2 _ _ _ rfl rfl at2 _ set2 ?_) | (refine st_sta_o rfl _ _ rfl HST STB ok47 3 _ _ _ rfl rfl at3 _ set3 ?_))) | ((first | (refine st_sta_ct rfl _ _ rfl HST STB ok47 0 _ _ _ rfl rfl at0 _ set0 ?_) | (refine st_sta_ct rfl _ _ rfl HST STB ok47 1 _ _ _ rfl rfl at1 _ set1 ?_) | (refine st_sta_ct rfl _ _ rfl HST STB ok47 2 _ _ _ rfl rfl at2 _ set2 ?_) | (refine st_sta_ct rfl _ _ rfl HST STB ok47 3 _ _ _ rfl rfl at3 _ set3 ?_))) | ((first | (refine st_sta_all rfl _ _ rfl HST STB ok47 0 _ _ _ rfl rfl at0 _ set0 ?_) | (refine st_sta_all rfl _ _ rfl HST STB ok47 1 _ _ _ rfl rfl at1 _ set1 ?_) | (refine st_sta_all rfl _ _ rfl HST STB ok47 2 _ _ _ rfl rfl at2 _ set2 ?_) | (refine st_sta_all rfl _ _ rfl HST STB ok47 3 _ _ _ rfl rfl at3 _ set3 ?_))) | ((first | (refine st_tup rfl _ _ rfl HST STB ok35 0 _ _ _ rfl rfl at0 _ set0 ?_) | (refine st_tup rfl _ _ rfl HST STB ok35 1 _ _ _ rfl rfl at1 _ set1 ?_) | (refine st_tup rfl _ _ rfl HST STB ok35 2 _ _ _ rfl rfl at2 _ set2 ?_) | (refine st_tup rfl _ _ rfl HST STB ok35 3 _ _ _ rfl rfl at3 _ set3 ?_)))); clear HST; intro w1 HST) | (go_at_call 23; refine (udp_any 2 1 4 3 _).mono ?_; rintro e w5 ⟨rfl, hb5⟩; replace HST := HST.below STB hb5; clear hb5) | (go_at_call 13; refine (lv3 HST.fr).mono ?_; rintro e w5 ⟨rfl, hT5, hk5⟩; replace HST := HST.turn (F' := fun w => Tab w tb mo mr 4 0 [(gc, lvC)]) hk5 (fun i hi => hi.elim (HM.out i) (fun ⟨p, hp, hpi⟩ => .inr (by rw [List.mem_singleton.1 hp] at hpi; exact hpi ▸ HG.out))) (fun b hb hi => hi.elim (HST.no_maps2 b hb) (fun ⟨p, hp, hpi⟩ => HST.no_cn hp (by simp) b hb hpi.symm)) hT5; clear hk5 hT5) | (go_at_call 16; refine (lv6 hT7).mono ?_; rintro e w8 ⟨rfl, hT8, hk8⟩) | (go_at_call 16; refine (lv4 HST.fr).mono ?_; rintro e w6 ⟨rfl, hT6, hk6⟩; replace HST := HST.turn (F' := fun w => Tab w tb mo mr 4 0 [(gc, lvC)]) hk6 (fun i hi => hi.elim) (fun b hb hi => hi) hT6; clear hk6 hT6) | (go_at_call 15; refine (lv5 HST.fr).mono ?_; rintro e w7 ⟨rfl, hT7, hk7⟩))
  go_ret
  exact ⟨rfl, (HST.keeps.trans hk7 (fun i hi => .inr (hi ▸ HB.out.1))).trans hk8 (fun i hi => hi.elim)⟩
end Go.Proofs.Ytomfgdkmkacebaa
