/- hartixlaw11.works: a line goes through. No condition. -/
import Derived.Test.YtollgpnaadgncaaDoorConJ
namespace Go.Proofs.YtollgpnaadgncaaDoor
open Go.RowKit

/-- a slice of bytes turned into a string -/
theorem conv_str {w : World} {v : Value} {xs : List Int} (h : BSl w v xs) (hne : xs ≠ []) : (convert 22 9 v).run Tryd.prog w = .ok (.string (strOfNums xs)) w := by
  obtain ⟨ao, c, rfl, _, _, _, hc⟩ := h
  obtain ⟨b, o, rfl, hc2⟩ := hc hne
  exact run_convert_bytes_arg w 22 5 Tryd.underlying22 Tryd.underlying5 b o _ c xs rfl (fun i hi => by rw [hc2 i hi]; simp [List.getD]) 9 Tryd.underlying9

theorem ok_works : okS [97, 98, 10] [99] := by
  refine ⟨by decide, by decide, ?_, ?_⟩
  · intro x hx; simp at hx; rcases hx with rfl | rfl | rfl <;> decide
  · intro x hx; simp at hx; subst hx; decide

set_option maxRecDepth 100000 in
set_option maxHeartbeats 3200000 in
theorem works_calls (w : World) (hk : KeysAt w) : Calls Tryd.prog 31 #[] w fun e w' => e = .returned (.bool true) ∧ Below w.heap.size w w' := by
  have kc := fun (w : World) (C : Array Value) (n c : Nat) => Lib.run_convert_bytes_const (P := Tryd.prog) w 22 5 C n c Tryd.underlying22 Tryd.underlying5
  have kc2 := fun o => kc (w.alloc o) #[.int .u8 99] 1 1
  have e1 : ∀ o, (w.alloc o).heap.size = w.heap.size + 1 := fun o => by simp
  simp only [e1] at kc2
  clear e1
  have HK := Lib.hid hk; clear hk
  go_enter Tryd.func31, Tryd.ntmps31
  go_wp2_with fail
  clear kc kc2
  have hc1 : ∀ (o1 o2 : Obj) (C : Array Value) (fr : Nat × Nat), o1 = .cells C 5 fr → ∀ j v, C[j]? = some v → ((w.alloc o1).alloc o2).cell? ⟨w.heap.size, j, none⟩ = some v := fun o1 o2 C fr ho j v hj => by
    subst ho
    exact ((Fr.refl No _).alloc o2).cell ((World.cell?_alloc_mark w C _ fr j).trans hj) id
  have hc2 : ∀ (o1 o2 : Obj) (C : Array Value) (fr : Nat × Nat), o2 = .cells C 5 fr → ∀ j v, C[j]? = some v → ((w.alloc o1).alloc o2).cell? ⟨w.heap.size + 1, j, none⟩ = some v := fun o1 o2 C fr ho j v hj => by
    subst ho
    have h := (World.cell?_alloc_mark (w.alloc o1) C 5 fr j).trans hj
    rwa [show (w.alloc o1).heap.size = w.heap.size + 1 by simp] at h
  have d1 := hc1 _ (.cells #[.int .u8 99] 5 (1, 2)) #[.int .u8 97, .int .u8 98, .int .u8 10] (3, 4) rfl
  have d2 := hc2 (.cells #[.int .u8 97, .int .u8 98, .int .u8 10] 5 (3, 4)) _ #[.int .u8 99] (1, 2) rfl
  generalize hW : (w.alloc _).alloc _ = W at *
  have F1 : Fr No w W := by rw [← hW]; exact ((Fr.refl _ _).alloc _).alloc _
  have hs1 : BSl W (.slice (some ⟨w.heap.size, 0, none⟩) 3 3) [97, 98, 10] := by
    refine ⟨_, 3, rfl, by simp, by omega, by simp, fun _ => ⟨w.heap.size, 0, rfl, fun j hj => ?_⟩⟩
    rw [Nat.zero_add]
    refine d1 j _ ?_
    match j, hj with
    | 0, _ => rfl
    | 1, _ => rfl
    | 2, _ => rfl
  have hs2 : BSl W (.slice (some ⟨w.heap.size + 1, 0, none⟩) 1 1) [99] := by
    refine ⟨_, 1, rfl, by simp, by omega, by simp, fun _ => ⟨w.heap.size + 1, 0, rfl, fun j hj => ?_⟩⟩
    rw [Nat.zero_add]
    refine d2 j _ ?_
    match j, hj with
    | 0, _ => rfl
  clear d1 d2 hc1 hc2
  clear hW
  have HF1 := Lib.hid F1
  refine (from_calls [97, 98, 10] [99] _ _ W hs1 hs2 (by intro x hx; simp at hx; omega) (by intro x hx; simp at hx; omega) (HK.out.no F1)).mono ?_
  clear hs1 hs2 F1
  intro e w1 hp
  unfold FromPost at hp
  rcases hp with ⟨_, P, rfl, hP, hC, hB⟩ | ⟨hn, _⟩
  case inr => exact absurd ok_works hn
  have HB1 := Lib.hid (HF1.out.below.trans (hB.mono HF1.out.size))
  have hwP : w.heap.size ≤ P := Nat.le_trans HF1.out.size hP
  have HC1 := Lib.hid (show ConAt w1 P [97, 98, 10, 99] 3 from hC)
  clear hP hC hB
  go_wp2_with fail
  refine (take_calls P [97, 98, 10, 99] 3 1 w1 HC1.out (by omega) (by omega)).mono ?_
  intro e w2 hp
  unfold TakePost at hp
  obtain ⟨v2, rfl, ho2, hC2, hf2⟩ := hp
  rw [show decide (0 < 3) = true from rfl]
  have HO2 := Lib.hid (show Own w2 w1.heap.size v2 [97] from ho2)
  have HC2 := Lib.hid (show ConAt w2 P [98, 10, 99] 2 from hC2)
  have HB2 := Lib.hid (Fr.below_of HB1.out hf2 HB1.out.size (fun k hk => by rw [hk]; exact hwP))
  have hP1 : P < w1.heap.size := HC1.out.lt
  clear ho2 hC2 hf2
  go_wp2_with fail
  refine (take_calls P [98, 10, 99] 2 5 w2 HC2.out (by omega) (by omega)).mono ?_
  intro e w3 hp
  unfold TakePost at hp
  obtain ⟨v3, rfl, ho3, hC3, hf3⟩ := hp
  rw [show decide (0 < 2) = true from rfl]
  have HO3 := Lib.hid (show Own w3 w2.heap.size v3 [98, 10] from ho3)
  have HC3 := Lib.hid (show ConAt w3 P [99] 0 from hC3)
  have HO2b := Lib.hid (HO2.out.fr hf3 (fun k hk hh => by have := (HO2.out.lt k hk).1; omega))
  have HB3 := Lib.hid (Fr.below_of HB2.out hf3 HB2.out.size (fun k hk => by rw [hk]; exact hwP))
  have hP2 : P < w2.heap.size := HC2.out.lt
  clear ho3 hC3 hf3
  go_wp2_with fail
  refine (type_calls P [99] 0 10 w3 HC3.out (HK.out.no (Fr.of_below HB3.out)) (by omega) (by omega)).mono ?_
  intro e w4 hp
  unfold TypePost at hp
  obtain ⟨v4, rfl, ho4, hC4, hf4⟩ := hp
  rw [show typF 10 [99] = true from rfl]
  have HO4 := Lib.hid (show Own w4 w3.heap.size v4 [10] from ho4)
  have HC4 := Lib.hid (show ConAt w4 P [99, 10] 2 from hC4)
  have HO2c := Lib.hid (HO2b.out.fr hf4 (fun k hk hh => by have := (HO2.out.lt k hk).1; omega))
  have HO3b := Lib.hid (HO3.out.fr hf4 (fun k hk hh => by have := (HO3.out.lt k hk).1; omega))
  have HB4 := Lib.hid (Fr.below_of HB3.out hf4 HB3.out.size (fun k hk => by rw [hk]; exact hwP))
  have hP3 : P < w3.heap.size := HC3.out.lt
  clear ho4 hC4 hf4
  go_wp2_with fail
  refine (take_calls P [99, 10] 2 5 w4 HC4.out (by omega) (by omega)).mono ?_
  intro e w5 hp
  unfold TakePost at hp
  obtain ⟨v5, rfl, ho5, hC5, hf5⟩ := hp
  rw [show decide (0 < 2) = true from rfl]
  have ho5 : Own w5 w4.heap.size v5 [99, 10] := ho5
  have b2 := (HO2c.out.fr hf5 (fun k hk hh => by have := (HO2.out.lt k hk).1; omega)).bsl (by simp)
  have b3 := (HO3b.out.fr hf5 (fun k hk hh => by have := (HO3.out.lt k hk).1; omega)).bsl (by simp)
  have b4 := (HO4.out.fr hf5 (fun k hk hh => by have := (HO4.out.lt k hk).1; omega)).bsl (by simp)
  have b5 := ho5.bsl (by simp)
  have HB5 := Lib.hid (Fr.below_of HB4.out hf5 HB4.out.size (fun k hk => by rw [hk]; exact hwP))
  clear hC5 hf5 ho5
  have cv2 := conv_str b2 (by simp)
  have cv3 := conv_str b3 (by simp)
  have cv4 := conv_str b4 (by simp)
  have cv5 := conv_str b5 (by simp)
  rw [show strOfNums [97] = ⟨#[97]⟩ from rfl] at cv2
  rw [show strOfNums [98, 10] = ⟨#[98, 10]⟩ from rfl] at cv3
  rw [show strOfNums [10] = ⟨#[10]⟩ from rfl] at cv4
  rw [show strOfNums [99, 10] = ⟨#[99, 10]⟩ from rfl] at cv5
  clear b2 b3 b4 b5
  go_wp2_with fail
  go_ret
  exact ⟨rfl, HB5.out⟩

end Go.Proofs.YtollgpnaadgncaaDoor
