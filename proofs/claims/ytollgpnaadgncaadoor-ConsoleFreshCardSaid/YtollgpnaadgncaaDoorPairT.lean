/- hartixlaw11.Pair: step: looks, and From of the state. No condition. -/
import Derived.Test.YtollgpnaadgncaaDoorPairS
namespace Go.Proofs.YtollgpnaadgncaaDoor
open Go.RowKit

section
variable (base A P Q : Nat) (dv lv : Value) (xs : List Int) (r : Nat)

set_option maxRecDepth 100000 in
set_option maxHeartbeats 6400000 in
theorem step5_calls (c n : Int) (dt : Value) (ds : List Int) (w : World) (h : PairAt w base A P Q dv lv xs r) (hd : BSl w dt ds) :
    Calls Tryd.prog 33 #[.pointer (some ⟨A, 0, none⟩), .agg #[.int .i64 5, .int .u8 c, .int .i64 n, dt]] w (PairPost base A P Q dv lv w) := by
  obtain ⟨da, dc, rfl⟩ := hd.shape
  have hr := h.2.2.2.2.2.2.1
  have h128 := h.2.2.2.2.1.2.1
  have H := Lib.hid h; clear h
  clear hd
  obtain ⟨F, hF⟩ : ∃ F, F = decide (0 < r) := ⟨_, rfl⟩
  have R1 := Lib.hid (fun W hp => pairready1 base A P Q dv lv xs r W hp)
  have R2 := Lib.hid (fun W hp => pairready2 base A P Q dv lv xs r W hp)
  rw [← hF] at R1 R2
  clear hF
  have hFF : (F == F) = true := by simp
  go_enter Tryd.func33, Tryd.ntmps33
  go_wp2_with fail
  generalize hW : w.alloc _ = W
  have F0 : Fr No w W := by rw [← hW]; exact (Fr.refl _ _).alloc _
  clear hW
  have HP := Lib.hid (H.out.no F0)
  have p0 : W.cell? ⟨A, 0, none⟩ = some (.pointer (some ⟨P, 0, none⟩)) := HP.out.2.2.2.1.cell 0
  have p1 : W.cell? ⟨A, 1, none⟩ = some (.pointer (some ⟨Q, 0, none⟩)) := HP.out.2.2.2.1.cell 1
  have HF0 := Lib.hid F0; clear F0
  go_region_held3 (fun w' => w'.cell? ⟨A, 0, none⟩ = some (.pointer (some ⟨P, 0, none⟩)) ∧ w'.cell? ⟨A, 1, none⟩ = some (.pointer (some ⟨Q, 0, none⟩)))
    (first
      | go_keep
      | exact k3
      | exact k2
      | exact k1)
    (first
      | (go_at_call 30; refine (R1.out _ (HP.out.no (Fr.refl No _).drew)).mono ?_; rintro e w' ⟨rfl, rfl⟩)
      | (go_at_call 46; refine (R2.out _ (HP.out.no (Fr.refl No _).drew)).mono ?_; rintro e w' ⟨rfl, rfl⟩)
      | (go_at_call 16; refine (state_calls P xs r _ (HP.out.no (Fr.refl No _).drew).2.2.2.2.1).mono ?_; intro e w1 hp; unfold StatePost at hp; obtain ⟨v1, v2, rfl, ho1, ho2, _, hb1⟩ := hp; have HF1 := Lib.hid ((Fr.refl No W).drew.trans (Fr.of_below hb1) (fun _ _ h => h)); have HP1 := Lib.hid (HP.out.no HF1.out); have k1 : w1.cell? ⟨A, 0, none⟩ = some (.pointer (some ⟨P, 0, none⟩)) ∧ w1.cell? ⟨A, 1, none⟩ = some (.pointer (some ⟨Q, 0, none⟩)) := ⟨HP1.out.2.2.2.1.cell 0, HP1.out.2.2.2.1.cell 1⟩; have B1 := Lib.hid (ho1.bsl (by simp; omega)); have B2 := Lib.hid (ho2.bsl (by simp; omega)); clear hb1 ho1 ho2)
      | (go_at_call 19; refine (pairstate2 base A P Q dv lv xs r _ HP1.out).mono ?_; intro e w2 hp; unfold StatePost at hp; obtain ⟨u1, u2, rfl, ho1, ho2, _, hb2⟩ := hp; have HF2 := Lib.hid (HF1.out.trans (Fr.of_below hb2) (fun _ _ h => h)); have HP2 := Lib.hid (HP.out.no HF2.out); have k2 : w2.cell? ⟨A, 0, none⟩ = some (.pointer (some ⟨P, 0, none⟩)) ∧ w2.cell? ⟨A, 1, none⟩ = some (.pointer (some ⟨Q, 0, none⟩)) := ⟨HP2.out.2.2.2.1.cell 0, HP2.out.2.2.2.1.cell 1⟩; have B3 := Lib.hid (ho1.bsl (by simp; omega)); have B4 := Lib.hid (ho2.bsl (by simp; omega)); have C1 := Lib.hid (B1.out.no (Fr.of_below hb2)); have C2 := Lib.hid (B2.out.no (Fr.of_below hb2)); clear hb2 ho1 ho2)
      | (go_at_call 18; refine (states_calls (xs.take r) (xs.drop r) _ _ _ _ _ C1.out C2.out B3.out B4.out).mono ?_; rintro e w3 ⟨rfl, hf3⟩; have HF3 := Lib.hid (HF2.out.trans hf3 (fun _ _ h => h)); have HP3 := Lib.hid (HP.out.no HF3.out); have k3 : w3.cell? ⟨A, 0, none⟩ = some (.pointer (some ⟨P, 0, none⟩)) ∧ w3.cell? ⟨A, 1, none⟩ = some (.pointer (some ⟨Q, 0, none⟩)) := ⟨HP3.out.2.2.2.1.cell 0, HP3.out.2.2.2.1.cell 1⟩; clear hf3))
  rename_i hHeld
  clear hHeld
  have FI := Lib.hid (pairpost_mk (PairTo.refl H.out (HF0.out.trans HF3.out (fun _ _ h => h))))
  go_wp2_with fail
  go_ret
  exact FI.out

set_option maxRecDepth 100000 in
set_option maxHeartbeats 6400000 in
theorem step6_calls (c n : Int) (dt : Value) (ds : List Int) (w : World) (h : PairAt w base A P Q dv lv xs r) (hk : KeysAt w) (hd : BSl w dt ds) :
    Calls Tryd.prog 33 #[.pointer (some ⟨A, 0, none⟩), .agg #[.int .i64 6, .int .u8 c, .int .i64 n, dt]] w (PairPost base A P Q dv lv w) := by
  obtain ⟨da, dc, rfl⟩ := hd.shape
  have hr := h.2.2.2.2.2.2.1
  have h128 := h.2.2.2.2.1.2.1
  have HOK := Lib.hid h.2.2.2.2.2.2
  have p0 : w.cell? ⟨A, 0, none⟩ = some (.pointer (some ⟨P, 0, none⟩)) := h.2.2.2.1.cell 0
  have hAl := h.2.2.2.1.lt
  have H := Lib.hid h; clear h
  have HK := Lib.hid hk; clear hk
  clear hd
  go_enter Tryd.func33, Tryd.ntmps33
  go_wp2_with fail
  generalize hW : w.alloc _ = W
  have F0 : Fr No w W := by rw [← hW]; exact (Fr.refl _ _).alloc _
  clear hW
  have HP := Lib.hid (H.out.no F0)
  have HF0 := Lib.hid F0; clear F0
  refine (state_calls P xs r W HP.out.2.2.2.2.1).mono ?_
  intro e w1 hp
  unfold StatePost at hp
  obtain ⟨v1, v2, rfl, ho1, ho2, _, hb1⟩ := hp
  have HF1 := Lib.hid (Fr.of_below hb1)
  have B1 := Lib.hid (ho1.bsl (by simp; omega))
  have B2 := Lib.hid (ho2.bsl (by simp; omega))
  clear hb1 ho1 ho2
  go_wp2_with fail
  refine (from_calls (xs.take r) (xs.drop r) _ _ w1 B1.out B2.out (fun x hx => HOK.out.2.2 x (List.mem_of_mem_take hx)) (fun x hx => HOK.out.2.2 x (List.mem_of_mem_drop hx)) ((HK.out.no HF0.out).no HF1.out)).mono ?_
  intro e w2 hp
  unfold FromPost at hp
  rcases hp with ⟨_, P2, rfl, hP2, hC2, hB2⟩ | ⟨hn, _⟩
  case inr => exact absurd HOK.out.2.1 hn
  have hl : (xs.take r).length = r := by simp; omega
  rw [List.take_append_drop, hl] at hC2
  have HF2 := Lib.hid ((HF0.out.trans HF1.out (fun _ _ h => h)).trans (Fr.of_below hB2) (fun _ _ h => h))
  have hb2 := (H.out.no HF2.out).2.2.2.1
  have q0 : w2.cell? ⟨A, 0, none⟩ = some (.pointer (some ⟨P, 0, none⟩)) := hb2.cell 0
  have f0 := hb2.free 0
  have FI := Lib.hid (pairpost_mk (H.out.again (Nat.le_trans (HF0.out.trans HF1.out (fun _ _ h => h)).size hP2) hC2 HF2.out))
  clear hC2 hB2 hb2 hP2 hl
  go_wp2_with fail
  go_ret
  exact FI.out

theorem step_calls (k c n : Int) (dt : Value) (ds : List Int) (w : World) (h : PairAt w base A P Q dv lv xs r) (hk : KeysAt w) (h0 : 0 < base) (hb : 0 ≤ c ∧ c ≤ 255) (hn : I64 n) (hd : BSl w dt ds) (hi : InB ds) (hlow : ds ≠ [] → ∀ q, dt.ownBlock = some q → q < base) :
    Calls Tryd.prog 33 #[.pointer (some ⟨A, 0, none⟩), .agg #[.int .i64 k, .int .u8 c, .int .i64 n, dt]] w (PairPost base A P Q dv lv w) := by
  by_cases h1 : k = 1
  · subst h1; exact step1_calls base A P Q dv lv xs r c n dt ds w h hk hb hd
  · by_cases h2 : k = 2
    · subst h2; exact step2_calls base A P Q dv lv xs r c n dt ds w h hk h0 hd hi hlow
    · by_cases h3 : k = 3
      · subst h3; exact step3_calls base A P Q dv lv xs r c n dt ds w h hn hd
      · by_cases h4 : k = 4
        · subst h4; exact step4_calls base A P Q dv lv xs r c n dt ds w h hn hd
        · by_cases h5 : k = 5
          · subst h5; exact step5_calls base A P Q dv lv xs r c n dt ds w h hd
          · by_cases h6 : k = 6
            · subst h6; exact step6_calls base A P Q dv lv xs r c n dt ds w h hk hd
            · exact step0_calls base A P Q dv lv xs r k c n dt ds w h hd ⟨h1, h2, h3, h4, h5, h6⟩
end
end Go.Proofs.YtollgpnaadgncaaDoor
