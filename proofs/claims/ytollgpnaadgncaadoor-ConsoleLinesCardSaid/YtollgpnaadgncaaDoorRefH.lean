/- hartixref11: plain, State. No condition. -/
import Derived.Test.YtollgpnaadgncaaDoorRefG
import Derived.Test.YtollgpnaadgncaaDoorConG
import Derived.Test.YtollgpnaadgncaaDoorConH
import Derived.Deep.RegionHeld3
namespace Go.Proofs.YtollgpnaadgncaaDoor
open Go.RowKit

set_option maxHeartbeats 1600000 in
theorem plain_calls (b : Int) (w : World) :
    Calls Tryd.prog 35 #[.int .u8 b] w fun e w' => e = .returned (.bool (!decide (Nev b))) ∧ w = w' := by
  by_cases hn : Nev b
  · rw [show (!decide (Nev b)) = false by simp [hn]]
    unfold Nev at hn
    rcases hn with rfl | rfl | rfl | rfl | rfl
    all_goals
      go_enter Tryd.func35, Tryd.ntmps35
      go_wp2
      go_ret
      exact ⟨rfl, rfl⟩
  · rw [show (!decide (Nev b)) = true by simp [hn]]
    have t0 : (b != 0) = true := by simp; exact fun h => hn (.inl h)
    have t1 : (b != 21) = true := by simp; exact fun h => hn (.inr (.inl h))
    have t2 : (b != 8) = true := by simp; exact fun h => hn (.inr (.inr (.inl h)))
    have t3 : (b != 127) = true := by simp; exact fun h => hn (.inr (.inr (.inr (.inl h))))
    have t4 : (b != 13) = true := by simp; exact fun h => hn (.inr (.inr (.inr (.inr h))))
    clear hn
    go_enter Tryd.func35, Tryd.ntmps35
    go_wp2
    go_ret
    exact ⟨rfl, rfl⟩

set_option maxRecDepth 100000 in
set_option maxHeartbeats 3200000 in
theorem refstate_calls (base Q : Nat) (dv lv : Value) (dn ln : List Int) (w : World) (h : RefC w base Q dv lv dn ln) (hl : dn.length + ln.length ≤ 1000) :
    Calls Tryd.prog 19 #[.pointer (some ⟨Q, 0, none⟩)] w (StatePost (dn ++ ln) dn.length w) := by
  have hQl := h.2.1.lt
  obtain ⟨da, dc, rfl, _⟩ := row_shape h.2.2.1
  obtain ⟨la, lc, rfl, _⟩ := row_shape h.2.2.2.1
  go_enter Tryd.func19, Tryd.ntmps19
  go_wp2_with fail
  generalize hW : w.alloc _ = W
  have F0 : Fr No w W := by rw [← hW]; exact (Fr.refl _ _).alloc _
  have HS : Blk W w.heap.size [.slice none 0 0, .slice none 0 0] 24 := by rw [← hW]; exact Blk.new w _ _
  clear hW
  have hC := h.no F0
  have c0 : W.cell? ⟨Q, 0, none⟩ = some (.slice da dn.length dc) := hC.2.1.cell 0
  have c1 : W.cell? ⟨Q, 1, none⟩ = some (.slice la ln.length lc) := hC.2.1.cell 1
  have c2 : W.cell? ⟨Q, 2, none⟩ = some (.bool true) := hC.2.1.cell 2
  have hn : w.heap.size ≠ Q := by omega
  have hs := HS.lt
  have hsz0 : w.heap.size ≤ W.heap.size := F0.size
  have HSH := Lib.hid HS; clear HS
  have HC := Lib.hid hC; clear hC h
  have HF0 := Lib.hid F0; clear F0
  have s0 : W.cell? ⟨w.heap.size, 0, none⟩ = some (.slice none 0 0) := HSH.out.cell 0
  refine (refnone_calls Q W c2).mono ?_
  rintro e w' ⟨rfl, rfl⟩
  go_wp2_with fail
  go_region_held3 (fun w' => w'.cell? ⟨Q, 0, none⟩ = some (.slice da dn.length dc) ∧ w'.cell? ⟨Q, 1, none⟩ = some (.slice la ln.length lc))
    (first
      | go_keep
      | exact k2
      | exact k1)
    (first
      | (go_at_call 36; have hh := TK.out; refine (joined1_calls ln _ _ (BSl.of_own HC1.out.2.2.2.1 (by omega))).mono ?_; rintro e w2 ⟨v2, rfl, ho2, hb2⟩; obtain ⟨ao2, cc2, rfl⟩ := ho2.shape; have hC2 := HC1.out.no (Fr.of_below hb2); have k2 : w2.cell? ⟨Q, 0, none⟩ = some (.slice da dn.length dc) ∧ w2.cell? ⟨Q, 1, none⟩ = some (.slice la ln.length lc) := ⟨hC2.2.1.cell 0, hC2.2.1.cell 1⟩; have hblk := HBK.out.fr (Fr.of_below hb2) id; have t0 : w2.cell? ⟨w.heap.size, 0, none⟩ = some (.slice none 0 0) := hblk.cell 0; have t1 : w2.cell? ⟨w.heap.size, 1, none⟩ = some (.slice none 0 0) := hblk.cell 1; have g0 := hblk.free 0; have g1 := hblk.free 1; have HO2 := Lib.hid ho2; have HBE2 := Lib.hid hb2; have hsz2 : w.heap.size < w2.heap.size := hblk.lt; clear hblk hC2 ho2 hb2 hh)
      | (go_at_call 36; refine (joined1_calls dn _ _ (BSl.of_own (HC.out.no (Fr.refl No _).drew).2.2.1 (by omega))).mono ?_; rintro e w1 ⟨v1, rfl, ho1, hb1⟩; obtain ⟨ao1, cc1, rfl⟩ := ho1.shape; have HC1 := Lib.hid ((HC.out.no (Fr.refl No _).drew).no (Fr.of_below hb1)); have HBK := Lib.hid (HSH.out.drew.fr (Fr.of_below hb1) id); have k1 : w1.cell? ⟨Q, 0, none⟩ = some (.slice da dn.length dc) ∧ w1.cell? ⟨Q, 1, none⟩ = some (.slice la ln.length lc) := ⟨HC1.out.2.1.cell 0, HC1.out.2.1.cell 1⟩; have HO1 := Lib.hid ho1; have HBE1 := Lib.hid hb1; have TK := Lib.hid True.intro; clear ho1 hb1))
  rename_i hHeld
  clear hHeld
  have FIN := Lib.hid (state_fin (xs := dn ++ ln) (r := dn.length) HF0.out hs (by rw [List.take_left]; exact HO1.out) HBE1.out (by rw [List.drop_left]; exact HO2.out) HBE2.out)
  go_wp2
  exact bodyPost_ret (v := .agg #[.slice ao1 dn.length cc1, .slice ao2 ln.length cc2]) (by simp [results, Tryd.results19, go_sem, t0, t1]) rfl FIN.out

end Go.Proofs.YtollgpnaadgncaaDoor
