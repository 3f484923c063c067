/- hartixref11.Console: Type. No condition. -/
import Derived.Test.YtollgpnaadgncaaDoorRefI
namespace Go.Proofs.YtollgpnaadgncaaDoor
open Go.RowKit

set_option maxRecDepth 100000 in
set_option maxHeartbeats 3200000 in
theorem reftype_zero (base Q : Nat) (dv lv : Value) (dn ln : List Int) (w : World) (h : RefC w base Q dv lv dn ln) :
    Calls Tryd.prog 27 #[.pointer (some ⟨Q, 0, none⟩), .int .u8 0] w (RefTypePost base Q dv lv dn ln 0 w) := by
  have c2 : w.cell? ⟨Q, 2, none⟩ = some (.bool true) := h.2.1.cell 2
  have FIN := Lib.hid (reftype_still (c := 0) h (Fr.refl No w) (.inr (by omega)))
  clear h
  go_enter Tryd.func27, Tryd.ntmps27
  go_wp2_with (go_at_call 42; refine (refnone_calls Q _ c2).mono ?_; rintro e w' ⟨rfl, rfl⟩)
  go_ret2
  exact FIN.out

set_option maxRecDepth 100000 in
set_option maxHeartbeats 3200000 in
theorem reftype_kill (base Q : Nat) (dv lv : Value) (dn ln : List Int) (w : World) (h : RefC w base Q dv lv dn ln) (hl : ln.length ≤ 1000) :
    Calls Tryd.prog 27 #[.pointer (some ⟨Q, 0, none⟩), .int .u8 21] w (RefTypePost base Q dv lv dn ln 21 w) := by
  have c2 : w.cell? ⟨Q, 2, none⟩ = some (.bool true) := h.2.1.cell 2
  obtain ⟨la, lc, rfl, _⟩ := row_shape h.2.2.2.1
  have c1 : w.cell? ⟨Q, 1, none⟩ = some (.slice la ln.length lc) := h.2.1.cell 1
  have f1 := h.2.1.free 1
  have hsz : (w.setCell ⟨Q, 1, none⟩ (.slice none 0 0)).heap.size = w.heap.size := by simp [World.setCell]
  have FIN := Lib.hid (fun w2 v' ho hb => reftype_back (c := 21) (n := ln.length) (v' := v') (w2 := w2) h (.inl ⟨rfl, rfl⟩) (Fr.refl No w) (by rw [Nat.sub_self, List.take_zero]; exact World.ownsRow_nil _ _ _ _) (fun k hk => by simp [Value.ownBlock] at hk) ho hb)
  have HSZ := Lib.hid hsz
  clear h hsz
  go_enter Tryd.func27, Tryd.ntmps27
  go_wp2_with (go_at_call 42; refine (refnone_calls Q _ c2).mono ?_; rintro e w' ⟨rfl, rfl⟩)
  refine (refback_calls ln.length _ hl).mono ?_
  rintro e w2 ⟨v', rfl, ho, hb⟩
  have FI := Lib.hid (FIN.out w2 v' (by rw [HSZ.out] at ho; exact ho) (by rw [HSZ.out] at hb; exact hb))
  clear ho hb
  go_wp2_with fail
  go_ret2
  exact FI.out

set_option maxRecDepth 100000 in
set_option maxHeartbeats 3200000 in
theorem reftype_erase (base Q : Nat) (dv lv : Value) (dn ln : List Int) (c : Int) (w : World) (h : RefC w base Q dv lv dn ln) (hl : ln.length ≤ 1000) (hc : c = 8 ∨ c = 127) :
    Calls Tryd.prog 27 #[.pointer (some ⟨Q, 0, none⟩), .int .u8 c] w (RefTypePost base Q dv lv dn ln c w) := by
  have c2 : w.cell? ⟨Q, 2, none⟩ = some (.bool true) := h.2.1.cell 2
  by_cases hln : ln = []
  · have FIN := Lib.hid (reftype_still (c := c) h (Fr.refl No w) (.inl ⟨hc, hln⟩))
    subst hln
    obtain ⟨la, lc, rfl, _⟩ := row_shape h.2.2.2.1
    have c1 : w.cell? ⟨Q, 1, none⟩ = some (.slice la 0 lc) := h.2.1.cell 1
    clear h
    rcases hc with rfl | rfl
    all_goals
      go_enter Tryd.func27, Tryd.ntmps27
      go_wp2_with (go_at_call 42; refine (refnone_calls Q _ c2).mono ?_; rintro e w' ⟨rfl, rfl⟩)
      go_ret2
      exact FIN.out
  · have hpos : 0 < ln.length := List.length_pos_iff.2 hln
    have hQl := h.2.1.lt
    obtain ⟨N, hN⟩ : ∃ N, ln.length = N + 1 := ⟨ln.length - 1, by omega⟩
    have hbs := BSl.of_own h.2.2.2.1 (by omega)
    obtain ⟨la, lc, rfl, hlc, _⟩ := row_shape h.2.2.2.1
    have c1 : w.cell? ⟨Q, 1, none⟩ = some (.slice la ln.length lc) := h.2.1.cell 1
    have f1 := h.2.1.free 1
    have hup := hbs.upto N (by omega)
    have hNl : N ≤ lc := by omega
    have hz : ((ln.length : Int) == 0) = false := by simp; omega
    have hsub : (ln.length : Int) - 1 = N := by omega
    have hwr : IntKind.i64.wrap (N : Int) = N := IntWalk.i64_in _ (by omega)
    have hsz : ∀ (w1 : World) v, (w1.setCell ⟨Q, 1, none⟩ v).heap.size = w1.heap.size := fun w1 v => by simp [World.setCell]
    have FIN := Lib.hid (fun w1 w2 v' lv' hf0 hl1 hln1 ho hb => reftype_back (c := c) (n := 1) (v' := v') (lv' := lv') (w1 := w1) (w2 := w2) h (.inr ⟨hc, rfl, hln⟩) hf0 hl1 hln1 ho hb)
    have HSZ := Lib.hid hsz
    have H := Lib.hid h
    have HUP := Lib.hid hup
    have HSUB := Lib.hid hsub
    have HWR := Lib.hid hwr
    have HN := Lib.hid hN
    have hN1 : ln.length - 1 = N := by omega
    rw [hN1] at FIN
    clear h hsz hup hbs hln hN hsub hwr hN1
    rcases hc with rfl | rfl
    all_goals
      go_enter Tryd.func27, Tryd.ntmps27
      go_wp2_with (go_at_call 42; refine (refnone_calls Q _ c2).mono ?_; rintro e w' ⟨rfl, rfl⟩)
      have hsub := HSUB.out
      have hwr := HWR.out
      go_region_law (first
        | (go_simp; go_at_call 36; refine (joined1_calls (ln.take N) _ _ (HUP.out.no (Fr.refl No _).drew)).mono ?_; rintro e w1 ⟨v1, rfl, ho1, hb1⟩; obtain ⟨a1, b1, hv1⟩ := ho1.shape; obtain ⟨L1, hL1⟩ : ∃ L, L = (ln.take N).length := ⟨_, rfl⟩; rw [← hL1] at hv1; subst hv1; clear hL1; have hC1 := (H.out.no (Fr.refl No _).drew).no (Fr.of_below hb1); have k1 : w1.cell? ⟨Q, 1, none⟩ = some (.slice la ln.length lc) := hC1.2.1.cell 1; have g1 := hC1.2.1.free 1; have HO1 := Lib.hid ho1; have HB1 := Lib.hid hb1; clear ho1 hb1 hC1))
      all_goals
        clear hsub hwr
        go_wp2_with fail
        refine (refback_calls 1 _ (by omega)).mono ?_
        rintro e w2 ⟨v', rfl, ho, hb⟩
        rw [HSZ.out] at ho hb
        have FI := Lib.hid (FIN.out w1 w2 v' _ ((Fr.refl No _).drew.trans (Fr.of_below HB1.out) (fun _ _ h => h)) (own_base_row HO1.out (by have := H.out.1; simpa using this)) (fun k hk => by have := (HO1.out.lt k hk).1; simpa using this) ho hb)
        clear ho hb
        go_wp2_with fail
        go_ret2
        exact FI.out

end Go.Proofs.YtollgpnaadgncaaDoor
