/- hartixlaw11.Book: typed: the walk. No condition. -/
import Derived.Test.YtollgpnaadgncaaDoorBook
namespace Go.Proofs.YtollgpnaadgncaaDoor
open Go.RowKit

theorem own_len (a : Option Addr) (n m c : Nat) : (Value.slice a n c).ownBlock = (Value.slice a m c).ownBlock := by
  cases a <;> rfl

set_option maxRecDepth 100000 in
set_option maxHeartbeats 3200000 in
theorem typed_small (base B : Nat) (dv lv : Value) (D : List Int) (G : Nat) (L : List Int) (c : Int) (w : World) (h : BookAt w base B dv lv D G L) (hl : L.length ≤ 1000) (hc : c = 0 ∨ c = 21 ∨ c = 8 ∨ c = 127) :
    Calls Tryd.prog 29 #[.pointer (some ⟨B, 0, none⟩), .int .u8 c] w (TypedPost base B dv lv D G L c w) := by
  obtain ⟨la, lc, rfl, hlc, _⟩ := row_shape h.2.2.2.2.1
  have c2 : w.cell? ⟨B, 2, none⟩ = some (.slice la L.length lc) := h.2.2.1.cell 2
  have f2 := h.2.2.1.free 2
  have hfs : ∀ v, Fr (BookFP B dv (.slice la L.length lc)) w (w.setCell ⟨B, 2, none⟩ v) := fun v => (Fr.refl _ w).setCell (p := ⟨B, 2, none⟩) (fun _ => .inl rfl) v
  by_cases h0 : c = 0
  · have FIN := Lib.hid (typed_mk (c := c) (bk_still (c := c) (.inr (by omega))).1 (bk_still (c := c) (.inr (by omega))).2 h (Fr.refl (BookFP B dv (.slice la L.length lc)) w))
    subst h0
    clear h hfs hc
    go_enter Tryd.func29, Tryd.ntmps29
    go_wp2
    go_end0
    exact FIN.out
  · by_cases h21 : c = 21
    · have FIN := Lib.hid (typed_mk (c := c) (bk_back (c := c) (n := L.length) (.inl ⟨h21, rfl⟩)).1 (bk_back (c := c) (n := L.length) (.inl ⟨h21, rfl⟩)).2 (h.setLine (lv' := .slice none 0 0) (by rw [Nat.sub_self, List.take_zero]; exact World.ownsRow_nil _ _ _ _) (fun k _ h => by simp [Value.ownBlock] at h)) (hfs _))
      subst h21
      clear h hfs hc
      go_enter Tryd.func29, Tryd.ntmps29
      go_wp2
      go_end0
      exact FIN.out
    · have hc2 : c = 8 ∨ c = 127 := by omega
      by_cases hL : L = []
      · have FIN := Lib.hid (typed_mk (c := c) (bk_still (c := c) (.inl ⟨hc2, hL⟩)).1 (bk_still (c := c) (.inl ⟨hc2, hL⟩)).2 h (Fr.refl (BookFP B dv (.slice la L.length lc)) w))
        subst hL
        clear h hfs hc
        rcases hc2 with rfl | rfl
        all_goals
          go_enter Tryd.func29, Tryd.ntmps29
          go_wp2
          go_end0
          exact FIN.out
      · have hpos : 0 < L.length := List.length_pos_iff.2 hL
        obtain ⟨N, hN⟩ : ∃ N, L.length = N + 1 := ⟨L.length - 1, by omega⟩
        have hrow : Row 5 .u8 w base (.slice la N lc) (L.take N) := by
          obtain ⟨hl1, hh | ⟨g, cap, cur, hv, hb, hg, h1, h2, h3, h4⟩⟩ := h.2.2.2.2.1
          · have := hh.2; omega
          · cases hv
            have e : (L.take N).length = N := by simp; omega
            refine ⟨by simp, .inr ⟨g, lc, cur, by rw [e], hb, hg, by omega, h2, h3, ?_⟩⟩
            rw [e, Nat.mul_one, List.map_take, ← h4, List.take_take]
            congr 1; omega
        have FIN := Lib.hid (fun W (hf : Fr No w W) => typed_mk (c := c) (w := w) (bk_back (c := c) (n := 1) (.inr ⟨hc2, rfl, hL⟩)).1 (bk_back (c := c) (n := 1) (.inr ⟨hc2, rfl, hL⟩)).2 ((h.no hf).setLine (lv' := .slice la N lc) (by rw [show L.length - 1 = N by omega]; exact row_fr hrow hf (fun _ _ => id)) (fun k hk hk2 => h.2.2.2.2.2 k hk (by rw [own_len la L.length N lc]; exact hk2))) ((hf.mono (S' := BookFP B dv (.slice la L.length lc)) (fun _ h => h.elim)).setCell (p := ⟨B, 2, none⟩) (fun _ => .inl rfl) _))
        have hNl : N ≤ lc := by omega
        have hp : (0 : Int) < L.length := by omega
        have hsub : (L.length : Int) - 1 = N := by omega
        have hwr : IntKind.i64.wrap (N : Int) = N := IntWalk.i64_in _ (by omega)
        have HSUB := Lib.hid hsub
        have HWR := Lib.hid hwr
        clear h hfs hc hrow hN hL hsub hwr
        rcases hc2 with rfl | rfl
        all_goals
          go_enter Tryd.func29, Tryd.ntmps29
          go_wp2_with fail
          have hsub := HSUB.out
          have hwr := HWR.out
          go_still_tail 14, (by kernel_rfl)
          change wpList _ _ _ _ _ w.drew
          obtain ⟨W2, hW2⟩ : ∃ W2 : World, W2 = w.drew := ⟨_, rfl⟩
          rw [← hW2]
          have hFW2 : Fr No w W2 := by rw [hW2]; exact (Fr.refl _ _).drew
          have c2 : W2.cell? ⟨B, 2, none⟩ = some (.slice la L.length lc) := hFW2.cell c2 id
          have f2 : W2.frozen? ⟨B, 2, none⟩ = false := by rw [hW2]; exact f2
          have FI := Lib.hid (FIN.out W2 hFW2)
          clear hW2 hFW2 hsub hwr
          go_wp2_with fail
          go_end0
          exact FI.out

end Go.Proofs.YtollgpnaadgncaaDoor
