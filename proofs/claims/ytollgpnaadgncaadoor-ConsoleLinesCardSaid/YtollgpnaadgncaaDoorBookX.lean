/- hartixlaw11.Book: typed: a byte that is taken. No condition. -/
import Derived.Test.YtollgpnaadgncaaDoorBookW
namespace Go.Proofs.YtollgpnaadgncaaDoor
open Go.RowKit

theorem book_put {base B G : Nat} {dv lv lv1 : Value} {D L : List Int} {x : Int} {w w0 w1 : World} (h : BookAt w base B dv lv D G L) (h0 : Fr No w w0) (hr : Row 5 .u8 w1 base lv1 (L ++ [x])) (hf : Fr (fun k => lv.ownBlock = some k ∧ lv1.ownBlock = some k) w0 w1)
    (hn : ∀ k, lv1.ownBlock = some k → lv.ownBlock = some k ∨ w0.heap.size ≤ k) :
    BookAt (w1.setCell ⟨B, 2, none⟩ lv1) base B dv lv1 D G (L ++ [x]) ∧ Fr (BookFP B dv lv) w (w1.setCell ⟨B, 2, none⟩ lv1) ∧ (∀ k, lv1.ownBlock = some k → lv.ownBlock = some k ∨ w.heap.size ≤ k) := by
  have hb0 := h.no h0
  have s0 := h0.size
  have hb1 : Blk w1 B [dv, .int .i64 G, lv] 56 := hb0.2.2.1.fr hf (fun hh => h.lvB B hh.1 rfl)
  have hfs : Fr (· = B) w1 (w1.setCell ⟨B, 2, none⟩ lv1) := (Fr.refl (· = B) w1).setCell (p := ⟨B, 2, none⟩) (fun _ => rfl) _
  have hd1 := row_fr hb0.2.2.2.1 hf (fun k hk hh => h.2.2.2.2.2 k hk hh.1)
  refine ⟨⟨?_, h.2.1, hb1.set 2 lv1, row_fr hd1 hfs (fun k hk e => h.dvB k hk e), row_fr hr hfs (fun k hk e => row_ne_blk hr hb1 (by decide) k hk e), fun k hk hk2 => ?_⟩, ?_, fun k hk => ?_⟩
  · have := h.1; have := hf.size; simp [World.setCell]; omega
  · rcases hn k hk2 with hh | hh
    · exact h.2.2.2.2.2 k hk hh
    · have := (h.2.2.2.1.lt k hk).2; omega
  · exact ((h0.mono (S' := BookFP B dv lv) (fun _ h => h.elim)).trans (hf.mono (S' := BookFP B dv lv) (fun _ h => .inr (.inr h.1))) (fun _ _ h => h)).trans hfs (fun _ _ h => .inl h)
  · rcases hn k hk with hh | hh
    · exact .inl hh
    · exact .inr (by omega)

theorem book_line {base B G : Nat} {dv lv dv4 : Value} {D L : List Int} {w w0 w1 : World} (h : BookAt w base B dv lv D G L) (h0 : Fr No w w0) (hr : Row 5 .u8 w1 base dv4 (D ++ L)) (hf : Fr (fun k => dv.ownBlock = some k ∧ dv4.ownBlock = some k) w0 w1) :
    BookAt ((w1.setCell ⟨B, 0, none⟩ dv4).setCell ⟨B, 2, none⟩ (.slice none 0 0)) base B dv4 (.slice none 0 0) (D ++ L) G [] ∧ Fr (BookFP B dv lv) w ((w1.setCell ⟨B, 0, none⟩ dv4).setCell ⟨B, 2, none⟩ (.slice none 0 0)) := by
  have hb0 := h.no h0
  have s0 := h0.size
  have hb1 : Blk w1 B [dv, .int .i64 G, lv] 56 := hb0.2.2.1.fr hf (fun hh => h.dvB B hh.1 rfl)
  have hfs : Fr (· = B) w1 ((w1.setCell ⟨B, 0, none⟩ dv4).setCell ⟨B, 2, none⟩ (.slice none 0 0)) := ((Fr.refl (· = B) w1).setCell (p := ⟨B, 0, none⟩) (fun _ => rfl) _).setCell (p := ⟨B, 2, none⟩) (fun _ => rfl) _
  refine ⟨⟨?_, h.2.1, (hb1.set 0 dv4).set 2 (.slice none 0 0), row_fr hr hfs (fun k hk e => row_ne_blk hr hb1 (by decide) k hk e), World.ownsRow_nil _ _ _ _, fun k _ h => by simp [Value.ownBlock] at h⟩, ?_⟩
  · have := h.1; have := hf.size; simp [World.setCell]; omega
  · exact ((h0.mono (S' := BookFP B dv lv) (fun _ h => h.elim)).trans (hf.mono (S' := BookFP B dv lv) (fun _ h => .inr (.inl h.1))) (fun _ _ h => h)).trans hfs (fun _ _ h => .inl h)

theorem rest_nat {D : List Int} {G : Nat} (hG : G ≤ D.length) : (D.drop G).length = D.length - G := List.length_drop

set_option maxRecDepth 100000 in
set_option maxHeartbeats 3200000 in
theorem typed_full (base B : Nat) (dv lv : Value) (D : List Int) (G : Nat) (L : List Int) (c : Int) (w : World) (h : BookAt w base B dv lv D G L) (hG : G ≤ D.length) (hD : D.length ≤ 100000) (hl : (D.drop G).length + L.length = 128) (hc : c ≠ 21 ∧ c ≠ 8 ∧ c ≠ 127 ∧ c ≠ 0) :
    Calls Tryd.prog 29 #[.pointer (some ⟨B, 0, none⟩), .int .u8 c] w (TypedPost base B dv lv D G L c w) := by
  have FIN := Lib.hid (fun m => typed_mk (c := c) (w := w) (bk_still (c := c) (.inr (by omega))).1 (bk_still (c := c) (.inr (by omega))).2 (h.no ((Fr.refl No w).drewN m)) ((Fr.refl (BookFP B dv lv) w).drewN m))
  obtain ⟨la, lc, rfl, hlc, _⟩ := row_shape h.2.2.2.2.1
  obtain ⟨da, dc, rfl, hdc, _⟩ := row_shape h.2.2.2.1
  have c0 : w.cell? ⟨B, 0, none⟩ = some (.slice da D.length dc) := h.2.2.1.cell 0
  have c1 : w.cell? ⟨B, 1, none⟩ = some (.int .i64 G) := h.2.2.1.cell 1
  have c2 : w.cell? ⟨B, 2, none⟩ = some (.slice la L.length lc) := h.2.2.1.cell 2
  have u21 : (c == 21) = false := by simp [hc.1]
  have u8 : (c == 8) = false := by simp [hc.2.1]
  have u127 : (c == 127) = false := by simp [hc.2.2.1]
  have u0 : (c == 0) = false := by simp [hc.2.2.2]
  rw [rest_nat hG] at hl
  obtain ⟨R, hR⟩ : ∃ R, R = D.length - G := ⟨_, rfl⟩
  rw [← hR] at hl
  have hsub : (D.length : Int) - (G : Int) = (R : Int) := by omega
  have hw1 : IntKind.i64.wrap (R : Int) = R := IntWalk.i64_in _ (by omega)
  have hw2 : IntKind.i64.wrap ((R : Int) + L.length) = (R : Int) + L.length := IntWalk.i64_in _ (by omega)
  have hge : decide ((128 : Int) ≤ (R : Int) + L.length) = true := by simp; omega
  have hge2 : (128 : Int) ≤ (R : Int) + L.length := by omega
  clear h hc hl hR
  go_enter Tryd.func29, Tryd.ntmps29
  go_wp2_with fail
  go_quiet (fail)
  go_wp2_with fail
  go_end0
  exact FIN.out _

end Go.Proofs.YtollgpnaadgncaaDoor
