/- hartixref11.Console: what it holds ('RefC'); New, none, Ready. No condition. -/
import Derived.Test.YtollgpnaadgncaaDoorRefB
namespace Go.Proofs.YtollgpnaadgncaaDoor
open Go.RowKit

/-- Block Q is the document's console, its own in blocks from base on: dn finished, ln being typed -/
def RefC (w : World) (base Q : Nat) (dv lv : Value) (dn ln : List Int) : Prop :=
  base ≤ w.heap.size ∧ Blk w Q [dv, lv, .bool true] 80 ∧ Row 5 .u8 w base dv dn ∧ Row 5 .u8 w base lv ln ∧ (∀ k, dv.ownBlock = some k → lv.ownBlock ≠ some k)

/-- the blocks it lies in -/
def RefFP (Q : Nat) (dv lv : Value) (k : Nat) : Prop := k = Q ∨ dv.ownBlock = some k ∨ lv.ownBlock = some k

theorem RefC.fr {S : Nat → Prop} {w w' : World} {base Q : Nat} {dv lv : Value} {dn ln : List Int} (h : RefC w base Q dv lv dn ln) (hf : Fr S w w') (hn : ∀ k, RefFP Q dv lv k → ¬ S k) : RefC w' base Q dv lv dn ln :=
  ⟨Nat.le_trans h.1 hf.size, h.2.1.fr hf (hn Q (.inl rfl)), row_fr h.2.2.1 hf (fun k hk => hn k (.inr (.inl hk))), row_fr h.2.2.2.1 hf (fun k hk => hn k (.inr (.inr hk))), h.2.2.2.2⟩
theorem RefC.no {w w' : World} {base Q : Nat} {dv lv : Value} {dn ln : List Int} (h : RefC w base Q dv lv dn ln) (hf : Fr No w w') : RefC w' base Q dv lv dn ln := h.fr hf (fun _ _ => id)

set_option maxHeartbeats 800000 in
theorem refnone_calls (Q : Nat) (w : World) (h0 : w.cell? ⟨Q, 2, none⟩ = some (.bool true)) :
    Calls Tryd.prog 42 #[.pointer (some ⟨Q, 0, none⟩)] w fun e w' => e = .returned (.bool false) ∧ w = w' := by
  go_enter Tryd.func42, Tryd.ntmps42
  go_wp2
  go_ret
  exact ⟨rfl, rfl⟩

set_option maxHeartbeats 800000 in
theorem refnew_calls (w : World) :
    Calls Tryd.prog 24 #[] w fun e w' => e = .returned (.pointer (some ⟨w.heap.size, 0, none⟩)) ∧ RefC w' w.heap.size w.heap.size (.slice none 0 0) (.slice none 0 0) [] [] ∧ Below w.heap.size w w' := by
  go_enter Tryd.func24, Tryd.ntmps24
  go_wp2
  go_ret
  exact ⟨rfl, ⟨by simp, Blk.new w [.slice none 0 0, .slice none 0 0, .bool true] _, World.ownsRow_nil _ _ _ _, World.ownsRow_nil _ _ _ _, fun k hk => by simp [Value.ownBlock] at hk⟩, (Below.refl _ _).alloc (Nat.le_refl _) _⟩

set_option maxHeartbeats 800000 in
theorem refready_calls (base Q : Nat) (dv lv : Value) (dn ln : List Int) (w : World) (h : RefC w base Q dv lv dn ln) :
    Calls Tryd.prog 46 #[.pointer (some ⟨Q, 0, none⟩)] w fun e w' => e = .returned (.bool (decide (0 < dn.length))) ∧ w = w' := by
  obtain ⟨ao, c, rfl, _⟩ := row_shape h.2.2.1
  have c0 : w.cell? ⟨Q, 0, none⟩ = some (.slice ao dn.length c) := h.2.1.cell 0
  have c2 : w.cell? ⟨Q, 2, none⟩ = some (.bool true) := h.2.1.cell 2
  clear h
  go_enter Tryd.func46, Tryd.ntmps46
  go_wp2_with (go_at_call 42; refine (refnone_calls Q _ c2).mono ?_; rintro e w' ⟨rfl, rfl⟩)
  go_ret
  exact ⟨rfl, rfl⟩

end Go.Proofs.YtollgpnaadgncaaDoor
