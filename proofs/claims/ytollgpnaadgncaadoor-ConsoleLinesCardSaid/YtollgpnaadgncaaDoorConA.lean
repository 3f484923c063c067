/- console: what the struct's block holds ('ConAt'), the table of keys ('KeysAt'), key, never, none, New. No condition. -/
import Derived.Test.YtollgpnaadgncaaDoorLend
import Derived.Deep.LoopGhost
namespace Go.Proofs.YtollgpnaadgncaaDoor
open Go.RowKit

/-- the table's numbers, one after the other -/
def keyTab : List Int := [0, 1, 21, 2, 8, 3, 127, 4, 4, 5, 10, 0]
/-- the table of keys lies as it was laid -/
def KeysAt (w : World) : Prop := 0 < w.heap.size ∧ ∀ j, j < 12 → w.cell? ⟨0, j, none⟩ = some (.int .i64 (keyTab.getD j 0))
theorem KeysAt.fr {S : Nat → Prop} {w w' : World} (h : KeysAt w) (hf : Fr S w w') (hn : ¬ S 0) : KeysAt w' :=
  ⟨Nat.lt_of_lt_of_le h.1 hf.size, fun j hj => hf.cell (h.2 j hj) hn⟩
theorem KeysAt.no {w w' : World} (h : KeysAt w) (hf : Fr No w w') : KeysAt w' := h.fr hf id

/-- what a byte does when it is typed -/
def keyK (b : Int) : Int := if b = 0 then 1 else if b = 21 then 2 else if b = 8 then 3 else if b = 127 then 4 else if b = 4 then 5 else 0

theorem key_idx0 (w : World) : (Instr.index 93 (.agg #[.int .i64 0, .int .i64 1, .int .i64 21, .int .i64 2, .int .i64 8, .int .i64 3, .int .i64 127, .int .i64 4, .int .i64 4, .int .i64 5, .int .i64 10, .int .i64 0]) (.int .i64 0)).run Tryd.prog w = .ok (.agg #[.int .i64 0, .int .i64 1]) w := by kernel_rfl
theorem key_idx1 (w : World) : (Instr.index 93 (.agg #[.int .i64 0, .int .i64 1, .int .i64 21, .int .i64 2, .int .i64 8, .int .i64 3, .int .i64 127, .int .i64 4, .int .i64 4, .int .i64 5, .int .i64 10, .int .i64 0]) (.int .i64 1)).run Tryd.prog w = .ok (.agg #[.int .i64 21, .int .i64 2]) w := by kernel_rfl
theorem key_idx2 (w : World) : (Instr.index 93 (.agg #[.int .i64 0, .int .i64 1, .int .i64 21, .int .i64 2, .int .i64 8, .int .i64 3, .int .i64 127, .int .i64 4, .int .i64 4, .int .i64 5, .int .i64 10, .int .i64 0]) (.int .i64 2)).run Tryd.prog w = .ok (.agg #[.int .i64 8, .int .i64 3]) w := by kernel_rfl
theorem key_idx3 (w : World) : (Instr.index 93 (.agg #[.int .i64 0, .int .i64 1, .int .i64 21, .int .i64 2, .int .i64 8, .int .i64 3, .int .i64 127, .int .i64 4, .int .i64 4, .int .i64 5, .int .i64 10, .int .i64 0]) (.int .i64 3)).run Tryd.prog w = .ok (.agg #[.int .i64 127, .int .i64 4]) w := by kernel_rfl
theorem key_idx4 (w : World) : (Instr.index 93 (.agg #[.int .i64 0, .int .i64 1, .int .i64 21, .int .i64 2, .int .i64 8, .int .i64 3, .int .i64 127, .int .i64 4, .int .i64 4, .int .i64 5, .int .i64 10, .int .i64 0]) (.int .i64 4)).run Tryd.prog w = .ok (.agg #[.int .i64 4, .int .i64 5]) w := by kernel_rfl
theorem key_idx5 (w : World) : (Instr.index 93 (.agg #[.int .i64 0, .int .i64 1, .int .i64 21, .int .i64 2, .int .i64 8, .int .i64 3, .int .i64 127, .int .i64 4, .int .i64 4, .int .i64 5, .int .i64 10, .int .i64 0]) (.int .i64 5)).run Tryd.prog w = .ok (.agg #[.int .i64 10, .int .i64 0]) w := by kernel_rfl

set_option maxRecDepth 100000 in
set_option maxHeartbeats 3200000 in
theorem key_calls (b : Int) (hb0 : 0 ≤ b) (hb1 : b ≤ 255) (w : World) (h : KeysAt w) :
    Calls Tryd.prog 43 #[.int .u8 b] w fun e w' => e = .returned (.int .i64 (keyK b)) ∧ Fr No w w' := by
  obtain ⟨hz, hc⟩ := h
  have k0 : w.cell? ⟨0, 0, none⟩ = some (.int .i64 0) := hc 0 (by omega)
  have k1 : w.cell? ⟨0, 1, none⟩ = some (.int .i64 1) := hc 1 (by omega)
  have k2 : w.cell? ⟨0, 2, none⟩ = some (.int .i64 21) := hc 2 (by omega)
  have k3 : w.cell? ⟨0, 3, none⟩ = some (.int .i64 2) := hc 3 (by omega)
  have k4 : w.cell? ⟨0, 4, none⟩ = some (.int .i64 8) := hc 4 (by omega)
  have k5 : w.cell? ⟨0, 5, none⟩ = some (.int .i64 3) := hc 5 (by omega)
  have k6 : w.cell? ⟨0, 6, none⟩ = some (.int .i64 127) := hc 6 (by omega)
  have k7 : w.cell? ⟨0, 7, none⟩ = some (.int .i64 4) := hc 7 (by omega)
  have k8 : w.cell? ⟨0, 8, none⟩ = some (.int .i64 4) := hc 8 (by omega)
  have k9 : w.cell? ⟨0, 9, none⟩ = some (.int .i64 5) := hc 9 (by omega)
  have k10 : w.cell? ⟨0, 10, none⟩ = some (.int .i64 10) := hc 10 (by omega)
  have k11 : w.cell? ⟨0, 11, none⟩ = some (.int .i64 0) := hc 11 (by omega)
  have i0 := key_idx0
  have i1 := key_idx1
  have i2 := key_idx2
  have i3 := key_idx3
  have i4 := key_idx4
  have i5 := key_idx5
  clear hc
  by_cases e0 : b = 0
  case' pos => subst e0
  case' neg =>
    by_cases e1 : b = 21
    case' pos => subst e1
    case' neg =>
      by_cases e2 : b = 8
      case' pos => subst e2
      case' neg =>
        by_cases e3 : b = 127
        case' pos => subst e3
        case' neg =>
          by_cases e4 : b = 4
          case' pos => subst e4
          case' neg =>
            by_cases e5 : b = 10
            case' pos => subst e5
            case' neg =>
              have t0 : ((0 : Int) == b) = false := by simp; omega
              have t1 : ((21 : Int) == b) = false := by simp; omega
              have t2 : ((8 : Int) == b) = false := by simp; omega
              have t3 : ((127 : Int) == b) = false := by simp; omega
              have t4 : ((4 : Int) == b) = false := by simp; omega
              have t5 : ((10 : Int) == b) = false := by simp; omega
  all_goals
    go_enter Tryd.func43, Tryd.ntmps43
    go_wp2
    refine wp_loop_rounds 7 ?_
    repeat (rw [rounds_succ]; go_wp2)
    go_ret
    refine ⟨?_, by repeat (first | exact Fr.refl _ _ | refine Fr.alloc ?_ _)⟩
    first
      | rfl
      | simp [keyK, *]

end Go.Proofs.YtollgpnaadgncaaDoor
