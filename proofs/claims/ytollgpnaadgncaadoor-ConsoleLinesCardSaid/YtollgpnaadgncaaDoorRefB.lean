/- hartixref11.back. No condition. -/
import Derived.Test.YtollgpnaadgncaaDoorRefA
namespace Go.Proofs.YtollgpnaadgncaaDoor
open Go.RowKit

set_option maxHeartbeats 3200000 in
theorem refback_calls (n : Nat) (w : World) (hn : n ≤ 1000) :
    Calls Tryd.prog 48 #[.int .i64 n] w fun e w' => ∃ v', e = .returned v' ∧ Own w' w.heap.size v' (backs n) ∧ Below w.heap.size w w' := by
  obtain ⟨i0, hi, hz0, hz1, hz2⟩ := info_parts infoU8
  go_enter Tryd.func48, Tryd.ntmps48
  go_wp2
  go_loopw [3, 4] (fun c0 i wr => ∃ (v : Value) (k : Nat), v = c0 ∧ k ≤ n ∧ i = .int .i64 k ∧ wr.ownsRow w.heap.size 5 1 v (3 * k) ((backs k).map (Value.int .u8)) ∧ (k = 0 → v = .slice none 0 0) ∧ Below w.heap.size w wr)
    (fun _ i _ => n - (intOf i).toNat)
  case atStart => exact ⟨_, 0, rfl, Nat.zero_le _, rfl, World.ownsRow_nil _ _ _ _, fun _ => rfl, Below.refl _ _⟩
  case round =>
    obtain ⟨v, k, rfl, hk, rfl, hown, hnil, hbel⟩ := hrel
    have HN := Lib.hid hnil; clear hnil
    by_cases hlt : k < n
    · have hsz := hbel.size
      go_wp2_with (at_builtin; refine wpList_append_own _ rfl _ _ 22 rfl w.heap.size 5 i0 (.int .u8 0) 1 1 Tryd.underlying22 hi hz0 hz1 hz2 rfl (by decide) _ _ _ rfl (hown.alloc _) ⟨wr.heap.size, 0, none⟩ 3 3 [.int .u8 8, .int .u8 32, .int .u8 8] rfl rfl (three_new _ _ _ _ _) (three_cell_int _ _ _ _) ?c3 ?c4 ?c5 ?_)
      case c3 => unfold maxLen; omega
      case c4 => omega
      case c5 => simp; omega
      intro v' w1 hown' hgrow hn'
      have hbel' : Below w.heap.size w w1 := (hbel.alloc hsz _).grown hgrow (by simp; omega) (fun q hq => (hown.lt q hq).1)
      clear hn' hgrow hown HN
      have HNEW := Lib.hid (show w1.ownsRow w.heap.size 5 1 v' (3 * (k + 1)) ((backs (k + 1)).map (Value.int .u8)) by
        rw [backs, List.map_append, show 3 * (k + 1) = 3 * k + 3 by omega]; exact hown')
      clear hown'
      go_wp2
      go_roundw
      case rel => exact ⟨_, k + 1, rfl, by omega, by go_num, HNEW.out, fun h => by omega, hbel'⟩
      case measure => simp [intOf]; omega
    · have he : k = n := by omega
      subst he
      have FIN := Lib.hid (show Own wr w.heap.size v (backs k) from ⟨by rw [backs_length]; exact hown, fun h => HN.out (by
        have := backs_length k
        rw [h] at this; simp at this; omega)⟩)
      clear hown
      go_wp2
      go_ret
      exact ⟨_, rfl, FIN.out, hbel⟩

end Go.Proofs.YtollgpnaadgncaaDoor
