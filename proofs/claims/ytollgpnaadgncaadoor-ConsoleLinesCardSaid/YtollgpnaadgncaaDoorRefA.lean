/- hartixref11.joined, back. No condition. -/
import Derived.Test.YtollgpnaadgncaaDoorConD
import Derived.Test.YtollgpnaadgncaaDoorRow
namespace Go.Proofs.YtollgpnaadgncaaDoor
open Go.RowKit

set_option maxHeartbeats 3200000 in
theorem joined_calls (xs ys : List Int) (v1 v2 : Value) (w : World) (h1 : BSl w v1 xs) (h2 : BSl w v2 ys) (hl : xs.length + ys.length ≤ 140737488355328) :
    Calls Tryd.prog 36 #[v1, v2] w fun e w' => ∃ v', e = .returned v' ∧ Own w' w.heap.size v' (xs ++ ys) ∧ Below w.heap.size w w' := by
  obtain ⟨i0, hi, hz0, hz1, hz2⟩ := info_parts infoU8
  obtain ⟨a1, c1, rfl, l1, m1, k1, r1⟩ := h1
  obtain ⟨a2, c2, rfl, l2, m2, k2, r2⟩ := h2
  have HA := Lib.hid r1; clear r1
  have HB := Lib.hid r2; clear r2
  go_enter Tryd.func36, Tryd.ntmps36
  go_wp2
  go_loopw [5, 6] (fun c0 i wr => ∃ (c : Value) (k : Nat), c = c0 ∧ k ≤ xs.length ∧ i = .int .i64 k ∧ wr.ownsRow w.heap.size 5 1 c k ((xs.take k).map (Value.int .u8)) ∧ (k = 0 → c = .slice none 0 0) ∧ Below w.heap.size w wr)
    (fun _ i _ => xs.length - (intOf i).toNat)
  case atStart => exact ⟨_, 0, rfl, Nat.zero_le _, rfl, World.ownsRow_nil _ _ _ _, fun _ => rfl, Below.refl _ _⟩
  case round =>
    obtain ⟨c, k, rfl, hk, rfl, hown, hnil, hbel⟩ := hrel
    by_cases hlt : k < xs.length
    · obtain ⟨b1, o1, rfl, ca⟩ := HA.out (by intro h; simp [h] at hlt)
      have hcell := ca k hlt
      have hb1 := World.block_lt_of_cell? w _ hcell
      have hcell := (hbel.cell (p := ⟨b1, o1 + k, none⟩) hb1).trans hcell
      have hsz := hbel.size
      clear ca
      have HN := Lib.hid hnil; clear hnil
      go_wp2_with (at_builtin; refine wpList_append_own _ rfl _ _ 22 rfl w.heap.size 5 i0 (.int .u8 0) 1 1 Tryd.underlying22 hi hz0 hz1 hz2 rfl (by decide) _ _ _ rfl (hown.alloc _) ⟨wr.heap.size, 0, none⟩ 1 1 [.int .u8 xs[k]] rfl rfl (one_new _ _ _) (one_cell_int _ _) ?c3 ?c4 ?c5 ?_)
      case c3 => unfold maxLen; omega
      case c4 => omega
      case c5 => omega
      intro v' w1 hown' hgrow hn'
      have hbel' : Below w.heap.size w w1 := (hbel.alloc hsz _).grown hgrow (by simp; omega) (fun q hq => (hown.lt q hq).1)
      have hts := take_snoc_get xs k hlt
      have HT := Lib.hid hts; clear hts
      clear hn' hgrow hown HN
      go_wp2
      go_roundw
      case rel => exact ⟨_, k + 1, rfl, by omega, by go_num, by rw [HT.out, List.map_append, List.map_take]; exact hown', fun h => by omega, hbel'⟩
      case measure => simp [intOf]; omega
    · have he : k = xs.length := by omega
      subst he
      have HOW := Lib.hid (show wr.ownsRow w.heap.size 5 1 c xs.length (xs.map (Value.int .u8)) by simpa using hown)
      have HN := Lib.hid hnil
      have HBE := Lib.hid hbel
      clear hown hnil hbel hlt hk
      go_wp2
      obtain ⟨wo, hwo⟩ : ∃ wo : World, wo = wr := ⟨_, rfl⟩
      rw [← hwo] at HOW HBE ⊢
      clear hwo
      go_loopw [5, 7] (fun c0 i wr => ∃ (c : Value) (k : Nat), c = c0 ∧ k ≤ ys.length ∧ i = .int .i64 k ∧ wr.ownsRow w.heap.size 5 1 c (xs.length + k) ((xs ++ ys.take k).map (Value.int .u8)) ∧ (xs.length + k = 0 → c = .slice none 0 0) ∧ Below w.heap.size w wr)
        (fun _ i _ => ys.length - (intOf i).toNat)
      case atStart => exact ⟨_, 0, rfl, Nat.zero_le _, rfl, by simpa using HOW.out, fun h => HN.out (by omega), HBE.out⟩
      case round =>
        obtain ⟨c, k, rfl, hk, rfl, hown, hnil, hbel⟩ := hrel
        by_cases hlt : k < ys.length
        · obtain ⟨b1, o1, rfl, ca⟩ := HB.out (by intro h; simp [h] at hlt)
          have hcell := ca k hlt
          have hb1 := World.block_lt_of_cell? w _ hcell
          have hcell := (hbel.cell (p := ⟨b1, o1 + k, none⟩) hb1).trans hcell
          have hsz := hbel.size
          clear ca
          have HN2 := Lib.hid hnil; clear hnil
          go_wp2_with (at_builtin; refine wpList_append_own _ rfl _ _ 22 rfl w.heap.size 5 i0 (.int .u8 0) 1 1 Tryd.underlying22 hi hz0 hz1 hz2 rfl (by decide) _ _ _ rfl (hown.alloc _) ⟨wr.heap.size, 0, none⟩ 1 1 [.int .u8 ys[k]] rfl rfl (one_new _ _ _) (one_cell_int _ _) ?c3 ?c4 ?c5 ?_)
          case c3 => unfold maxLen; omega
          case c4 => omega
          case c5 => omega
          intro v' w1 hown' hgrow hn'
          have hbel' : Below w.heap.size w w1 := (hbel.alloc hsz _).grown hgrow (by simp; omega) (fun q hq => (hown.lt q hq).1)
          have hts := take_snoc_get ys k hlt
          have HT := Lib.hid hts; clear hts
          have HNW := Lib.hid (show w1.ownsRow w.heap.size 5 1 v' (xs.length + (k + 1)) ((xs ++ ys.take (k + 1)).map (Value.int .u8)) by
            rw [HT.out, ← Nat.add_assoc]
            simpa only [List.map_append, List.map_cons, List.map_nil, List.map_take, List.append_assoc] using hown')
          clear hn' hgrow hown HN2 hown'
          go_wp2
          go_roundw
          case rel => exact ⟨_, k + 1, rfl, by omega, by go_num, HNW.out, fun h => by omega, hbel'⟩
          case measure => simp [intOf]; omega
        · have he : k = ys.length := by omega
          subst he
          have FIN := Lib.hid (show Own wr w.heap.size c (xs ++ ys) from ⟨by simpa using hown, fun h => hnil (by rw [← List.length_append, h]; rfl)⟩)
          clear hown hnil
          go_wp2
          go_ret
          exact ⟨_, rfl, FIN.out, hbel⟩

end Go.Proofs.YtollgpnaadgncaaDoor
