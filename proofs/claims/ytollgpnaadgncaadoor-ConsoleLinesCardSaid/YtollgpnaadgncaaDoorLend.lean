/- hartixlaw0.Lend and Kept: a copy with marks behind its end; is it as it was? No condition. -/
import Derived.Test.YtollgpnaadgncaaDoorCopy
namespace Go.Proofs.YtollgpnaadgncaaDoor
open Go.RowKit

/-- the marks behind the end of what is lent -/
def marks : List Int := (List.range 64).map fun i : Nat => 160 + (i : Int)
theorem marks_length : marks.length = 64 := by simp [marks]
theorem marks_take_snoc (k : Nat) (h : k < 64) : marks.take (k + 1) = marks.take k ++ [160 + (k : Int)] := by
  rw [List.take_succ_eq_append_getElem (by rw [marks_length]; exact h)]; simp [marks]

/-- what a lent slice is: a block of its own, the bytes, then the marks -/
def Lent (w : World) (base : Nat) (v : Value) (xs : List Int) : Prop :=
  ∃ g, base ≤ g ∧ v = .slice (some ⟨g, 0, none⟩) xs.length (xs.length + 64) ∧ Blk w g ((xs ++ marks).map (Value.int .u8)) 5

set_option maxHeartbeats 1600000 in
theorem lend_calls (xs : List Int) (v : Value) (w : World) (h1 : BSl w v xs) :
    Calls Tryd.prog 10 #[v] w fun e w' => ∃ v', e = .returned v' ∧ Lent w' w.heap.size v' xs ∧ Below w.heap.size w w' := by
  obtain ⟨i0, hi, hz0, hz1, hz2⟩ := info_parts infoU8
  obtain ⟨a1, c1, rfl, l1, m1, k1, r1⟩ := h1
  have HA := Lib.hid r1; clear r1
  go_enter Tryd.func10, Tryd.ntmps10
  go_wp2_with (refine wpList_make_own _ rfl _ _ 22 rfl w.heap.size 5 i0 (.int .u8 0) 1 Tryd.underlying22 hi hz0 hz1 _ _ _ (xs.length + 64) rfl rfl ?d1 ?d2 ?d3 ?d4 ?_)
  case d1 => omega
  case d2 => rw [hz2]; omega
  case d3 => unfold maxLen; omega
  case d4 => exact Nat.le_refl _
  intro w1 hown1 hgrow1
  have hb1 : Below w.heap.size w w1 := (Below.refl _ _).grown hgrow1 (Nat.le_refl _) (fun k h => by cases h)
  clear hgrow1
  go_wp2
  go_loopw [3, 4] (fun c i wr => ∃ k : Nat, k ≤ xs.length ∧ i = .int .i64 k ∧ c = .slice (some ⟨w.heap.size, 0, none⟩) k (xs.length + 64) ∧ wr.ownsRow w.heap.size 5 1 c k ((xs.take k).map (Value.int .u8)) ∧ Below w.heap.size w wr ∧ w1.heap.size ≤ wr.heap.size)
    (fun _ i _ => xs.length - (intOf i).toNat)
  case atStart => exact ⟨0, Nat.zero_le _, rfl, rfl, hown1, hb1, Nat.le_refl _⟩
  case round =>
    obtain ⟨k, hk, rfl, rfl, hown, hbel, hsz⟩ := hrel
    by_cases hlt : k < xs.length
    · obtain ⟨b1, o1, rfl, ca⟩ := HA.out (by intro h; simp [h] at hlt)
      have hcell := ca k hlt
      have hb1 := World.block_lt_of_cell? w _ hcell
      have hcell := (hbel.cell (p := ⟨b1, o1 + k, none⟩) hb1).trans hcell
      clear ca
      go_wp2_with (at_builtin; refine wpList_append_fits _ rfl _ _ 22 rfl w.heap.size 5 i0 1 Tryd.underlying22 hi hz1 w.heap.size k (xs.length + 64) _ rfl (hown.alloc _) ⟨wr.heap.size, 0, none⟩ 1 1 [.int .u8 xs[k]] rfl rfl (one_new _ _ _) (one_cell_int _ _) (by omega) ?_)
      intro w2 hown' hgrow
      have hbel' : Below w.heap.size w w2 := (hbel.alloc hbel.size _).grown hgrow (by have := hbel.size; simp; omega) (fun q hq => by cases hq; exact Nat.le_refl _)
      have hsz' : w1.heap.size ≤ w2.heap.size := by have := hgrow.size; simp at this; omega
      have hts := take_snoc_get xs k hlt
      have HT := Lib.hid hts; clear hts
      clear hgrow hown
      go_wp2
      go_roundw
      case rel => exact ⟨k + 1, by omega, by go_num, rfl, by rw [HT.out, List.map_append, List.map_take]; exact hown', hbel', hsz'⟩
      case measure => simp [intOf]; omega
    · have : k = xs.length := by omega
      subst this
      clear hown1 hb1
      obtain ⟨wz, hwz⟩ : ∃ wz : World, wz = wr := ⟨_, rfl⟩
      subst hwz
      go_wp2
      go_loopw [3, 5] (fun c i wr => ∃ k : Nat, k ≤ 64 ∧ i = .int .i64 k ∧ c = .slice (some ⟨w.heap.size, 0, none⟩) (xs.length + k) (xs.length + 64) ∧ wr.ownsRow w.heap.size 5 1 c (xs.length + k) ((xs ++ marks.take k).map (Value.int .u8)) ∧ Below w.heap.size w wr ∧ wz.heap.size ≤ wr.heap.size)
        (fun _ i _ => 64 - (intOf i).toNat)
      case atStart => exact ⟨0, Nat.zero_le _, rfl, rfl, by simpa using hown, hbel, Nat.le_refl _⟩
      case round =>
        obtain ⟨k, hk, rfl, rfl, hown, hbel, hsz⟩ := hrel
        by_cases hlt : k < 64
        · go_wp2_with (at_builtin; refine wpList_append_fits _ rfl _ _ 22 rfl w.heap.size 5 i0 1 Tryd.underlying22 hi hz1 w.heap.size (xs.length + k) (xs.length + 64) _ rfl (hown.alloc _) ⟨wr.heap.size, 0, none⟩ 1 1 [.int .u8 (160 + (k : Int))] rfl rfl (one_new _ _ _) (one_cell_int _ _) (by omega) ?_)
          intro w2 hown' hgrow
          have hbel' : Below w.heap.size w w2 := (hbel.alloc hbel.size _).grown hgrow (by have := hbel.size; simp; omega) (fun q hq => by cases hq; exact Nat.le_refl _)
          have hsz' : wz.heap.size ≤ w2.heap.size := by have := hgrow.size; simp at this; omega
          have hts := marks_take_snoc k hlt
          have HT := Lib.hid hts; clear hts
          clear hgrow hown
          go_wp2
          go_roundw
          case rel => exact ⟨k + 1, by omega, by go_num, by simp [Nat.add_assoc], by rw [HT.out]; simpa [Nat.add_assoc] using hown', hbel', hsz'⟩
          case measure => simp [intOf]; omega
        · have : k = 64 := by omega
          subst this
          have hfin : Lent wr w.heap.size (.slice (some ⟨w.heap.size, 0, none⟩) xs.length (xs.length + 64)) xs := by
            refine ⟨w.heap.size, Nat.le_refl _, rfl, ?_⟩
            obtain ⟨_, h | ⟨g, cap, cur, hv, hb, hg, hn, hm, hs, ht⟩⟩ := hown
            · cases h.1
            · cases hv
              unfold Blk
              rw [hg]
              have e1 : cur.toList = (xs ++ marks).map (Value.int .u8) := by
                rw [show marks.take 64 = marks from List.take_of_length_le (by rw [marks_length]; exact Nat.le_refl _)] at ht
                rw [← ht, List.take_of_length_le]; simp; omega
              rw [← e1]
          have HF := Lib.hid hfin; clear hfin hown
          go_wp2
          go_ret
          exact ⟨_, rfl, HF.out, hbel⟩

theorem Lent.bsl {w : World} {base : Nat} {v : Value} {xs : List Int} (h : Lent w base v xs) (hl : xs.length ≤ 140737488355328) : BSl w v xs := by
  obtain ⟨g, hb, rfl, hk⟩ := h
  refine ⟨_, _, rfl, by omega, by omega, hl, fun _ => ⟨g, 0, rfl, fun j hj => ?_⟩⟩
  rw [Nat.zero_add, hk.cell, List.map_append, List.getElem?_append_left (by simpa using hj)]
  simp [List.getElem?_eq_getElem hj]
theorem Lent.cell {w : World} {g : Nat} {xs : List Int} (h : Blk w g ((xs ++ marks).map (Value.int .u8)) 5) (k : Nat) (hk : k < 64) : w.cell? ⟨g, xs.length + k, none⟩ = some (.int .u8 (160 + (k : Int))) := by
  rw [h.cell, List.map_append, List.getElem?_append_right (by simp)]
  simp [marks, hk]
theorem Lent.fr {S : Nat → Prop} {w w' : World} {base : Nat} {v : Value} {xs : List Int} (h : Lent w base v xs) (hf : Fr S w w') (hn : ∀ k, v.ownBlock = some k → ¬ S k) : Lent w' base v xs := by
  obtain ⟨g, hb, rfl, hk⟩ := h
  exact ⟨g, hb, rfl, hk.fr hf (hn g rfl)⟩

set_option maxHeartbeats 1600000 in
theorem kept_calls (xs : List Int) (v vb : Value) (base : Nat) (w : World) (hv : Lent w base v xs) (hb : BSl w vb xs) :
    Calls Tryd.prog 13 #[v, vb] w fun e w' => e = .returned (.bool true) ∧ ∃ n, w' = w.drewN n := by
  have hbytes := bytes_calls xs xs v vb w (hv.bsl hb.len) hb
  have HB := Lib.hid hbytes; clear hbytes
  obtain ⟨g, hg, rfl, hk⟩ := hv
  have HK := Lib.hid hk; clear hk
  obtain ⟨a1, c1, rfl, l1, m1, k1, r1⟩ := hb
  clear r1
  go_enter Tryd.func13, Tryd.ntmps13
  go_wp2_with (go_at_call 20; refine HB.out.mono ?_; rintro e w' ⟨rfl, n, rfl⟩)
  go_loop [6] (fun i => ∃ k : Nat, k ≤ 64 ∧ i = .int .i64 k) (fun i => 64 - (intOf i).toNat)
  case atStart => exact ⟨0, Nat.zero_le _, rfl⟩
  case round =>
    obtain ⟨k, hk, rfl⟩ := hrel
    by_cases hlt : k < 64
    · have hc := Lent.cell HK.out k hlt
      go_wp2
      go_round
      case rel => exact ⟨k + 1, by omega, by go_num⟩
      case measure => simp [intOf]; omega
    · have : k = 64 := by omega
      subst this
      go_wp2
      go_ret
      exact ⟨rfl, _, rfl⟩

end Go.Proofs.YtollgpnaadgncaaDoor
