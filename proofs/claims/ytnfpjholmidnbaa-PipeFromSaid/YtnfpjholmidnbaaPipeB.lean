/- pipe.Pipe: front and State. No condition. -/
import Derived.Test.YtnfpjholmidnbaaPipeA
namespace Go.Proofs.Ytnfpjholmidnbaa
open Go.RowKit

theorem splice_get {α : Type} (L : List α) (off : Nat) (cs : List α) (h : off + cs.length ≤ L.length) (i : Nat) :
    (splice L off cs)[i]? = if off ≤ i ∧ i < off + cs.length then cs[i - off]? else L[i]? := by
  unfold splice
  by_cases h1 : i < off
  · rw [List.getElem?_append_left (by simp; omega), if_neg (by omega), List.getElem?_take, if_pos h1]
  · rw [List.getElem?_append_right (by simp; omega)]
    have e : i - (L.take off).length = i - off := by simp; omega
    rw [e]
    by_cases h2 : i < off + cs.length
    · rw [List.getElem?_append_left (by omega), if_pos (by omega)]
    · rw [List.getElem?_append_right (by omega), if_neg (by omega), List.getElem?_drop]; congr 1; omega

/-- the front of the ring, in two pieces -/
theorem front_pieces (ring q : List Int) (at_ n : Nat) (h1 : ring.length = 512) (h2 : at_ < 512) (hq : q.length ≤ 512) (h4 : ∀ i, i < q.length → ring[(at_ + i) % 512]? = q[i]?) (hn : n ≤ q.length) :
    splice (splice (List.replicate n 0) 0 ((ring.drop at_).take n)) ((ring.drop at_).take n).length (ring.take (n - ((ring.drop at_).take n).length)) = q.take n := by
  have e1 : ((ring.drop at_).take n).length = min n (512 - at_) := by simp [h1]
  apply List.ext_getElem?
  intro i
  rw [splice_get _ _ _ (by rw [length_splice] <;> simp [h1] <;> omega), splice_get _ _ _ (by simp; omega), e1]
  have e2 : (ring.take (n - min n (512 - at_))).length = n - min n (512 - at_) := by simp [h1]; omega
  rw [e2]
  have e3 : (q.take n)[i]? = if i < n then q[i]? else none := List.getElem?_take
  rw [e3]
  by_cases hi : i < n
  · rw [if_pos hi, ← h4 i (by omega)]
    by_cases hk : i < min n (512 - at_)
    · rw [if_neg (by omega), if_pos (by omega), List.getElem?_take, if_pos (by omega), List.getElem?_drop]
      congr 1; omega
    · rw [if_pos (by omega), List.getElem?_take, if_pos (by omega)]
      congr 1; omega
  · rw [if_neg (by omega), if_neg (by omega), if_neg hi]
    simp; omega

theorem own_blk {w : World} {base : Nat} {e : TypeId} {g n : Nat} {xs : List Value} (h : w.ownsRow base e 1 (.slice (some ⟨g, 0, none⟩) n n) n xs) {ys : List Value} (hx : xs = ys) : Blk w g ys e := by
  obtain ⟨_, h | ⟨g', cap, cur, hv, hb, hg, hn, hm, hs, ht⟩⟩ := h
  · cases h.1
  · cases hv
    subst hx
    unfold Blk
    rw [hg, ← ht, List.take_of_length_le (by simp; omega)]

set_option maxHeartbeats 1600000 in
theorem front_calls (b : Nat) (q : List Int) (rd wr : Int) (sr sw : Bool) (n : Nat) (w : World) (h : PipeAt w b q rd wr sr sw) (hn : n ≤ q.length) :
    Calls Try.prog 36 #[.pointer (some ⟨b, 0, none⟩), .int .i64 n] w fun e w' => ∃ v', e = .returned v' ∧ Own w' w.heap.size v' (q.take n) ∧ Below w.heap.size w w' := by
  obtain ⟨i0, hi, hz0, hz1, hz2⟩ := info_parts infoU8
  by_cases hn0 : n = 0
  · subst hn0
    go_enter Try.func36, Try.ntmps36
    go_wp2
    go_ret
    exact ⟨_, rfl, ⟨World.ownsRow_nil _ _ _ _, fun _ => rfl⟩, Below.refl _ _⟩
  · obtain ⟨hr, ring, at_, h1, h2, h3, h4, hb⟩ := h
    have c1 : w.cell? ⟨b, 513, none⟩ = some (.int .i64 at_) := (hb.cell 513).trans (pcells_tail h1 0)
    have hne : ((n : Int) == 0) = false := by simp; omega
    have g1 : (0 : Int) ≤ at_ := by omega
    have g2 : (at_ : Int) ≤ 512 := by omega
    have g3 : ¬ 512 = at_ := by omega
    have HB := Lib.hid hb; clear hb
    have H1 := Lib.hid h1; clear h1
    have H4 := Lib.hid h4; clear h4
    have hbl := HB.out.lt
    go_enter Try.func36, Try.ntmps36
    go_wp2_with (refine wpList_make_full _ rfl _ _ 34 rfl w.heap.size 5 i0 (.int .u8 0) 1 Try.underlying34 hi hz0 hz1 _ _ _ _ n rfl rfl ?d1 ?d2 ?d3 ?d4 ?d5 ?_)
    case d1 => rfl
    case d2 => rfl
    case d3 => rw [hz2]; omega
    case d4 => unfold maxLen; omega
    case d5 => exact Nat.le_refl _
    intro w1 hown1 hgrow1
    have hb1 : Below w.heap.size w w1 := (Below.refl _ _).grown hgrow1 (Nat.le_refl _) (fun k h => by cases h)
    have c1 := (hb1.cell (p := ⟨b, 513, none⟩) hbl).trans c1
    clear hgrow1
    have hrow : Blk w1 w.heap.size ((List.replicate n (0 : Int)).map (Value.int .u8)) 5 := own_blk hown1 (by rw [toList_madeCells_one]; simp)
    have HO := Lib.hid hrow; clear hown1 hrow
    have HB1 := Lib.hid hb1; clear hb1
    -- the two pieces that go over
    obtain ⟨X1, hX1⟩ : ∃ X1, X1 = ((ring.drop at_).take n).map (Value.int .u8) := ⟨_, rfl⟩
    have l1 : X1.length = min n (512 - at_) := by rw [hX1]; simp [H1.out]
    obtain ⟨X2, hX2⟩ : ∃ X2, X2 = (ring.take (n - ((ring.drop at_).take n).length)).map (Value.int .u8) := ⟨_, rfl⟩
    have l2 : X2.length = n - X1.length := by rw [hX2, l1]; simp [H1.out]; omega
    have hx1 : ∀ j v, X1[j]? = some v → w1.cell? ⟨b, 1 + at_ + j, none⟩ = some v := by
      intro j v hj
      rw [hX1] at hj
      have hj2 : j < 512 - at_ := by have := (List.getElem?_eq_some_iff.1 hj).1; simp [H1.out] at this; omega
      rw [HB1.out.cell (p := ⟨b, 1 + at_ + j, none⟩) hbl, Nat.add_assoc, (HB.out.cell _), pcells_ring H1.out (at_ + j) (by omega)]
      have hj3 : j < n := by have := (List.getElem?_eq_some_iff.1 hj).1; simp at this; omega
      simpa [List.getElem?_map, List.getElem?_take, List.getElem?_drop, hj3, List.getElem?_eq_getElem (show at_ + j < ring.length by rw [H1.out]; omega)] using hj
    have hx2 : ∀ j v, X2[j]? = some v → w1.cell? ⟨b, 1 + j, none⟩ = some v := by
      intro j v hj
      have hj2 : j < n - X1.length := by rw [← l2]; exact (List.getElem?_eq_some_iff.1 hj).1
      rw [HB1.out.cell (p := ⟨b, 1 + j, none⟩) hbl, (HB.out.cell _), pcells_ring H1.out j (by omega)]
      rw [hX2] at hj
      have hj3 : j < n - ((ring.drop at_).take n).length := by have := (List.getElem?_eq_some_iff.1 hj).1; simp at this ⊢; omega
      rw [List.getElem?_map, List.getElem?_take, if_pos hj3, List.getElem?_eq_getElem (show j < ring.length by rw [H1.out]; omega)] at hj
      simpa [List.getElem?_eq_getElem (show j < ring.length by rw [H1.out]; omega)] using hj
    have HX1 := Lib.hid hX1; clear hX1
    have HX2 := Lib.hid hX2; clear hX2
    have Hx1 := Lib.hid hx1; clear hx1
    have Hx2 := Lib.hid hx2; clear hx2
    have L1 := Lib.hid l1; clear l1
    have L2 := Lib.hid l2; clear l2
    go_wp2
    go_still_tail 9, (by kernel_rfl)
    change wpList _ _ _ _ _ w1.drew
    obtain ⟨W, hW⟩ : ∃ W : World, W = w1.drew := ⟨_, rfl⟩
    rw [← hW]
    have HW := Lib.hid hW; clear hW
    refine wpList_copy_splice rfl (.tmp 11) (.tmp 19) 34 34 rfl 5 Try.underlying34 (by kernel_rfl) _ _ _ _ _ _ rfl rfl w.heap.size 0 ((List.replicate n (0 : Int)).map (Value.int .u8)) 5 (by rw [HW.out]; exact HO.out) X1 ?hn ?hpos ?hfit ?h1 w.heap.size w (by rw [HW.out]; exact HB1.out.drew) (Nat.le_refl _) ?_
    case hn => rw [L1.out]; show _ = min _ _; omega
    case hpos => exact fun _ => ⟨rfl, _, rfl, fun j v hj => by
      have := Hx1.out j v hj
      rw [HW.out]
      cases j with
      | zero => simpa [Addr.add] using this
      | succ j => simpa [Addr.add] using this⟩
    case hfit => rw [L1.out]; simp; omega
    case h1 => rw [HX1.out]; exact ints_oneCell _ _
    intro w2 hG2 hB2
    have hB2' := Lib.hid hB2; clear hB2
    have q1 : (0 : Int) ≤ X1.length := by omega
    have q2 : (X1.length : Int) ≤ n := by have := L1.out; omega
    go_wp2
    go_still_tail 7, (by kernel_rfl)
    change wpList _ _ _ _ _ w2.drew
    obtain ⟨W2, hW2⟩ : ∃ W2 : World, W2 = w2.drew := ⟨_, rfl⟩
    rw [← hW2]
    have HW2 := Lib.hid hW2; clear hW2
    have hq : X2.length = Nat.min 512 (n - X1.length) := by rw [L2.out]; have : X1.length ≤ n := by omega
                                                            show _ = min 512 _; omega
    have hq := Lib.hid hq
    refine wpList_copy_splice rfl (.tmp 23) (.tmp 27) 34 34 rfl 5 Try.underlying34 (by kernel_rfl) _ _ _ _ _ _ rfl rfl w.heap.size X1.length (splice ((List.replicate n (0 : Int)).map (Value.int .u8)) 0 X1) 5 (by rw [HW2.out]; exact hG2.out) X2 ?hn ?hpos ?hfit ?h1 w.heap.size w (by rw [HW2.out]; exact hB2'.out.drew) (Nat.le_refl _) ?_
    case hn => exact hq.out
    case hpos => exact fun hp => ⟨by rw [if_neg (by have := L2.out; omega)], _, rfl, fun j v hj => by
      have := Hx2.out j v hj
      rw [HW2.out]
      have hb2 := (hB2'.out.cell (p := ⟨b, 1 + j, none⟩) hbl).trans ((HB1.out.cell (p := ⟨b, 1 + j, none⟩) hbl).symm.trans this)
      cases j with
      | zero => simpa [Addr.add] using hb2
      | succ j => simpa [Addr.add] using hb2⟩
    case hfit => rw [length_splice _ _ _ (by rw [L1.out]; simp; omega), L2.out]; simp; omega
    case h1 => rw [HX2.out]; exact ints_oneCell _ _
    intro w3 hG3 hB3
    have hfin : Own w3 w.heap.size (.slice (some ⟨w.heap.size, 0, none⟩) n n) (q.take n) := by
      have hg := hG3.out
      have e : splice (splice ((List.replicate n (0 : Int)).map (Value.int .u8)) 0 X1) X1.length X2 = (q.take n).map (Value.int .u8) := by
        rw [← front_pieces ring q at_ n H1.out h2 h3 H4.out hn, HX1.out, HX2.out]
        simp [splice, List.map_take, List.map_drop]
      rw [e] at hg
      have hl : (q.take n).length = n := by simp; omega
      refine ⟨⟨by simp, .inr ⟨w.heap.size, n, _, by rw [hl], Nat.le_refl _, hg, by omega, by unfold maxLen; omega, by simp; omega, ?_⟩⟩, fun h => by rw [h] at hl; simp at hl; omega⟩
      simp [hl, List.take_take]
    have HF := Lib.hid hfin; clear hfin hG3
    have HB3 := Lib.hid hB3; clear hB3
    go_wp2
    · have hh : n = X1.length := by assumption
      subst hh
      go_ret
      exact ⟨_, rfl, HF.out, HB3.out⟩
    · go_ret
      exact ⟨_, rfl, HF.out, HB3.out⟩

end Go.Proofs.Ytnfpjholmidnbaa
