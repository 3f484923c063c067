/- console: out, first, given. No condition. -/
import Derived.Test.YtollgpnaadgncaaDoorConB
namespace Go.Proofs.YtollgpnaadgncaaDoor
open Go.RowKit

theorem ret_int {k : IntKind} {a b : Int} (h : a = b) : Ending.returned (.int k a) = .returned (.int k b) := by rw [h]
theorem ret_pair {k : IntKind} {a b c d : Int} (h : a = b) (h' : c = d) : Ending.returned (.tuple #[.int k a, .int k c]) = .returned (.tuple #[.int k b, .int k d]) := by rw [h, h']

theorem own_blk {w : World} {base : Nat} {e : TypeId} {g n : Nat} {xs : List Value} (h : w.ownsRow base e 1 (.slice (some ⟨g, 0, none⟩) n n) n xs) {ys : List Value} (hx : xs = ys) : Blk w g ys e := by
  obtain ⟨_, h | ⟨g', cap, cur, hv, hb, hg, hn, hm, hs, ht⟩⟩ := h
  · cases h.1
  · cases hv
    subst hx
    unfold Blk
    rw [hg, ← ht, List.take_of_length_le (by simp; omega)]

theorem addr_add (b o j : Nat) : (⟨b, o, none⟩ : Addr).add j = ⟨b, o + j, none⟩ := by
  unfold Addr.add; split
  · rename_i h; subst h; rfl
  · rfl

set_option maxHeartbeats 1600000 in
theorem out_calls (xs : List Int) (v : Value) (w : World) (h : BSl w v xs) :
    Calls Tryd.prog 40 #[v] w fun e w' => ∃ v', e = .returned v' ∧ Own w' w.heap.size v' xs ∧ Below w.heap.size w w' := by
  obtain ⟨i0, hi, hz0, hz1, hz2⟩ := info_parts infoU8
  obtain ⟨ao, c, rfl, l1, l2, l3, hc⟩ := h
  by_cases hx : xs = []
  · subst hx
    go_enter Tryd.func40, Tryd.ntmps40
    go_wp2
    go_ret
    exact ⟨_, rfl, ⟨World.ownsRow_nil _ _ _ _, fun _ => rfl⟩, Below.refl _ _⟩
  · obtain ⟨b, o, rfl, hc2⟩ := hc hx
    have hlen : 0 < xs.length := List.length_pos_iff.2 hx
    have hne : ((xs.length : Int) == 0) = false := by simp; exact hx
    have HX := Lib.hid hx; clear hx
    have HC := Lib.hid hc2; clear hc2 hc
    go_enter Tryd.func40, Tryd.ntmps40
    go_wp2_with (refine wpList_make_full _ rfl _ _ 22 rfl w.heap.size 5 i0 (.int .u8 0) 1 Tryd.underlying22 hi hz0 hz1 _ _ _ _ xs.length rfl rfl ?d1 ?d2 ?d3 ?d4 ?d5 ?_)
    case d1 => rfl
    case d2 => rfl
    case d3 => rw [hz2]; omega
    case d4 => unfold maxLen; omega
    case d5 => exact Nat.le_refl _
    intro w1 hown1 hgrow1
    have hb1 : Below w.heap.size w w1 := (Below.refl _ _).grown hgrow1 (Nat.le_refl _) (fun k h => by cases h)
    clear hgrow1
    have hrow : Blk w1 w.heap.size ((List.replicate xs.length (0 : Int)).map (Value.int .u8)) 5 := own_blk hown1 (by rw [toList_madeCells_one]; simp)
    have HB1 := Lib.hid hb1; clear hb1
    obtain ⟨X, hXe⟩ : ∃ X, X = xs.map (Value.int .u8) := ⟨_, rfl⟩
    obtain ⟨Z, hZe⟩ : ∃ Z, Z = (List.replicate xs.length (0 : Int)).map (Value.int .u8) := ⟨_, rfl⟩
    rw [← hZe] at hrow
    have hX : ∀ j v, X[j]? = some v → w1.cell? ((⟨b, o, none⟩ : Addr).add j) = some v := by
      intro j v hj
      rw [hXe] at hj
      have hjl : j < xs.length := by have := (List.getElem?_eq_some_iff.1 hj).1; simpa using this
      have h0 := HC.out j hjl
      rw [addr_add, HB1.out.cell (p := ⟨b, o + j, none⟩) (World.block_lt_of_cell? w _ h0), h0]
      rw [List.getElem?_map, List.getElem?_eq_getElem hjl] at hj
      rw [List.getElem?_eq_getElem hjl]
      simpa using hj
    have HX1 := Lib.hid hX; clear hX
    have HO := Lib.hid hrow; clear hown1 hrow
    have HXE := Lib.hid hXe; clear hXe
    have HZE := Lib.hid hZe; clear hZe
    have hXl : X.length = xs.length := by rw [HXE.out]; simp
    have hZl : Z.length = xs.length := by rw [HZE.out]; simp
    have HXL := Lib.hid hXl; clear hXl
    have HZL := Lib.hid hZl; clear hZl
    go_wp2_with (refine wpList_copy_splice rfl (.tmp 10) (.tmp 11) 22 22 rfl 5 Tryd.underlying22 (by kernel_rfl) _ _ _ _ _ _ rfl rfl w.heap.size 0 Z 5 HO.out X ?hn ?hpos ?hfit ?h1 w.heap.size w HB1.out (Nat.le_refl _) ?_)
    case hn => rw [HXL.out]; simp
    case hpos =>
      first
        | exact fun _ => ⟨rfl, _, rfl, HX1.out⟩
        | (intro _ j v hj; have := HX1.out j v hj; rw [addr_add] at this; exact this)
    case hfit => rw [HXL.out, HZL.out]; omega
    case h1 => rw [HXE.out]; exact ints_oneCell _ _
    intro w2 hG2 hB2
    have hfin : Own w2 w.heap.size (.slice (some ⟨w.heap.size, 0, none⟩) xs.length xs.length) xs := by
      have hg := hG2.out
      have e : splice Z 0 X = xs.map (Value.int .u8) := by
        rw [HXE.out, HZE.out]; simp [splice]
      rw [e] at hg
      exact ⟨⟨by simp, .inr ⟨w.heap.size, xs.length, _, rfl, Nat.le_refl _, hg, by omega, by unfold maxLen; omega, by simp, by simp only [Nat.mul_one]; rw [List.take_of_length_le (by simp)]⟩⟩, fun h => absurd h HX.out⟩
    have HF := Lib.hid hfin; clear hfin hG2
    have HB2 := Lib.hid hB2; clear hB2
    go_wp2
    go_ret
    exact ⟨_, rfl, HF.out, HB2.out⟩

/-- where a byte stands first; the length if it does not -/
def idx (c : Int) (l : List Int) : Nat := l.findIdx (· == c)
theorem idx_le (c : Int) (l : List Int) : idx c l ≤ l.length := List.findIdx_le_length
theorem idx_found {c : Int} {l : List Int} {k : Nat} (hk : k < l.length) (h0 : ∀ j (hj : j < l.length), j < k → l[j] ≠ c) (h1 : l[k] = c) : idx c l = k := by
  unfold idx
  rw [List.findIdx_eq hk]
  exact ⟨by simp [h1], fun j hj => by have := h0 j (by omega) hj; simpa using this⟩
theorem idx_none {c : Int} {l : List Int} (h0 : ∀ j (hj : j < l.length), l[j] ≠ c) : idx c l = l.length := by
  unfold idx
  rw [List.findIdx_eq_length]
  intro x hx
  obtain ⟨j, hj, rfl⟩ := List.getElem_of_mem hx
  simpa using h0 j hj

set_option maxHeartbeats 1600000 in
theorem first_calls (b : Nat) (xs : List Int) (r : Nat) (c : Int) (w : World) (h : ConAt w b xs r) :
    Calls Tryd.prog 51 #[.pointer (some ⟨b, 0, none⟩), .int .u8 c] w fun e w' => e = .returned (.int .i64 (idx c (xs.take r))) ∧ w' = w := by
  have c1 := h.ready
  have hr := h.1
  have h128 := h.2.1
  have H := Lib.hid h; clear h
  go_enter Tryd.func51, Tryd.ntmps51
  go_wp2
  go_loop [10] (fun i => ∃ k : Nat, k ≤ r ∧ i = .int .i64 k ∧ ∀ j (hj : j < xs.length), j < k → xs[j] ≠ c) (fun i => r - (intOf i).toNat)
  case atStart => exact ⟨0, Nat.zero_le _, rfl, fun j _ hj => by omega⟩
  case round =>
    obtain ⟨k, hk, rfl, hno⟩ := hrel
    have HN := Lib.hid hno; clear hno
    by_cases hlt : k < r
    · have hkx : k < xs.length := by omega
      have cb := H.out.byte k hkx
      obtain ⟨x, hx⟩ : ∃ x, x = xs[k] := ⟨_, rfl⟩
      rw [← hx] at cb
      by_cases he : x = c
      · have t0 : (x == c) = true := by simp [he]
        have HE := Lib.hid (show xs[k] = c by rw [← hx, he]); clear he hx
        go_wp2
        go_ret
        refine ⟨ret_int ?_, rfl⟩
        rw [idx_found (k := k) (by simp; omega) (fun j hj hjk => by simp only [List.getElem_take]; exact HN.out j (by simp at hj; omega) hjk) (by simp only [List.getElem_take]; exact HE.out)]
      · have t0 : (x == c) = false := by simp [he]
        have HE := Lib.hid (show xs[k] ≠ c by rw [← hx]; exact he); clear he hx
        go_wp2
        go_round
        case rel => exact ⟨k + 1, by omega, by go_num, fun j hj hjk => by
          rcases Nat.lt_or_ge j k with h | h
          · exact HN.out j hj h
          · obtain rfl : j = k := by omega
            exact HE.out⟩
        case measure => simp [intOf]; omega
    · obtain rfl : k = r := by omega
      go_wp2
      go_ret
      refine ⟨ret_int ?_, rfl⟩
      rw [idx_none (fun j hj => by simp only [List.getElem_take]; exact HN.out j (by simp at hj; omega) (by simp at hj; omega))]
      simp; omega

/-- how many bytes a Take of n gives, of what is ready -/
def giveK (n : Int) (d : List Int) : Nat := if n < 1 then 0 else if d[0]? = some 4 then 0 else min (min n.toNat (idx 10 d + 1)) (idx 4 d)
/-- how many it uses up -/
def useK (n : Int) (d : List Int) : Nat := if n < 1 then 0 else if d[0]? = some 4 then 1 else giveK n d

/-- Go's min of four -/
def min4 (x y z u : Int) : Int := min (min (min x y) z) u
theorem run_min4 {P : Program} (ts : Array TypeId) (t : TypeId) (k : IntKind) (x y z u : Int) (w : World) : (Builtin.min_ ts t #[.int k x, .int k y, .int k z, .int k u]).run P w = .ok (.int k (min4 x y z u)) w := by
  have e : ∀ a b : Int, (if b < a then b else a) = min a b := fun a b => by split <;> omega
  simp only [min4, ← e]
  simp [Builtin.min_, Builtin.min2]

set_option maxHeartbeats 1600000 in
theorem given_calls (b : Nat) (xs : List Int) (r : Nat) (n : Int) (w : World) (h : ConAt w b xs r) (hr0 : 0 < r) (hn1 : -9223372036854775808 ≤ n) (hn2 : n ≤ 9223372036854775807) :
    Calls Tryd.prog 41 #[.pointer (some ⟨b, 0, none⟩), .int .i64 n] w fun e w' => e = .returned (.tuple #[.int .i64 (giveK n (xs.take r)), .int .i64 (useK n (xs.take r))]) ∧ ∃ m, w' = w.drewN m := by
  have c1 := h.ready
  have hr := h.1
  have h128 := h.2.1
  have H := Lib.hid h; clear h
  by_cases hn : n < 1
  · go_enter Tryd.func41, Tryd.ntmps41
    go_wp2
    go_ret2
    exact ⟨by simp [giveK, useK, hn], ⟨0, rfl⟩⟩
  · have cb := H.out.byte 0 (by omega)
    obtain ⟨x, hx⟩ : ∃ x, x = xs[0]'(by omega) := ⟨_, rfl⟩
    rw [← hx] at cb
    have hx0 : (xs.take r)[0]? = some x := by rw [List.getElem?_take, if_pos hr0, hx]; exact List.getElem?_eq_getElem _
    have HX0 := Lib.hid hx0; clear hx0 hx
    by_cases h4 : x = 4
    · subst h4
      go_enter Tryd.func41, Tryd.ntmps41
      go_wp2
      go_ret2
      exact ⟨ret_pair (by unfold giveK; rw [if_neg (by omega : ¬ n < 1), if_pos HX0.out]; rfl) (by unfold useK; rw [if_neg (by omega : ¬ n < 1), if_pos HX0.out]; rfl), ⟨0, rfl⟩⟩
    · have t0 : (x == 4) = false := by simp [h4]
      obtain ⟨D, hD⟩ : ∃ D, D = xs.take r := ⟨_, rfl⟩
      have l10 : idx 10 D ≤ r := by have := idx_le 10 D; rw [hD] at this; simp at this; rw [hD]; omega
      have l4 : idx 4 D ≤ r := by have := idx_le 4 D; rw [hD] at this; simp at this; rw [hD]; omega
      have hf : ∀ c w', ConAt w' b xs r → Calls Tryd.prog 51 #[.pointer (some ⟨b, 0, none⟩), .int .u8 c] w' fun e w'' => e = .returned (.int .i64 (idx c D)) ∧ w'' = w' := fun c w' h => by
        rw [hD]; exact first_calls b xs r c w' h
      rw [← hD]
      have hw1 : IntKind.i64.wrap ((idx 10 D : Int) + 1) = (idx 10 D : Int) + 1 := IntWalk.i64_in _ (by omega)
      have HX1 := Lib.hid (show D[0]? = some x by rw [hD]; exact HX0.out)
      clear HX0
      have HF := Lib.hid hf; clear hf hD
      have HH4 := Lib.hid h4; clear h4
      go_enter Tryd.func41, Tryd.ntmps41
      go_wp2_with fail
      have hm4 := @run_min4 Tryd.prog
      go_quiet ((go_at_call 51; exact Calls.quiet_of_same (HF.out _ _ H.out)))
      go_wp2
      go_ret2
      have hx4 : ¬ D[0]? = some 4 := by rw [HX1.out]; intro h; exact HH4.out (by simpa using h)
      have hg : min4 n ((idx 10 D : Int) + 1) (idx 4 D) r = (giveK n D : Nat) := by
        unfold giveK min4
        rw [if_neg (by omega : ¬ n < 1), if_neg hx4]
        omega
      exact ⟨ret_pair hg (by unfold useK; rw [if_neg (by omega : ¬ n < 1), if_neg hx4]; exact hg), ⟨_, rfl⟩⟩

end Go.Proofs.YtollgpnaadgncaaDoor
