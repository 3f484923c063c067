/- console: what the struct's block holds ('ConAt'); never, none, New, out, first. No condition. -/
import Derived.Test.YtollgpnaadgncaaDoorConA
import Derived.Laws.CopyOwn
namespace Go.Proofs.YtollgpnaadgncaaDoor
open Go.RowKit

/-- the cells of a Console that was made -/
def ccells (buf : List Int) (r a : Nat) : List Value := (Value.bool true :: buf.map (Value.int .u8)) ++ [.int .i64 r, .int .i64 a]

section
variable {buf : List Int} {r a : Nat}
theorem ccells_made : (ccells buf r a)[0]? = some (.bool true) := rfl
theorem ccells_buf (h : buf.length = 128) (j : Nat) (hj : j < 128) : (ccells buf r a)[1 + j]? = some (.int .u8 (buf[j]?.getD 0)) := by
  unfold ccells
  rw [List.getElem?_append_left (by simp; omega), Nat.add_comm, List.getElem?_cons_succ]
  simp [List.getElem?_eq_getElem (show j < buf.length by omega)]
theorem ccells_tail (h : buf.length = 128) (j : Nat) : (ccells buf r a)[129 + j]? = [Value.int .i64 r, .int .i64 a][j]? := by
  unfold ccells
  rw [List.getElem?_append_right (by simp; omega)]
  congr 1; simp [h]
theorem ccells_set (h : buf.length = 128) (j : Nat) (v : Value) : (ccells buf r a).set (129 + j) v = (Value.bool true :: buf.map (Value.int .u8)) ++ ([Value.int .i64 r, .int .i64 a].set j v) := by
  unfold ccells
  rw [List.set_append_right _ _ (by simp; omega)]
  congr 2; simp [h]
theorem ccells_put (h : buf.length = 128) (j : Nat) (hj : j < 128) (x : Int) : (ccells buf r a).set (1 + j) (.int .u8 x) = ccells (buf.set j x) r a := by
  unfold ccells
  rw [List.set_append_left _ _ (by simp; omega), Nat.add_comm, List.set_cons_succ, ← List.map_set]
end

/-- Block b is a Console that was made: the bytes xs are in it, of which the first r are ready. -/
def ConAt (w : World) (b : Nat) (xs : List Int) (r : Nat) : Prop :=
  r ≤ xs.length ∧ xs.length ≤ 128 ∧ ∃ buf, buf.length = 128 ∧ buf.take xs.length = xs ∧ Blk w b (ccells buf r xs.length) 70

theorem ConAt.lt {w : World} {b : Nat} {xs : List Int} {r : Nat} (h : ConAt w b xs r) : b < w.heap.size := by obtain ⟨_, _, _, _, _, h⟩ := h; exact h.lt
theorem ConAt.fr {S : Nat → Prop} {w w' : World} {b : Nat} {xs : List Int} {r : Nat} (h : ConAt w b xs r) (hf : Fr S w w') (hn : ¬ S b) : ConAt w' b xs r := by
  obtain ⟨h1, h2, buf, h3, h4, h⟩ := h; exact ⟨h1, h2, buf, h3, h4, h.fr hf hn⟩
theorem ConAt.no {w w' : World} {b : Nat} {xs : List Int} {r : Nat} (h : ConAt w b xs r) (hf : Fr No w w') : ConAt w' b xs r := h.fr hf id
theorem ConAt.made {w : World} {b : Nat} {xs : List Int} {r : Nat} (h : ConAt w b xs r) : w.cell? ⟨b, 0, none⟩ = some (.bool true) := by
  obtain ⟨_, _, _, _, _, h⟩ := h; exact (h.cell 0).trans ccells_made
theorem ConAt.ready {w : World} {b : Nat} {xs : List Int} {r : Nat} (h : ConAt w b xs r) : w.cell? ⟨b, 129, none⟩ = some (.int .i64 r) := by
  obtain ⟨_, _, _, h3, _, h⟩ := h; exact (h.cell 129).trans (ccells_tail h3 0)
theorem ConAt.all {w : World} {b : Nat} {xs : List Int} {r : Nat} (h : ConAt w b xs r) : w.cell? ⟨b, 130, none⟩ = some (.int .i64 xs.length) := by
  obtain ⟨_, _, _, h3, _, h⟩ := h; exact (h.cell 130).trans (ccells_tail h3 1)
theorem ConAt.byte {w : World} {b : Nat} {xs : List Int} {r : Nat} (h : ConAt w b xs r) (j : Nat) (hj : j < xs.length) : w.cell? ⟨b, 1 + j, none⟩ = some (.int .u8 xs[j]) := by
  obtain ⟨_, h2, buf, h3, h4, h⟩ := h
  rw [h.cell (1 + j), ccells_buf h3 j (by omega)]
  have : xs[j]? = buf[j]? := by rw [← h4, List.getElem?_take, if_pos (by simpa [h4] using hj)]
  rw [← this, List.getElem?_eq_getElem hj]; rfl
theorem ConAt.anyByte {w : World} {b : Nat} {xs : List Int} {r : Nat} (h : ConAt w b xs r) (j : Nat) (hj : j < 128) : ∃ x, w.cell? ⟨b, 1 + j, none⟩ = some (.int .u8 x) := by
  obtain ⟨_, h2, buf, h3, h4, h⟩ := h
  exact ⟨_, (h.cell (1 + j)).trans (ccells_buf h3 j hj)⟩
theorem ConAt.free {w : World} {b : Nat} {xs : List Int} {r : Nat} (h : ConAt w b xs r) (j : Nat) : w.frozen? ⟨b, j, none⟩ = false := by
  obtain ⟨_, _, _, _, _, h⟩ := h; exact h.free j

/-- a piece of the bytes, as a slice -/
theorem ConAt.bsl {w : World} {b : Nat} {xs : List Int} {r : Nat} (h : ConAt w b xs r) (lo hi : Nat) (h1 : lo ≤ hi) (h2 : hi ≤ xs.length) : BSl w (.slice (some ⟨b, 1 + lo, none⟩) (hi - lo) (128 - lo)) ((xs.take hi).drop lo) := by
  have h128 := h.2.1
  have e : ((xs.take hi).drop lo).length = hi - lo := by simp; omega
  refine ⟨_, _, by rw [e], by omega, by omega, by omega, fun _ => ⟨b, 1 + lo, rfl, fun j hj => ?_⟩⟩
  rw [e] at hj
  rw [Nat.add_assoc, h.byte (lo + j) (by omega), List.getElem?_drop, List.getElem?_take, if_pos (by omega), List.getElem?_eq_getElem (by omega)]; rfl
theorem ConAt.bslHead {w : World} {b : Nat} {xs : List Int} {r : Nat} (h : ConAt w b xs r) (n : Nat) (h2 : n ≤ xs.length) : BSl w (.slice (some ⟨b, 1, none⟩) n 128) (xs.take n) := by
  have := h.bsl 0 n (Nat.zero_le _) h2
  simpa using this
theorem bsl_empty (w : World) (ao : Option Addr) (c : Nat) (hc : c ≤ 9223372036854775807) : BSl w (.slice ao 0 c) [] := ⟨ao, c, rfl, Nat.zero_le _, hc, by simp, fun h => absurd rfl h⟩
theorem BSl.shape {w : World} {v : Value} {xs : List Int} (h : BSl w v xs) : ∃ ao c, v = .slice ao xs.length c := by
  obtain ⟨ao, c, rfl, _⟩ := h; exact ⟨ao, c, rfl⟩

set_option maxHeartbeats 800000 in
theorem never_calls (b : Int) (hb0 : 0 ≤ b) (hb1 : b ≤ 255) (w : World) (h : KeysAt w) :
    Calls Tryd.prog 34 #[.int .u8 b] w fun e w' => e = .returned (.bool (decide (b = 0 ∨ b = 21 ∨ b = 8 ∨ b = 127 ∨ b = 13))) ∧ Fr No w w' := by
  have H := Lib.hid h; clear h
  obtain ⟨k, hk⟩ : ∃ k, k = keyK b := ⟨_, rfl⟩
  have HK := Lib.hid hk
  by_cases h0 : k = 0
  · subst h0
    clear hk
    by_cases h13 : b = 13
    · have t0 : (b == 13) = true := by simp [h13]
      have HB := Lib.hid h13; clear h13
      go_enter Tryd.func34, Tryd.ntmps34
      go_wp2_with fail
      refine (key_calls b hb0 hb1 w H.out).mono ?_
      rw [← HK.out]
      rintro e w' ⟨rfl, hf⟩
      have HF := Lib.hid hf; clear hf
      go_wp2
      go_ret
      exact ⟨ret_bool (by simp [HB.out]), HF.out⟩
    · have t0 : (b == 13) = false := by simp [h13]
      have HB := Lib.hid h13; clear h13
      go_enter Tryd.func34, Tryd.ntmps34
      go_wp2_with fail
      refine (key_calls b hb0 hb1 w H.out).mono ?_
      rw [← HK.out]
      rintro e w' ⟨rfl, hf⟩
      have HF := Lib.hid hf; clear hf
      go_wp2
      go_ret
      refine ⟨ret_bool ?_, HF.out⟩
      have := HK.out
      have h13 := HB.out
      unfold keyK at this
      split at this
      · omega
      · split at this
        · omega
        · split at this
          · omega
          · split at this
            · omega
            · symm; simp; omega
  · by_cases h5 : k = 5
    · subst h5
      clear hk h0
      have hb4 : b = 4 := by
        have := HK.out
        unfold keyK at this
        repeat (split at this <;> try omega)
      have t0 : (b == 13) = false := by simp [hb4]
      have HB := Lib.hid hb4; clear hb4
      go_enter Tryd.func34, Tryd.ntmps34
      go_wp2_with fail
      refine (key_calls b hb0 hb1 w H.out).mono ?_
      rw [← HK.out]
      rintro e w' ⟨rfl, hf⟩
      have HF := Lib.hid hf; clear hf
      go_wp2
      go_ret
      exact ⟨ret_bool (by simp [HB.out]), HF.out⟩
    · have t0 : (k != 0) = true := by simp [h0]
      have t1 : (k != 5) = true := by simp [h5]
      have H0 := Lib.hid h0; clear h0
      have H5 := Lib.hid h5; clear h5 hk
      go_enter Tryd.func34, Tryd.ntmps34
      go_wp2_with fail
      refine (key_calls b hb0 hb1 w H.out).mono ?_
      rw [← HK.out]
      rintro e w' ⟨rfl, hf⟩
      have HF := Lib.hid hf; clear hf
      go_wp2
      go_ret
      refine ⟨ret_bool ?_, HF.out⟩
      have := HK.out
      have h0 := H0.out
      have h5 := H5.out
      unfold keyK at this
      symm; simp
      repeat (split at this <;> try omega)

set_option maxHeartbeats 800000 in
theorem none_calls (b : Nat) (w : World) (h0 : w.cell? ⟨b, 0, none⟩ = some (.bool true)) :
    Calls Tryd.prog 39 #[.pointer (some ⟨b, 0, none⟩)] w fun e w' => e = .returned (.bool false) ∧ w = w' := by
  go_enter Tryd.func39, Tryd.ntmps39
  go_wp2
  go_ret
  exact ⟨rfl, rfl⟩

set_option maxHeartbeats 800000 in
theorem none_nil_calls (w : World) :
    Calls Tryd.prog 39 #[.pointer none] w fun e w' => e = .returned (.bool true) ∧ w = w' := by
  go_enter Tryd.func39, Tryd.ntmps39
  go_wp2
  go_ret
  exact ⟨rfl, rfl⟩

set_option maxHeartbeats 800000 in
theorem none_zero_calls (b : Nat) (w : World) (h0 : w.cell? ⟨b, 0, none⟩ = some (.bool false)) :
    Calls Tryd.prog 39 #[.pointer (some ⟨b, 0, none⟩)] w fun e w' => e = .returned (.bool true) ∧ w = w' := by
  go_enter Tryd.func39, Tryd.ntmps39
  go_wp2
  go_ret
  exact ⟨rfl, rfl⟩

def z128 : List Int := List.replicate 128 0
theorem z128_length : z128.length = 128 := List.length_replicate
/-- the zero value's cells -/
def zcon : Array Value := ((Value.bool false :: z128.map (Value.int .u8)) ++ [Value.int .i64 0, Value.int .i64 0]).toArray
theorem zcon_run (w : World) : (zeroValue 70).run Tryd.prog w = .ok (.agg zcon) w := by kernel_rfl
theorem zcon_ne : ¬ zcon = #[] := by intro h; have := congrArg Array.size h; simp [zcon] at this
theorem zcon_set : zcon.setIfInBounds 0 (.bool true) = (ccells z128 0 0).toArray := by
  simp only [zcon, ccells, List.setIfInBounds_toArray, List.cons_append, List.set_cons_zero]; rfl

set_option maxHeartbeats 800000 in
theorem new_calls (w : World) :
    Calls Tryd.prog 22 #[] w fun e w' => e = .returned (.pointer (some ⟨w.heap.size, 0, none⟩)) ∧ ConAt w' w.heap.size [] 0 ∧ Below w.heap.size w w' := by
  have hz := zcon_run
  have hn := zcon_ne
  have hs := zcon_set
  obtain ⟨C, hC⟩ : ∃ C, C = (ccells z128 0 0).toArray := ⟨_, rfl⟩
  rw [← hC] at hs
  have HC := Lib.hid hC; clear hC
  go_enter Tryd.func22, Tryd.ntmps22
  go_wp2
  go_ret
  refine ⟨rfl, ⟨Nat.le_refl _, by simp, z128, z128_length, by simp, ?_⟩, (Below.refl _ _).alloc (Nat.le_refl _) _⟩
  rw [HC.out]
  exact Blk.new w _ _

end Go.Proofs.YtollgpnaadgncaaDoor
