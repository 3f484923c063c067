/- console: Type. No condition. -/
import Derived.Test.YtollgpnaadgncaaDoorConD
namespace Go.Proofs.YtollgpnaadgncaaDoor
open Go.RowKit

/-- the byte that is taken -/
def tyC (b : Int) : Int := if b = 13 then 10 else b
/-- what a byte's echo is -/
def typE (b : Int) (xs : List Int) (r : Nat) : List Int :=
  if b = 21 then backs (xs.length - r) else if b = 8 ∨ b = 127 then backs (min 1 (xs.length - r)) else if b = 0 ∨ xs.length = 128 ∨ b = 4 then [] else [tyC b]
/-- whether a line is ready by it -/
def typF (b : Int) (xs : List Int) : Bool := if b = 21 ∨ b = 8 ∨ b = 127 ∨ b = 0 ∨ xs.length = 128 then false else decide (tyC b = 10 ∨ b = 4) || decide (xs.length + 1 = 128)
/-- the bytes behind it -/
def typX (b : Int) (xs : List Int) (r : Nat) : List Int :=
  if b = 21 then xs.take r else if b = 8 ∨ b = 127 then xs.take (xs.length - min 1 (xs.length - r)) else if b = 0 ∨ xs.length = 128 then xs else xs ++ [tyC b]
/-- how many are ready -/
def typN (b : Int) (xs : List Int) (r : Nat) : Nat := if typF b xs = true then xs.length + 1 else r

@[irreducible] def TypePost (b : Nat) (xs : List Int) (r : Nat) (c : Int) (w : World) (e : Ending) (w' : World) : Prop :=
  ∃ v', e = .returned (.tuple #[v', .bool (typF c xs)]) ∧ Own w' w.heap.size v' (typE c xs r) ∧ ConAt w' b (typX c xs r) (typN c xs r) ∧ Fr (· = b) w w'

theorem own_nil (w : World) (base : Nat) : Own w base (.slice none 0 0) [] := ⟨World.ownsRow_nil _ _ _ _, fun _ => rfl⟩

theorem own_one (w : World) (base : Nat) (c : Int) (hb : base ≤ w.heap.size) : Own (w.alloc (.cells #[.int .u8 c] 5)) base (.slice (some ⟨w.heap.size, 0, none⟩) 1 1) [c] := by
  refine ⟨⟨by simp, .inr ⟨w.heap.size, 1, #[.int .u8 c], rfl, hb, Blk.new w [.int .u8 c] _, Nat.le_refl _, by unfold maxLen; omega, by simp, by simp⟩⟩, fun h => by simp at h⟩

theorem type_back {b : Nat} {xs : List Int} {r : Nat} {c : Int} {w w0 w' : World} {v' : Value} {n : Nat} (hc : c = 21 ∧ n = xs.length - r ∨ (c = 8 ∨ c = 127) ∧ n = min 1 (xs.length - r)) (hn : r + n ≤ xs.length) (hf0 : Fr No w w0)
    (ho : Own w' w0.heap.size v' (backs n)) (hcon : ConAt w' b (xs.take (xs.length - n)) r) (hf : Fr (· = b) w0 w') : TypePost b xs r c w (.returned (.tuple #[v', .bool false])) w' := by
  unfold TypePost
  have hF : typF c xs = false := by
    unfold typF
    rw [if_pos (by omega)]
  refine ⟨v', by rw [hF], ?_, ?_, (hf0.mono (fun _ h => h.elim)).trans hf (fun _ _ h => h)⟩
  · have e : typE c xs r = backs n := by
      unfold typE
      rcases hc with ⟨h1, h2⟩ | ⟨h1, h2⟩
      · rw [if_pos h1, h2]
      · rw [if_neg (by omega), if_pos h1, h2]
    rw [e]; exact ho.base hf0.size
  · have e : typX c xs r = xs.take (xs.length - n) := by
      unfold typX
      rcases hc with ⟨h1, h2⟩ | ⟨h1, h2⟩
      · rw [if_pos h1, h2]; congr 1; omega
      · rw [if_neg (by omega), if_pos h1, h2]
    rw [e]
    unfold typN; rw [hF]; exact hcon

theorem back1_calls (b : Nat) (xs : List Int) (r : Nat) (w : World) (h : ConAt w b xs r) (hn : r + 1 ≤ xs.length) :
    Calls Tryd.prog 44 #[.pointer (some ⟨b, 0, none⟩), .int .i64 1] w fun e w' => ∃ v', e = .returned v' ∧ Own w' w.heap.size v' (backs 1) ∧ ConAt w' b (xs.take (xs.length - 1)) r ∧ Fr (· = b) w w' := back_calls b xs r 1 w h hn

set_option maxRecDepth 100000 in
set_option maxHeartbeats 3200000 in
theorem type_back_calls (b : Nat) (xs : List Int) (r : Nat) (c : Int) (w : World) (h : ConAt w b xs r) (hk : KeysAt w) (hc : c = 21 ∨ c = 8 ∨ c = 127) :
    Calls Tryd.prog 23 #[.pointer (some ⟨b, 0, none⟩), .int .u8 c] w (TypePost b xs r c w) := by
  have h0 := h.made
  have hr := h.1
  have h128 := h.2.1
  obtain ⟨N, hN⟩ : ∃ N, N = xs.length - r := ⟨_, rfl⟩
  have hsub : (xs.length : Int) - r = N := by omega
  have hwr : IntKind.i64.wrap (N : Int) = N := IntWalk.i64_in _ (by omega)
  have H := Lib.hid h; clear h
  have HK := Lib.hid hk; clear hk
  have HS := Lib.hid hsub; clear hsub
  have HW := Lib.hid hwr; clear hwr
  have HN := Lib.hid hN; clear hN
  rcases hc with rfl | rfl | rfl
  · go_enter Tryd.func23, Tryd.ntmps23
    go_wp2_with (go_at_call 39; refine (none_calls b _ h0).mono ?_; rintro e w' ⟨rfl, rfl⟩)
    refine (key_calls 21 (by omega) (by omega) w HK.out).mono ?_
    rw [show keyK 21 = 2 from rfl]
    rintro e w1 ⟨rfl, hf1⟩
    have hC1 := H.out.no hf1
    have c1 := hC1.ready
    have c2 := hC1.all
    have HC1 := Lib.hid hC1; clear hC1
    have HF1 := Lib.hid hf1; clear hf1
    have hwr := HW.out
    have hsub := HS.out
    go_wp2_with fail
    go_still_tail 10, (by kernel_rfl)
    clear hwr hsub
    go_wp2_with fail
    refine (back_calls b xs r N w1.drew (HC1.out.no (Fr.refl No w1).drew) (by have := HN.out; omega)).mono ?_
    rintro e w2 ⟨v', rfl, ho, hcon, hf2⟩
    have hf1 := HF1.out
    have FIN := Lib.hid (show TypePost b xs r 21 w (.returned (.tuple #[v', .bool false])) w2 from by
      refine type_back (w0 := w1.drew) (n := N) (.inl ⟨rfl, HN.out⟩) (by have := HN.out; omega) hf1.drew ho hcon hf2)
    go_wp2_with fail
    go_ret2
    exact FIN.out
  · go_enter Tryd.func23, Tryd.ntmps23
    go_wp2_with (go_at_call 39; refine (none_calls b _ h0).mono ?_; rintro e w' ⟨rfl, rfl⟩)
    refine (key_calls 8 (by omega) (by omega) w HK.out).mono ?_
    rw [show keyK 8 = 3 from rfl]
    rintro e w1 ⟨rfl, hf1⟩
    have hC1 := H.out.no hf1
    have c1 := hC1.ready
    have c2 := hC1.all
    have HC1 := Lib.hid hC1; clear hC1
    have HF1 := Lib.hid hf1; clear hf1
    have hwr := HW.out
    have hsub := HS.out
    by_cases hz1 : (N : Int) < 1
    · go_wp2_with fail
      go_still_tail 11, (by kernel_rfl)
      clear hwr hsub
      go_wp2_with fail
      refine (back_calls b xs r N w1.drew (HC1.out.no (Fr.refl No w1).drew) (by have := HN.out; omega)).mono ?_
      rintro e w2 ⟨v', rfl, ho, hcon, hf2⟩
      have hf1 := HF1.out
      have FIN := Lib.hid (show TypePost b xs r 8 w (.returned (.tuple #[v', .bool false])) w2 from
        type_back (w0 := w1.drew) (n := N) (.inr ⟨by omega, by have := HN.out; omega⟩) (by have := HN.out; omega) hf1.drew ho hcon hf2)
      go_wp2_with fail
      go_ret2
      exact FIN.out
    · go_wp2_with fail
      go_still_tail 11, (by kernel_rfl)
      clear hwr hsub
      go_wp2_with fail
      refine (back1_calls b xs r w1.drew (HC1.out.no (Fr.refl No w1).drew) (by have := HN.out; omega)).mono ?_
      rintro e w2 ⟨v', rfl, ho, hcon, hf2⟩
      have hf1 := HF1.out
      have FIN := Lib.hid (show TypePost b xs r 8 w (.returned (.tuple #[v', .bool false])) w2 from
        type_back (w0 := w1.drew) (n := 1) (.inr ⟨by omega, by have := HN.out; omega⟩) (by have := HN.out; omega) hf1.drew ho hcon hf2)
      go_wp2_with fail
      go_ret2
      exact FIN.out
  · go_enter Tryd.func23, Tryd.ntmps23
    go_wp2_with (go_at_call 39; refine (none_calls b _ h0).mono ?_; rintro e w' ⟨rfl, rfl⟩)
    refine (key_calls 127 (by omega) (by omega) w HK.out).mono ?_
    rw [show keyK 127 = 4 from rfl]
    rintro e w1 ⟨rfl, hf1⟩
    have hC1 := H.out.no hf1
    have c1 := hC1.ready
    have c2 := hC1.all
    have HC1 := Lib.hid hC1; clear hC1
    have HF1 := Lib.hid hf1; clear hf1
    have hwr := HW.out
    have hsub := HS.out
    by_cases hz1 : (N : Int) < 1
    · go_wp2_with fail
      go_still_tail 11, (by kernel_rfl)
      clear hwr hsub
      go_wp2_with fail
      refine (back_calls b xs r N w1.drew (HC1.out.no (Fr.refl No w1).drew) (by have := HN.out; omega)).mono ?_
      rintro e w2 ⟨v', rfl, ho, hcon, hf2⟩
      have hf1 := HF1.out
      have FIN := Lib.hid (show TypePost b xs r 127 w (.returned (.tuple #[v', .bool false])) w2 from
        type_back (w0 := w1.drew) (n := N) (.inr ⟨by omega, by have := HN.out; omega⟩) (by have := HN.out; omega) hf1.drew ho hcon hf2)
      go_wp2_with fail
      go_ret2
      exact FIN.out
    · go_wp2_with fail
      go_still_tail 11, (by kernel_rfl)
      clear hwr hsub
      go_wp2_with fail
      refine (back1_calls b xs r w1.drew (HC1.out.no (Fr.refl No w1).drew) (by have := HN.out; omega)).mono ?_
      rintro e w2 ⟨v', rfl, ho, hcon, hf2⟩
      have hf1 := HF1.out
      have FIN := Lib.hid (show TypePost b xs r 127 w (.returned (.tuple #[v', .bool false])) w2 from
        type_back (w0 := w1.drew) (n := 1) (.inr ⟨by omega, by have := HN.out; omega⟩) (by have := HN.out; omega) hf1.drew ho hcon hf2)
      go_wp2_with fail
      go_ret2
      exact FIN.out


theorem type_taken {b : Nat} {xs : List Int} {r : Nat} {c : Int} {w w0 w1 w2 : World} {v' : Value} {ends : Bool} (hc : c ≠ 21 ∧ c ≠ 8 ∧ c ≠ 127 ∧ c ≠ 0) (hl : xs.length < 128) (hf0 : Fr No w w0) (hends : ends = decide (tyC c = 10 ∨ c = 4))
    (hcon : ConAt w1 b (xs ++ [tyC c]) (if (ends || decide (xs.length + 1 = 128)) = true then xs.length + 1 else r)) (hf : Fr (· = b) w0 w1) (hf2 : Fr No w1 w2) (ho : Own w2 w.heap.size v' (if c = 4 then [] else [tyC c])) :
    TypePost b xs r c w (.returned (.tuple #[v', .bool (ends || decide (xs.length + 1 = 128))])) w2 := by
  unfold TypePost
  have hF : typF c xs = (ends || decide (xs.length + 1 = 128)) := by
    unfold typF
    rw [if_neg (by omega), hends]
  refine ⟨v', by rw [hF], ?_, ?_, ((hf0.mono (fun _ h => h.elim)).trans hf (fun _ _ h => h)).trans (hf2.mono (fun _ h => h.elim)) (fun _ _ h => h)⟩
  · have e : typE c xs r = if c = 4 then [] else [tyC c] := by
      unfold typE
      rw [if_neg (by omega), if_neg (by omega)]
      by_cases h4 : c = 4
      · rw [if_pos h4, if_pos (by omega)]
      · rw [if_neg h4, if_neg (by omega)]
    rw [e]; exact ho
  · have e : typX c xs r = xs ++ [tyC c] := by
      unfold typX
      rw [if_neg (by omega), if_neg (by omega), if_neg (by omega)]
    rw [e]
    unfold typN; rw [hF]; exact hcon.no hf2

theorem type_still {b : Nat} {xs : List Int} {r : Nat} {c : Int} {w w0 : World} (hc : c ≠ 21 ∧ c ≠ 8 ∧ c ≠ 127) (hl : c = 0 ∨ xs.length = 128) (hf0 : Fr No w w0) (hcon : ConAt w b xs r) :
    TypePost b xs r c w (.returned (.tuple #[.slice none 0 0, .bool false])) w0 := by
  unfold TypePost
  have hF : typF c xs = false := by unfold typF; rw [if_pos (by omega)]
  refine ⟨_, by rw [hF], ?_, ?_, hf0.mono (fun _ h => h.elim)⟩
  · have e : typE c xs r = [] := by
      unfold typE
      rw [if_neg (by omega), if_neg (by omega), if_pos (by omega)]
    rw [e]; exact own_nil _ _
  · have e : typX c xs r = xs := by
      unfold typX
      rw [if_neg (by omega), if_neg (by omega), if_pos hl]
    rw [e]
    unfold typN; rw [hF]; exact hcon.no hf0

theorem bool_false_or (d : Bool) : (true || d) = true := rfl

set_option maxRecDepth 100000 in
set_option maxHeartbeats 3200000 in
theorem type_zero_calls (b : Nat) (xs : List Int) (r : Nat) (w : World) (h : ConAt w b xs r) (hk : KeysAt w) :
    Calls Tryd.prog 23 #[.pointer (some ⟨b, 0, none⟩), .int .u8 0] w (TypePost b xs r 0 w) := by
  have h0 := h.made
  have H := Lib.hid h; clear h
  have HK := Lib.hid hk; clear hk
  go_enter Tryd.func23, Tryd.ntmps23
  go_wp2_with (go_at_call 39; refine (none_calls b _ h0).mono ?_; rintro e w' ⟨rfl, rfl⟩)
  refine (key_calls 0 (by omega) (by omega) w HK.out).mono ?_
  rw [show keyK 0 = 1 from rfl]
  rintro e w1 ⟨rfl, hf1⟩
  have FIN := Lib.hid (type_still (c := 0) (by omega) (.inl rfl) hf1 H.out)
  clear hf1
  go_wp2_with fail
  go_ret2
  exact FIN.out

set_option maxRecDepth 100000 in
set_option maxHeartbeats 3200000 in
theorem type_end_calls (b : Nat) (xs : List Int) (r : Nat) (w : World) (h : ConAt w b xs r) (hk : KeysAt w) :
    Calls Tryd.prog 23 #[.pointer (some ⟨b, 0, none⟩), .int .u8 4] w (TypePost b xs r 4 w) := by
  have h0 := h.made
  have h128 := h.2.1
  have H := Lib.hid h; clear h
  have HK := Lib.hid hk; clear hk
  go_enter Tryd.func23, Tryd.ntmps23
  go_wp2_with (go_at_call 39; refine (none_calls b _ h0).mono ?_; rintro e w' ⟨rfl, rfl⟩)
  refine (key_calls 4 (by omega) (by omega) w HK.out).mono ?_
  rw [show keyK 4 = 5 from rfl]
  rintro e w1 ⟨rfl, hf1⟩
  have HF1 := Lib.hid hf1; clear hf1
  go_wp2_with fail
  refine (put_calls b xs r 4 true w1 (H.out.no HF1.out)).mono ?_
  intro e w2 hp
  unfold PutPost at hp
  by_cases hl : xs.length = 128
  · obtain ⟨rfl, rfl⟩ := hp.1 hl
    have FIN := Lib.hid (type_still (c := 4) (by omega) (.inr hl) HF1.out H.out)
    clear hl hp
    go_wp2_with fail
    go_ret2
    exact FIN.out
  · obtain ⟨rfl, hcon, hf2⟩ := hp.2 (by omega)
    have FIN := Lib.hid (type_taken (b := b) (xs := xs) (r := r) (c := 4) (ends := true) (v' := .slice none 0 0) (by omega) (by omega) HF1.out (by simp) hcon hf2 (Fr.refl _ _) (by rw [if_pos rfl]; exact own_nil _ _))
    rw [bool_false_or] at FIN
    clear hl hp hcon hf2
    go_wp2_with fail
    go_ret2
    exact FIN.out

theorem keyK_plain {c : Int} (hc : c ≠ 0 ∧ c ≠ 4 ∧ c ≠ 8 ∧ c ≠ 21 ∧ c ≠ 127) : keyK c = 0 := by
  unfold keyK
  rw [if_neg hc.1, if_neg hc.2.2.2.1, if_neg hc.2.2.1, if_neg hc.2.2.2.2, if_neg hc.2.1]

set_option maxRecDepth 100000 in
set_option maxHeartbeats 3200000 in
theorem type_plain_calls (b : Nat) (xs : List Int) (r : Nat) (c : Int) (w : World) (h : ConAt w b xs r) (hk : KeysAt w) (hb0 : 0 ≤ c) (hb1 : c ≤ 255) (hc : c ≠ 0 ∧ c ≠ 4 ∧ c ≠ 8 ∧ c ≠ 21 ∧ c ≠ 127) :
    Calls Tryd.prog 23 #[.pointer (some ⟨b, 0, none⟩), .int .u8 c] w (TypePost b xs r c w) := by
  have h0 := h.made
  have h128 := h.2.1
  have H := Lib.hid h; clear h
  have HK := Lib.hid hk; clear hk
  by_cases h13 : c = 13
  · subst h13
    have HKE := Lib.hid (show keyK 13 = 0 from rfl)
    have HTY := Lib.hid (show tyC 13 = 10 from rfl)
    clear hc
    go_enter Tryd.func23, Tryd.ntmps23
    go_wp2_with (go_at_call 39; refine (none_calls b _ h0).mono ?_; rintro e w' ⟨rfl, rfl⟩)
    refine (key_calls 13 (by omega) (by omega) w HK.out).mono ?_
    rw [HKE.out]
    rintro e w1 ⟨rfl, hf1⟩
    have HF1 := Lib.hid hf1; clear hf1
    go_wp2_with fail
    refine (put_calls b xs r 10 true w1 (H.out.no HF1.out)).mono ?_
    intro e w2 hp
    unfold PutPost at hp
    by_cases hl : xs.length = 128
    · obtain ⟨rfl, rfl⟩ := hp.1 hl
      have FIN := Lib.hid (type_still (c := 13) (by omega) (.inr hl) HF1.out H.out)
      clear hl hp
      go_wp2_with fail
      go_ret2
      exact FIN.out
    · obtain ⟨rfl, hcon, hf2⟩ := hp.2 (by omega)
      have hbase : w.heap.size ≤ w2.heap.size := Nat.le_trans HF1.out.size hf2.size
      have FIN := Lib.hid (type_taken (b := b) (xs := xs) (r := r) (c := 13) (ends := true) (v' := .slice (some ⟨w2.heap.size, 0, none⟩) 1 1) (w2 := w2.alloc (.cells #[.int .u8 10] 5)) (by omega) (by omega) HF1.out (by simp [HTY.out]) (by simpa [HTY.out] using hcon) hf2 ((Fr.refl _ _).alloc _) (by rw [if_neg (by omega), HTY.out]; exact own_one w2 w.heap.size 10 hbase))
      clear hl hp hcon hf2 hbase
      obtain ⟨dd, hdd⟩ : ∃ dd, dd = (true || decide (xs.length + 1 = 128)) := ⟨_, rfl⟩
      rw [← hdd] at FIN ⊢
      clear hdd
      go_wp2_with fail
      go_ret2
      exact FIN.out
  · by_cases h10 : c = 10
    · subst h10
      have HKE := Lib.hid (show keyK 10 = 0 from rfl)
      have HTY := Lib.hid (show tyC 10 = 10 from rfl)
      clear hc h13
      go_enter Tryd.func23, Tryd.ntmps23
      go_wp2_with (go_at_call 39; refine (none_calls b _ h0).mono ?_; rintro e w' ⟨rfl, rfl⟩)
      refine (key_calls 10 (by omega) (by omega) w HK.out).mono ?_
      rw [HKE.out]
      rintro e w1 ⟨rfl, hf1⟩
      have HF1 := Lib.hid hf1; clear hf1
      go_wp2_with fail
      refine (put_calls b xs r 10 true w1 (H.out.no HF1.out)).mono ?_
      intro e w2 hp
      unfold PutPost at hp
      by_cases hl : xs.length = 128
      · obtain ⟨rfl, rfl⟩ := hp.1 hl
        have FIN := Lib.hid (type_still (c := 10) (by omega) (.inr hl) HF1.out H.out)
        clear hl hp
        go_wp2_with fail
        go_ret2
        exact FIN.out
      · obtain ⟨rfl, hcon, hf2⟩ := hp.2 (by omega)
        have hbase : w.heap.size ≤ w2.heap.size := Nat.le_trans HF1.out.size hf2.size
        have FIN := Lib.hid (type_taken (b := b) (xs := xs) (r := r) (c := 10) (ends := true) (v' := .slice (some ⟨w2.heap.size, 0, none⟩) 1 1) (w2 := w2.alloc (.cells #[.int .u8 10] 5)) (by omega) (by omega) HF1.out (by simp [HTY.out]) (by simpa [HTY.out] using hcon) hf2 ((Fr.refl _ _).alloc _) (by rw [if_neg (by omega), HTY.out]; exact own_one w2 w.heap.size 10 hbase))
        clear hl hp hcon hf2 hbase
        obtain ⟨dd, hdd⟩ : ∃ dd, dd = (true || decide (xs.length + 1 = 128)) := ⟨_, rfl⟩
        rw [← hdd] at FIN ⊢
        clear hdd
        go_wp2_with fail
        go_ret2
        exact FIN.out
    · have HKE := Lib.hid (keyK_plain hc)
      have HTY := Lib.hid (show tyC c = c by unfold tyC; rw [if_neg h13])
      have t0 : (c == 13) = false := by simp [h13]
      have t1 : (c == 10) = false := by simp [h10]
      obtain ⟨n0, n4, n8, n21, n127⟩ := hc
      go_enter Tryd.func23, Tryd.ntmps23
      go_wp2_with (go_at_call 39; refine (none_calls b _ h0).mono ?_; rintro e w' ⟨rfl, rfl⟩)
      refine (key_calls c (by omega) (by omega) w HK.out).mono ?_
      rw [HKE.out]
      rintro e w1 ⟨rfl, hf1⟩
      have HF1 := Lib.hid hf1; clear hf1
      go_wp2_with fail
      refine (put_calls b xs r c false w1 (H.out.no HF1.out)).mono ?_
      intro e w2 hp
      unfold PutPost at hp
      by_cases hl : xs.length = 128
      · obtain ⟨rfl, rfl⟩ := hp.1 hl
        have FIN := Lib.hid (type_still (c := c) (by omega) (.inr hl) HF1.out H.out)
        clear hl hp
        go_wp2_with fail
        go_ret2
        exact FIN.out
      · obtain ⟨rfl, hcon, hf2⟩ := hp.2 (by omega)
        have hbase : w.heap.size ≤ w2.heap.size := Nat.le_trans HF1.out.size hf2.size
        have FIN := Lib.hid (type_taken (b := b) (xs := xs) (r := r) (c := c) (ends := false) (v' := .slice (some ⟨w2.heap.size, 0, none⟩) 1 1) (w2 := w2.alloc (.cells #[.int .u8 c] 5)) (by omega) (by omega) HF1.out (by rw [HTY.out]; simp; omega) (by simpa [HTY.out] using hcon) hf2 ((Fr.refl _ _).alloc _) (by rw [if_neg (by omega), HTY.out]; exact own_one w2 w.heap.size c hbase))
        clear hl hp hcon hf2 hbase
        obtain ⟨dd, hdd⟩ : ∃ dd, dd = (false || decide (xs.length + 1 = 128)) := ⟨_, rfl⟩
        rw [← hdd] at FIN ⊢
        clear hdd
        go_wp2_with fail
        go_ret2
        exact FIN.out

theorem type_calls (b : Nat) (xs : List Int) (r : Nat) (c : Int) (w : World) (h : ConAt w b xs r) (hk : KeysAt w) (hb0 : 0 ≤ c) (hb1 : c ≤ 255) :
    Calls Tryd.prog 23 #[.pointer (some ⟨b, 0, none⟩), .int .u8 c] w (TypePost b xs r c w) := by
  by_cases hb : c = 21 ∨ c = 8 ∨ c = 127
  · exact type_back_calls b xs r c w h hk hb
  · by_cases h0 : c = 0
    · subst h0; exact type_zero_calls b xs r w h hk
    · by_cases h4 : c = 4
      · subst h4; exact type_end_calls b xs r w h hk
      · exact type_plain_calls b xs r c w h hk hb0 hb1 (by omega)

end Go.Proofs.YtollgpnaadgncaaDoor
