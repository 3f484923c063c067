/- hartixref11.Console: given. No condition. -/
import Derived.Test.YtollgpnaadgncaaDoorRefC
import Derived.Test.YtollgpnaadgncaaDoorRefGive
import Derived.Test.YtollgpnaadgncaaDoorConI
namespace Go.Proofs.YtollgpnaadgncaaDoor
open Go.RowKit

set_option maxRecDepth 100000 in
set_option maxHeartbeats 3200000 in
theorem refgiven_calls (base Q : Nat) (dv lv : Value) (dn ln : List Int) (n : Int) (w : World) (h : RefC w base Q dv lv dn ln) (hd : 0 < dn.length) (hd2 : dn.length ≤ 1000) (hn1 : 1 ≤ n) (hn2 : n ≤ 9223372036854775807) :
    Calls Tryd.prog 47 #[.pointer (some ⟨Q, 0, none⟩), .int .i64 n] w fun e w' => e = .returned (.tuple #[.int .i64 (giveK n dn), .int .i64 (useK n dn)]) ∧ w' = w := by
  have hb := BSl.of_own h.2.2.1 (by omega)
  obtain ⟨ao, c, rfl, _⟩ := row_shape h.2.2.1
  have c0 : w.cell? ⟨Q, 0, none⟩ = some (.slice ao dn.length c) := h.2.1.cell 0
  have HB := Lib.hid hb; clear hb h
  obtain ⟨b, o, rfl, hc0⟩ := bsl_cell HB.out 0 hd
  obtain ⟨x, hx⟩ : ∃ x, x = dn[0] := ⟨_, rfl⟩
  rw [← hx, Nat.add_zero] at hc0
  by_cases h4 : x = 4
  · have h40 : dn[0]? = some 4 := by rw [List.getElem?_eq_getElem hd, ← hx, h4]
    have H40 := Lib.hid h40; clear h40 hx
    subst h4
    go_enter Tryd.func47, Tryd.ntmps47
    go_wp2
    go_ret2
    exact ⟨ret_pair (by unfold giveK; rw [if_neg (by omega), if_pos H40.out]; rfl) (by unfold useK; rw [if_neg (by omega), if_pos H40.out]; rfl), rfl⟩
  · have h40 : dn[0]? ≠ some 4 := by rw [List.getElem?_eq_getElem hd, ← hx]; simpa using h4
    have H40 := Lib.hid h40; clear h40 hx
    have t0 : (x == 4) = false := by simp [h4]
    clear h4
    go_enter Tryd.func47, Tryd.ntmps47
    go_wp2
    go_loop [6] (fun i => ∃ k : Nat, k ≤ dn.length ∧ (k : Int) ≤ n ∧ i = .int .i64 k ∧ (∀ j (hj : j < dn.length), j < k → dn[j] ≠ 4) ∧ (∀ j (hj : j < dn.length), j < k → dn[j] ≠ 10)) (fun i => dn.length - (intOf i).toNat)
    case atStart => exact ⟨0, Nat.zero_le _, by omega, rfl, fun j _ hj => by omega, fun j _ hj => by omega⟩
    case round =>
      obtain ⟨k, hk, hkn, rfl, n4, n10⟩ := hrel
      have N4 := Lib.hid n4; clear n4
      have N10 := Lib.hid n10; clear n10
      by_cases hlt : (k : Int) < n
      · by_cases hlen : k < dn.length
        · obtain ⟨b', o', he, ck⟩ := bsl_cell HB.out k hlen
          cases he
          obtain ⟨y, hy⟩ : ∃ y, y = dn[k] := ⟨_, rfl⟩
          rw [← hy] at ck
          by_cases hy4 : y = 4
          · have STOP := Lib.hid (give_stop hn1 H40.out hk hkn N4.out N10.out (.inr (.inr (by rw [List.getElem?_eq_getElem hlen, ← hy, hy4]))))
            have u0 : (y == 4) = true := by simp [hy4]
            have u1 : (y != 4) = false := by simp [hy4]
            clear hy hy4
            go_wp2
            go_ret2
            exact ⟨ret_pair (by rw [STOP.out]) (by unfold useK; rw [if_neg (by omega), if_neg H40.out, STOP.out]), rfl⟩
          · have u1 : (y != 4) = true := by simp [hy4]
            by_cases hy10 : y = 10
            · have LINE := Lib.hid (give_line (n := n) (k := k) H40.out hlen (by omega) (fun j hj hjk => by
                rcases Nat.lt_or_ge j k with h | h
                · exact N4.out j hj h
                · obtain rfl : j = k := by omega
                  rw [← hy]; exact hy4) N10.out (by rw [← hy, hy10]))
              have u2 : (y == 10) = true := by simp [hy10]
              clear hy hy4 hy10
              go_wp2
              go_ret2
              exact ⟨ret_pair (by rw [LINE.out]; omega) (by unfold useK; rw [if_neg (by omega), if_neg H40.out, LINE.out]; omega), rfl⟩
            · have u2 : (y == 10) = false := by simp [hy10]
              have M4 := Lib.hid (show ∀ j (hj : j < dn.length), j < k + 1 → dn[j] ≠ 4 from fun j hj hjk => by
                rcases Nat.lt_or_ge j k with h | h
                · exact N4.out j hj h
                · obtain rfl : j = k := by omega
                  rw [← hy]; exact hy4)
              have M10 := Lib.hid (show ∀ j (hj : j < dn.length), j < k + 1 → dn[j] ≠ 10 from fun j hj hjk => by
                rcases Nat.lt_or_ge j k with h | h
                · exact N10.out j hj h
                · obtain rfl : j = k := by omega
                  rw [← hy]; exact hy10)
              clear hy hy4 hy10
              go_wp2
              go_round
              case rel => exact ⟨k + 1, by omega, by omega, by go_num, M4.out, M10.out⟩
              case measure => simp [intOf]; omega
        · have he : k = dn.length := by omega
          have STOP := Lib.hid (give_stop hn1 H40.out hk hkn N4.out N10.out (.inr (.inl he)))
          subst he
          go_wp2
          go_ret2
          exact ⟨ret_pair (by rw [STOP.out]) (by unfold useK; rw [if_neg (by omega), if_neg H40.out, STOP.out]), rfl⟩
      · have STOP := Lib.hid (give_stop hn1 H40.out hk hkn N4.out N10.out (.inl (by omega)))
        go_wp2
        go_ret2
        exact ⟨ret_pair (by rw [STOP.out]) (by unfold useK; rw [if_neg (by omega), if_neg H40.out, STOP.out]), rfl⟩

end Go.Proofs.YtollgpnaadgncaaDoor
