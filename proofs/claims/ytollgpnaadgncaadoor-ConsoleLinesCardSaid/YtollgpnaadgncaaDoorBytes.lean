/- hartixlaw0.Bytes: whether two slices of bytes read alike. No condition. -/
import Derived.Test.YtollgpnaadgncaaDoorLib
namespace Go.Proofs.YtollgpnaadgncaaDoor
open Go.RowKit

theorem list_eq_of_getD {xs ys : List Int} (hl : xs.length = ys.length) (h : ∀ j, j < xs.length → xs[j]?.getD 0 = ys[j]?.getD 0) : xs = ys := by
  apply List.ext_getElem hl
  intro i h1 h2
  have := h i h1
  simpa [List.getElem?_eq_getElem h1, List.getElem?_eq_getElem h2] using this

theorem ret_bool {a b : Bool} (h : a = b) : Ending.returned (.bool a) = .returned (.bool b) := by rw [h]

set_option maxHeartbeats 800000 in
theorem bytes_calls (xs ys : List Int) (v1 v2 : Value) (w : World) (h1 : BSl w v1 xs) (h2 : BSl w v2 ys) :
    Calls Tryd.prog 20 #[v1, v2] w fun e w' => e = .returned (.bool (decide (xs = ys))) ∧ ∃ n, w' = w.drewN n := by
  obtain ⟨a1, c1, rfl, l1, m1, k1, r1⟩ := h1
  obtain ⟨a2, c2, rfl, l2, m2, k2, r2⟩ := h2
  have HA := Lib.hid r1; clear r1
  have HB := Lib.hid r2; clear r2
  by_cases hl : xs.length = ys.length
  · have hb : ((xs.length : Int) != (ys.length : Int)) = false := by simp [hl]
    have H := Lib.hid hl; clear hl
    go_enter Tryd.func20, Tryd.ntmps20
    go_wp2
    go_loopw [5] (fun i wr => ∃ k n : Nat, k ≤ xs.length ∧ i = .int .i64 k ∧ wr = w.drewN n ∧ ∀ j, j < k → xs[j]?.getD 0 = ys[j]?.getD 0) (fun i _ => xs.length - (intOf i).toNat)
    case atStart => exact ⟨0, 0, Nat.zero_le _, rfl, rfl, by intro j hj; omega⟩
    case round =>
      obtain ⟨k, n, hk, rfl, rfl, heq⟩ := hrel
      have HE := Lib.hid heq; clear heq
      by_cases hlt : k < xs.length
      · obtain ⟨b1, o1, rfl, ca⟩ := HA.out (by intro h; simp [h] at hlt)
        obtain ⟨b2, o2, rfl, cb⟩ := HB.out (by intro h; have := H.out; simp [h] at this; simp [this] at hlt)
        have ca := ca k hlt
        have cb := cb k (by have := H.out; omega)
        have hlt2 : k < ys.length := by have := H.out; omega
        go_wp2
        go_quiet (fail)
        by_cases he : xs[k] = ys[k]
        · have hne : (xs[k] != ys[k]) = false := by simp [he]
          have HQ := Lib.hid he; clear he
          go_wp2
          go_roundw
          case rel => exact ⟨k + 1, _, by omega, by go_num, rfl, fun j hj => by
            rcases Nat.lt_or_ge j k with h | h
            · exact HE.out j h
            · obtain rfl : j = k := by omega
              have := HQ.out
              simp [hlt, hlt2, this]⟩
          case measure => simp [intOf]; omega
        · have hne : (xs[k] != ys[k]) = true := by simp [he]
          have HQ := Lib.hid he; clear he
          go_wp2
          go_ret
          refine ⟨ret_bool ?_, ⟨_, World.drewN_drewN _ _ _⟩⟩
          have := HQ.out
          rw [eq_comm, decide_eq_false_iff_not]
          rintro rfl
          exact this rfl
      · have : k = xs.length := by omega
        subst this
        go_wp2
        go_ret
        refine ⟨ret_bool ?_, ⟨_, rfl⟩⟩
        rw [eq_comm, decide_eq_true_iff]
        exact list_eq_of_getD H.out HE.out
  · have hb : ((xs.length : Int) != (ys.length : Int)) = true := by simp; omega
    have H := Lib.hid hl; clear hl
    go_enter Tryd.func20, Tryd.ntmps20
    go_wp2
    go_ret
    refine ⟨ret_bool ?_, ⟨0, rfl⟩⟩
    rw [eq_comm, decide_eq_false_iff_not]
    rintro rfl
    exact H.out rfl

end Go.Proofs.YtollgpnaadgncaaDoor
