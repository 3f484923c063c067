/- hartixref11.Console: Peek, Take. No condition. -/
import Derived.Test.YtollgpnaadgncaaDoorRefD
namespace Go.Proofs.YtollgpnaadgncaaDoor
open Go.RowKit

theorem joined1_calls (xs : List Int) (v1 : Value) (w : World) (h1 : BSl w v1 xs) :
    Calls Tryd.prog 36 #[v1, .slice none 0 0] w fun e w' => ∃ v', e = .returned v' ∧ Own w' w.heap.size v' xs ∧ Below w.heap.size w w' := by
  have := joined_calls xs [] v1 (.slice none 0 0) w h1 (BSl.nil w) (by simpa using h1.len)
  simpa only [List.append_nil] using this

theorem BSl.capo {w : World} {da : Option Addr} {n dc : Nat} {xs : List Int} (h : BSl w (.slice da n dc) xs) : n ≤ dc := by
  obtain ⟨a, c, hv, h1, _⟩ := h
  cases hv; exact h1

/-- a slice's head -/
theorem BSl.upto {w : World} {da : Option Addr} {dc : Nat} {xs : List Int} (h : BSl w (.slice da xs.length dc) xs) (n : Nat) (hn : n ≤ xs.length) : BSl w (.slice da n dc) (xs.take n) := by
  obtain ⟨a, c, hv, h1, h2, h3, h4⟩ := h
  cases hv
  have e : (xs.take n).length = n := by simp; omega
  refine ⟨_, _, by rw [e], by omega, by omega, by omega, fun hne => ?_⟩
  obtain ⟨b, o, rfl, hc⟩ := h4 (by intro e; simp [e] at hne)
  refine ⟨b, o, rfl, fun j hj => ?_⟩
  rw [e] at hj
  rw [hc j (by omega), List.getElem?_take, if_pos hj]
theorem BSl.from {w : World} {da : Option Addr} {dc : Nat} {xs : List Int} (h : BSl w (.slice da xs.length dc) xs) (n : Nat) (hn : n ≤ xs.length) :
    BSl w (.slice (da.map (fun x => x.add n)) (xs.length - n) (dc - n)) (xs.drop n) := by
  obtain ⟨a, c, hv, h1, h2, h3, h4⟩ := h
  cases hv
  refine ⟨_, _, by rw [List.length_drop], by simp; omega, by omega, by simp; omega, fun hne => ?_⟩
  obtain ⟨b, o, rfl, hc⟩ := h4 (by intro e; simp [e] at hne)
  refine ⟨b, o + n, by simp [Addr.add], fun j hj => ?_⟩
  simp at hj
  have := hc (n + j) (by omega)
  rw [Nat.add_assoc, this]
  simp

/-- what the document's Take gives -/
def refL (n : Int) (dn : List Int) : List Int := if dn = [] ∨ n < 1 then [] else dn.take (giveK n dn)

set_option maxRecDepth 100000 in
set_option maxHeartbeats 3200000 in
theorem refpeek_calls (base Q : Nat) (dv lv : Value) (dn ln : List Int) (n : Int) (w : World) (h : RefC w base Q dv lv dn ln) (hd2 : dn.length ≤ 1000) (hn1 : -9223372036854775808 ≤ n) (hn2 : n ≤ 9223372036854775807) :
    Calls Tryd.prog 50 #[.pointer (some ⟨Q, 0, none⟩), .int .i64 n] w fun e w' => ∃ v', e = .returned (.tuple #[v', .bool (decide (0 < dn.length))]) ∧ Own w' w.heap.size v' (refL n dn) ∧ Below w.heap.size w w' := by
  have HRd := Lib.hid (refready_calls base Q dv lv dn ln w h)
  have hb := BSl.of_own h.2.2.1 (by omega)
  obtain ⟨ao, c, rfl, _⟩ := row_shape h.2.2.1
  have c0 : w.cell? ⟨Q, 0, none⟩ = some (.slice ao dn.length c) := h.2.1.cell 0
  have HB := Lib.hid hb; clear hb
  by_cases hd : dn = []
  · have HD := Lib.hid hd
    have e0 : decide (0 < dn.length) = false := by simp [hd]
    rw [e0] at HRd ⊢
    clear hd e0 h
    go_enter Tryd.func50, Tryd.ntmps50
    go_wp2_with fail
    refine HRd.out.mono ?_
    rintro e w' ⟨rfl, rfl⟩
    go_wp2_with fail
    go_ret2
    exact ⟨_, rfl, by unfold refL; rw [if_pos (.inl HD.out)]; exact own_nil _ _, Below.refl _ _⟩
  · have hpos : 0 < dn.length := List.length_pos_iff.2 hd
    have e0 : decide (0 < dn.length) = true := decide_eq_true hpos
    rw [e0] at HRd ⊢
    have HD := Lib.hid hd
    clear hd e0
    by_cases hn : n < 1
    · clear h
      go_enter Tryd.func50, Tryd.ntmps50
      go_wp2_with fail
      refine HRd.out.mono ?_
      rintro e w' ⟨rfl, rfl⟩
      go_wp2_with fail
      go_ret2
      exact ⟨_, rfl, by unfold refL; rw [if_pos (.inr hn)]; exact own_nil _ _, Below.refl _ _⟩
    · have hK := giveK_le n dn
      obtain ⟨K, hKe⟩ : ∃ K, K = giveK n dn := ⟨_, rfl⟩
      obtain ⟨U, hUe⟩ : ∃ U, U = useK n dn := ⟨_, rfl⟩
      have hg := refgiven_calls base Q _ lv dn ln n w h hpos hd2 (by omega) hn2
      rw [← hKe] at hK hg
      rw [← hUe] at hg
      have HG := Lib.hid hg
      have hcap := HB.out.capo
      have HL := Lib.hid (show refL n dn = dn.take K by unfold refL; rw [if_neg (by rintro (h1 | h1); exact HD.out h1; exact hn h1), hKe])
      clear hKe hUe hg h
      go_enter Tryd.func50, Tryd.ntmps50
      go_wp2_with fail
      refine HRd.out.mono ?_
      rintro e w' ⟨rfl, rfl⟩
      go_wp2_with fail
      refine HG.out.mono ?_
      rintro e w' ⟨rfl, rfl⟩
      go_wp2_with fail
      refine (joined1_calls (dn.take K) _ _ (HB.out.upto K hK)).mono ?_
      rintro e w2 ⟨v', rfl, ho, hbel⟩
      have HO := Lib.hid ho; clear ho
      have HBE := Lib.hid hbel; clear hbel
      go_wp2_with fail
      go_ret2
      exact ⟨_, rfl, by rw [HL.out]; exact HO.out, HBE.out⟩

end Go.Proofs.YtollgpnaadgncaaDoor
