/- ConsoleParts: the plain law: two Takes within a line are one. No condition. -/
import Derived.Test.YtollgpnaadgncaaDoorConF
namespace Go.Proofs.YtollgpnaadgncaaDoor

theorem idx_lt {c : Int} {l : List Int} {j : Nat} (hj : j < l.length) (h : j < idx c l) : l[j] ≠ c := by
  unfold idx at h
  have := List.not_of_lt_findIdx h
  simpa using this

theorem idx_drop {c : Int} {l : List Int} : ∀ (m : Nat), m ≤ l.length → (∀ j (hj : j < l.length), j < m → l[j] ≠ c) → idx c l = m + idx c (l.drop m) := by
  intro m hm h
  have hl : l = l.take m ++ l.drop m := (List.take_append_drop m l).symm
  have hn : ∀ x ∈ l.take m, (x == c) = false := by
    intro x hx
    obtain ⟨j, hj, rfl⟩ := List.getElem_of_mem hx
    have hj2 : j < m := by simp at hj; omega
    have := h j (by simp at hj; omega) hj2
    simpa using this
  have hlen : (l.take m).length = m := by simp; omega
  show List.findIdx _ l = _
  conv => lhs; rw [hl]
  rw [List.findIdx_append]
  have hnone : (l.take m).findIdx (· == c) = (l.take m).length := List.findIdx_eq_length.2 hn
  rw [hnone, if_neg (by omega), hlen]
  show _ = m + List.findIdx _ _
  omega

/-- two Takes within a line are one -/
theorem parts_law {xs : List Int} {r m : Nat} {n : Int} (hr : r ≤ xs.length) (hm1 : 1 ≤ m) (hn1 : 1 ≤ n) (h0 : 0 < r) (hK : giveK (m : Int) (xs.take r) = m) (hmr : m ≤ r)
    (h10 : (xs.take r)[m - 1]? ≠ some 10) (h4 : m < r → (xs.take r)[m]? ≠ some 4) :
    takeL (m : Int) xs r = xs.take m ∧ takeU (m : Int) xs r = m ∧ takeU ((m : Int) + n) xs r = m + takeU n (xs.drop m) (r - m) ∧ takeL ((m : Int) + n) xs r = xs.take m ++ takeL n (xs.drop m) (r - m) := by
  obtain ⟨d, hd⟩ : ∃ d, d = xs.take r := ⟨_, rfl⟩
  have hdl : d.length = r := by rw [hd]; simp; omega
  rw [← hd] at hK h10 h4
  have hd0 : d[0]? ≠ some 4 := by
    intro h
    unfold giveK at hK
    rw [if_neg (by omega), if_pos h] at hK
    omega
  have hU : useK (m : Int) d = m := by unfold useK; rw [if_neg (by omega), if_neg hd0, hK]
  have hK2 := hK
  unfold giveK at hK2
  rw [if_neg (by omega), if_neg hd0] at hK2
  have i4 : m ≤ idx 4 d := by omega
  have i10 : m ≤ idx 10 d + 1 := by omega
  have no4 : ∀ j (hj : j < d.length), j < m → d[j] ≠ 4 := fun j hj hjm => idx_lt hj (by omega)
  have no10 : ∀ j (hj : j < d.length), j < m → d[j] ≠ 10 := fun j hj hjm => by
    by_cases he : j = m - 1
    · subst he
      intro hh
      exact h10 (by rw [List.getElem?_eq_getElem hj, hh])
    · exact idx_lt hj (by omega)
  have e4 := idx_drop (c := 4) m (by omega) no4
  have e10 := idx_drop (c := 10) m (by omega) no10
  obtain ⟨d2, hd2⟩ : ∃ d2, d2 = d.drop m := ⟨_, rfl⟩
  rw [← hd2] at e4 e10
  have hd2e : (xs.drop m).take (r - m) = d2 := by rw [hd2, hd, List.drop_take]
  have hd2l : d2.length = r - m := by rw [hd2]; simp; omega
  have i4' := idx_le 4 d2
  refine ⟨by unfold takeL; rw [if_neg (by omega), ← hd, hK], by unfold takeU; rw [if_neg (by omega), ← hd, hU], ?_⟩
  have hmn : ¬ (m : Int) + n < 1 := by omega
  have hn : ¬ n < 1 := by omega
  have k3 : giveK ((m : Int) + n) d = min (min ((m : Int) + n).toNat (idx 10 d + 1)) (idx 4 d) := by unfold giveK; rw [if_neg hmn, if_neg hd0]
  have u3 : useK ((m : Int) + n) d = giveK ((m : Int) + n) d := by unfold useK; rw [if_neg hmn, if_neg hd0]
  unfold takeL takeU
  simp only [if_neg (show ¬ r = 0 by omega)]
  rw [← hd, u3, k3]
  by_cases hrm : r - m = 0
  · have hi4 : idx 4 d2 = 0 := by omega
    rw [if_pos hrm, if_pos hrm, e4, e10]
    refine ⟨by omega, ?_⟩
    rw [List.append_nil]
    congr 1
    omega
  · have hd20 : d2[0]? ≠ some 4 := by
      rw [hd2, List.getElem?_drop]
      simpa using h4 (by omega)
    rw [if_neg hrm, if_neg hrm, hd2e]
    have k2 : giveK n d2 = min (min n.toNat (idx 10 d2 + 1)) (idx 4 d2) := by unfold giveK; rw [if_neg hn, if_neg hd20]
    have u2 : useK n d2 = giveK n d2 := by unfold useK; rw [if_neg hn, if_neg hd20]
    have ek : min (min ((m : Int) + n).toNat (idx 10 d + 1)) (idx 4 d) = m + giveK n d2 := by rw [k2, e4, e10]; omega
    rw [u2, ek]
    refine ⟨rfl, ?_⟩
    rw [List.take_add]

end Go.Proofs.YtollgpnaadgncaaDoor
