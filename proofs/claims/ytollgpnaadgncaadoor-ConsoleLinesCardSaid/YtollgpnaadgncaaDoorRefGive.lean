/- hartixref11: given: the plain law. No condition. -/
import Derived.Test.YtollgpnaadgncaaDoorPartsLaw
namespace Go.Proofs.YtollgpnaadgncaaDoor

theorem idx_ge {c : Int} {l : List Int} {k : Nat} (hk : k ≤ l.length) (h : ∀ j (hj : j < l.length), j < k → l[j] ≠ c) : k ≤ idx c l := by
  have := idx_drop (c := c) k hk h
  omega

/-- a scan that stands at k has come to what a Take gives -/
theorem give_stop {n : Int} {l : List Int} {k : Nat} (hn : 1 ≤ n) (h0 : l[0]? ≠ some 4) (hk : k ≤ l.length) (hkn : (k : Int) ≤ n) (h4 : ∀ j (hj : j < l.length), j < k → l[j] ≠ 4) (h10 : ∀ j (hj : j < l.length), j < k → l[j] ≠ 10)
    (hs : (k : Int) = n ∨ k = l.length ∨ l[k]? = some 4) : giveK n l = k := by
  have e4 := idx_ge hk h4
  have e10 := idx_ge hk h10
  have l4 := idx_le 4 l
  unfold giveK
  rw [if_neg (by omega), if_neg h0]
  rcases hs with h | h | h
  · omega
  · omega
  · obtain ⟨hkl, hk4⟩ := List.getElem?_eq_some_iff.1 h
    have := idx_found hkl h4 hk4
    omega

theorem give_line {n : Int} {l : List Int} {k : Nat} (h0 : l[0]? ≠ some 4) (hk : k < l.length) (hkn : (k : Int) + 1 ≤ n) (h4 : ∀ j (hj : j < l.length), j < k + 1 → l[j] ≠ 4) (h10 : ∀ j (hj : j < l.length), j < k → l[j] ≠ 10) (hl : l[k] = 10) : giveK n l = k + 1 := by
  have e4 := idx_ge (c := 4) hk h4
  have e10 := idx_found hk h10 hl
  unfold giveK
  rw [if_neg (by omega), if_neg h0]
  omega

end Go.Proofs.YtollgpnaadgncaaDoor
