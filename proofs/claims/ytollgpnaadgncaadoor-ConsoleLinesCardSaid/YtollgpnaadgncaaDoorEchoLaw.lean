/- A screen on which 08 goes back: what echoes make of it. The plain law of ConsoleEcho. No condition. -/
import Derived.Test.YtollgpnaadgncaaDoorConE
namespace Go.Proofs.YtollgpnaadgncaaDoor
open Go.RowKit

/-- what is written to a screen s on which one stands at a -/
def scr : List Int → Nat → List Int → Option (List Int × Nat)
  | s, a, [] => some (s, a)
  | s, a, c :: l => if c = 8 then (if a = 0 then none else scr s (a - 1) l) else if a = s.length then scr (s ++ [c]) (a + 1) l else scr (s.set a c) (a + 1) l

theorem scr_append : ∀ (l1 l2 : List Int) (s : List Int) (a : Nat), scr s a (l1 ++ l2) = (scr s a l1).bind fun p => scr p.1 p.2 l2
  | [], l2, s, a => rfl
  | c :: l1, l2, s, a => by
    simp only [List.cons_append, scr]
    by_cases h8 : c = 8
    · simp only [if_pos h8]
      by_cases h0 : a = 0
      · simp [h0]
      · simp only [if_neg h0]; exact scr_append l1 l2 _ _
    · simp only [if_neg h8]
      by_cases ha : a = s.length
      · simp only [if_pos ha]; exact scr_append l1 l2 _ _
      · simp only [if_neg ha]; exact scr_append l1 l2 _ _

/-- a screen that holds a line, blanks behind it -/
def scrOf (l : List Int) (m : Nat) : List Int := l ++ List.replicate m 32
theorem scrOf_length (l : List Int) (m : Nat) : (scrOf l m).length = l.length + m := by simp [scrOf]

theorem scr_back1 (l : List Int) (m : Nat) (h : 0 < l.length) : scr (scrOf l m) l.length [8, 32, 8] = some (scrOf (l.take (l.length - 1)) (m + 1), l.length - 1) := by
  have e1 : ¬ l.length - 1 = (scrOf l m).length := by rw [scrOf_length]; omega
  have e2 : (scrOf l m).set (l.length - 1) 32 = scrOf (l.take (l.length - 1)) (m + 1) := by
    unfold scrOf
    rw [List.set_append_left _ _ (by omega), List.set_eq_take_append_cons_drop, if_pos (by omega), show l.length - 1 + 1 = l.length by omega, List.drop_length, List.append_assoc, List.replicate_succ]
    rfl
  simp only [scr, if_true]
  rw [if_neg (by omega), if_neg (by decide), if_neg e1, e2, show l.length - 1 + 1 = l.length by omega, if_neg (by omega)]

theorem scr_backs (l : List Int) (m : Nat) : ∀ n, n ≤ l.length → scr (scrOf l m) l.length (backs n) = some (scrOf (l.take (l.length - n)) (m + n), l.length - n)
  | 0, _ => by simp [backs, scr]
  | n + 1, h => by
    have hl : (l.take (l.length - n)).length = l.length - n := by simp
    have hb := scr_back1 (l.take (l.length - n)) (m + n) (by rw [hl]; omega)
    rw [hl, List.take_take] at hb
    rw [show backs (n + 1) = backs n ++ [8, 32, 8] from rfl, scr_append, scr_backs l m n (by omega)]
    simp only [Option.bind_some]
    rw [hb, show min (l.length - n - 1) (l.length - n) = l.length - (n + 1) by omega, show l.length - n - 1 = l.length - (n + 1) by omega, Nat.add_assoc]

theorem scr_one (l : List Int) (m : Nat) (c : Int) (hc : c ≠ 8) : scr (scrOf l m) l.length [c] = some (scrOf (l ++ [c]) (m - 1), (l ++ [c]).length) := by
  simp only [scr, if_neg hc]
  rw [scrOf_length]
  by_cases hm : m = 0
  · subst hm; rw [if_pos (by omega)]; simp [scrOf]
  · obtain ⟨m, rfl⟩ : ∃ k, m = k + 1 := ⟨m - 1, by omega⟩
    rw [if_neg (by omega)]
    simp [scrOf, List.replicate_succ, List.set_append_right]

/-- a byte that ConsoleEcho types -/
theorem echo_step (l : List Int) (m : Nat) (c : Int) (hl : l.length < 127) (hc : c ≠ 4 ∧ c ≠ 13 ∧ c ≠ 10) :
    typF c l = false ∧ typN c l 0 = 0 ∧ ∃ m', scr (scrOf l m) l.length (typE c l 0) = some (scrOf (typX c l 0) m', (typX c l 0).length) ∧ (typX c l 0).length + m' ≤ l.length + m + 1 ∧ (typE c l 0).length ≤ 3 * l.length + 1 := by
  have hy : tyC c = c := by unfold tyC; rw [if_neg hc.2.1]
  have hF : typF c l = false := by
    unfold typF; rw [hy]
    split
    · rfl
    · simp; omega
  refine ⟨hF, by unfold typN; rw [hF]; rfl, ?_⟩
  unfold typE typX
  by_cases h1 : c = 21
  · rw [if_pos h1, if_pos h1, Nat.sub_zero]
    refine ⟨m + l.length, ?_, by simp; omega, by rw [backs_length]; omega⟩
    rw [scr_backs l m l.length (Nat.le_refl _)]; simp
  · rw [if_neg h1, if_neg h1]
    by_cases h2 : c = 8 ∨ c = 127
    · rw [if_pos h2, if_pos h2, Nat.sub_zero]
      refine ⟨m + min 1 l.length, ?_, by simp; omega, by rw [backs_length]; omega⟩
      rw [scr_backs l m (min 1 l.length) (by omega)]
      simp
    · rw [if_neg h2, if_neg h2]
      by_cases h3 : c = 0
      · rw [if_pos (.inl h3), if_pos (.inl h3)]
        exact ⟨m, rfl, by omega, by simp⟩
      · rw [if_neg (by omega), if_neg (by omega), hy]
        refine ⟨m - 1, scr_one l m c (by omega), by simp; omega, by simp⟩

end Go.Proofs.YtollgpnaadgncaaDoor
