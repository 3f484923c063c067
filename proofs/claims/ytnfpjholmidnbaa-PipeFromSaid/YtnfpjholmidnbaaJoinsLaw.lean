/- Two Puts in a row, two Takes in a row: plain laws. No condition. -/
import Derived.Test.YtnfpjholmidnbaaFromBad
namespace Go.Proofs.Ytnfpjholmidnbaa
open Go.RowKit

theorem lent_facts {w4 : World} {base : Nat} {v4 : Value} {data : List Int} (h : Lent w4 base v4 data) (hl : data.length ≤ 140737488355328) : (∃ la lc, v4 = .slice la data.length lc) ∧ BSl w4 v4 data ∧ ∀ P, P < base → v4.ownBlock ≠ some P := by
  have hb := h.bsl hl
  refine ⟨hb.shape, hb, fun P hP => ?_⟩
  obtain ⟨g, hg, rfl, _⟩ := h
  intro h; cases h; have hP2 : g < base := hP; omega

theorem putK_le (a q : List Int) (sr : Bool) : putK a q sr ≤ a.length := by unfold putK; split <;> omega

theorem join_done {a b q : List Int} {sr : Bool} (hq : q.length ≤ 512) (h : putHow a q sr = 1) :
    putK a q sr + putK b (q ++ a.take (putK a q sr)) sr = putK (a ++ b) q sr ∧ (b ≠ [] → putHow b (q ++ a.take (putK a q sr)) sr = putHow (a ++ b) q sr) ∧
      (q ++ a.take (putK a q sr)) ++ b.take (putK b (q ++ a.take (putK a q sr)) sr) = q ++ (a ++ b).take (putK (a ++ b) q sr) := by
  by_cases ha : a = []
  · subst ha
    have e : putK [] q sr = 0 := by simp [putK]
    simp [e]
  · cases sr with
    | true => simp [putHow, ha] at h
    | false =>
      have hal : 0 < a.length := List.length_pos_iff.2 ha
      have hk : putK a q false = min a.length (512 - q.length) := by simp [putK, ha]
      have hk2 : putK a q false = a.length := by
        simp only [putHow, ha] at h
        simp at h
        omega
      have hab : a ++ b ≠ [] := by simp [ha]
      have hz : putK (a ++ b) q false = min (a.length + b.length) (512 - q.length) := by simp [putK, ha]
      rw [hk2, List.take_of_length_le (Nat.le_refl _)]
      have hy : putK b (q ++ a) false = min b.length (512 - (q.length + a.length)) := by
        by_cases hb : b = []
        · subst hb; simp [putK]
        · simp [putK, hb]
      refine ⟨by omega, fun hb => ?_, ?_⟩
      · have e1 : putHow b (q ++ a) false = if putK b (q ++ a) false < b.length then 2 else 1 := by simp [putHow, hb]
        have e2 : putHow (a ++ b) q false = if putK (a ++ b) q false < a.length + b.length then 2 else 1 := by simp [putHow, ha]
        rw [e1, e2]
        by_cases h5 : putK b (q ++ a) false < b.length
        · rw [if_pos h5, if_pos (by omega)]
        · rw [if_neg h5, if_neg (by omega)]
      · rw [List.append_assoc]
        congr 1
        have : putK (a ++ b) q false = a.length + putK b (q ++ a) false := by omega
        rw [this, List.take_length_add_append]

theorem join_cut {a b q : List Int} {sr : Bool} (h : ¬ putHow a q sr = 1) :
    putK a q sr = putK (a ++ b) q sr ∧ putHow a q sr = putHow (a ++ b) q sr ∧ q ++ a.take (putK a q sr) = q ++ (a ++ b).take (putK (a ++ b) q sr) := by
  have ha : a ≠ [] := by intro e; subst e; simp [putHow] at h
  cases sr with
  | true => simp [putK, putHow, ha]
  | false =>
    have hk : putK a q false = min a.length (512 - q.length) := by simp [putK, ha]
    have hz : putK (a ++ b) q false = min (a.length + b.length) (512 - q.length) := by simp [putK, ha]
    have hlt : putK a q false < a.length := by
      refine Decidable.byContradiction fun hh => h ?_
      simp [putHow, ha, hh]
    have e : putK (a ++ b) q false = putK a q false := by omega
    refine ⟨e.symm, ?_, ?_⟩
    · simp only [putHow, ha, hlt, e]
      simp [ha]
      omega
    · rw [e, List.take_append_of_le_length (by omega)]

theorem takeK_two {q : List Int} {m n : Int} (hm : 1 ≤ m) (hn : 1 ≤ n) : takeK m q + takeK n (q.drop (takeK m q)) = takeK (m + n) q ∧
    q.take (takeK m q) ++ (q.drop (takeK m q)).take (takeK n (q.drop (takeK m q))) = q.take (takeK (m + n) q) ∧ (q.drop (takeK m q)).drop (takeK n (q.drop (takeK m q))) = q.drop (takeK (m + n) q) := by
  have e1 : takeK m q = min m.toNat q.length := by unfold takeK; rw [if_neg (by omega)]
  have e2 : takeK n (q.drop (takeK m q)) = min n.toNat (q.length - takeK m q) := by unfold takeK; rw [if_neg (by omega)]; simp
  have e3 : takeK (m + n) q = min (m + n).toNat q.length := by unfold takeK; rw [if_neg (by omega)]
  have e4 : takeK m q + takeK n (q.drop (takeK m q)) = takeK (m + n) q := by omega
  refine ⟨e4, ?_, ?_⟩
  · rw [← e4, List.take_add]
  · rw [← e4, List.drop_drop]

end Go.Proofs.Ytnfpjholmidnbaa
