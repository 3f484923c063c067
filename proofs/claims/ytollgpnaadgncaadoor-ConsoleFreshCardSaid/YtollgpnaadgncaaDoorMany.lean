/- Several slices of the call's own, each in a block of its own, for hartixlaw0.Free. No condition. -/
import Derived.Test.YtollgpnaadgncaaDoorFree
import Derived.Test.YtollgpnaadgncaaDoorLend
namespace Go.Proofs.YtollgpnaadgncaaDoor
open Go.RowKit

/-- the values vs are slices of bytes, in blocks from base on and below B, each in one of its own; they hold ls -/
def Many (w : World) (base B : Nat) (vs : List Value) (ls : List (List Int)) : Prop :=
  vs.length = ls.length ∧ (∀ (j : Nat) (v : Value), vs[j]? = some v → Row 5 .u8 w base v (ls[j]?.getD [])) ∧ Distinct vs ∧ (∀ v ∈ vs, ∀ k, v.ownBlock = some k → k < B)

theorem Many.nil (w : World) (base B : Nat) : Many w base B [] [] := ⟨rfl, fun j v h => by simp at h, fun i j v v' _ h => by simp at h, fun v h => by simp at h⟩

theorem Many.fr {S : Nat → Prop} {w w' : World} {base B : Nat} {vs : List Value} {ls : List (List Int)} (h : Many w base B vs ls) (hf : Fr S w w') (hn : ∀ v ∈ vs, ∀ k, v.ownBlock = some k → ¬ S k) : Many w' base B vs ls :=
  ⟨h.1, fun j v hv => row_fr (h.2.1 j v hv) hf (fun k hk => hn v (List.mem_of_getElem? hv) k hk), h.2.2.1, h.2.2.2⟩
theorem Many.no {w w' : World} {base B : Nat} {vs : List Value} {ls : List (List Int)} (h : Many w base B vs ls) (hf : Fr No w w') : Many w' base B vs ls := h.fr hf (fun _ _ _ _ => id)
theorem Many.up {w : World} {base B C : Nat} {vs : List Value} {ls : List (List Int)} (h : Many w base B vs ls) (hB : B ≤ C) : Many w base C vs ls := ⟨h.1, h.2.1, h.2.2.1, fun v hv k hk => Nat.lt_of_lt_of_le (h.2.2.2 v hv k hk) hB⟩
theorem Many.low {w : World} {base B : Nat} {vs : List Value} {ls : List (List Int)} (h : Many w base B vs ls) : ∀ v ∈ vs, ∀ k, v.ownBlock = some k → base ≤ k := by
  intro v hv k hk
  obtain ⟨j, hj⟩ := List.mem_iff_getElem?.1 hv
  exact ((h.2.1 j v hj).lt k hk).1

theorem row_base {e : TypeId} {q : IntKind} {w : World} {base base' : Nat} {v : Value} {xs : List Int} (h : Row e q w base v xs) (hb : base' ≤ base) : Row e q w base' v xs := by
  obtain ⟨hl, h1 | ⟨g, cap, cur, hv, hg, rest⟩⟩ := h
  · exact ⟨hl, .inl h1⟩
  · exact ⟨hl, .inr ⟨g, cap, cur, hv, Nat.le_trans hb hg, rest⟩⟩

/-- one more -/
theorem Many.add {w : World} {base B C b : Nat} {vs : List Value} {ls : List (List Int)} {v : Value} {xs : List Int} (h : Many w base B vs ls) (hr : Row 5 .u8 w b v xs) (hb : base ≤ b) (hd : ∀ u ∈ vs, ∀ k, u.ownBlock = some k → v.ownBlock ≠ some k) (hC : ∀ k, v.ownBlock = some k → k < C) (hBC : B ≤ C) : Many w base C (vs ++ [v]) (ls ++ [xs]) := by
  refine ⟨by simp [h.1], fun j u hu => ?_, fun i j u u' hij hi hj => ?_, fun u hu k hk => ?_⟩
  · by_cases hj : j < vs.length
    · rw [List.getElem?_append_left hj] at hu
      rw [List.getElem?_append_left (by rw [← h.1]; exact hj)]
      exact h.2.1 j u hu
    · have hjl : j = vs.length := by
        have := (List.getElem?_eq_some_iff.1 hu).1
        simp at this; omega
      subst hjl
      rw [List.getElem?_append_right (Nat.le_refl _), Nat.sub_self] at hu
      simp at hu
      subst hu
      rw [h.1, List.getElem?_append_right (Nat.le_refl _), Nat.sub_self]
      exact row_base hr hb
  · have hjl : j < vs.length + 1 := by simpa using (List.getElem?_eq_some_iff.1 hj).1
    rw [List.getElem?_append_left (by omega)] at hi
    by_cases hj2 : j < vs.length
    · rw [List.getElem?_append_left hj2] at hj
      exact h.2.2.1 i j u u' hij hi hj
    · have e : j = vs.length := by omega
      subst e
      rw [List.getElem?_append_right (Nat.le_refl _), Nat.sub_self] at hj
      simp at hj
      subst hj
      exact hd u (List.mem_of_getElem? hi)
  · rcases List.mem_append.1 hu with hu | hu
    · exact Nat.lt_of_lt_of_le (h.2.2.2 u hu k hk) hBC
    · rw [List.mem_singleton.1 hu] at hk; exact hC k hk

/-- one more, in a new block -/
theorem Many.snoc {w : World} {base B C b : Nat} {vs : List Value} {ls : List (List Int)} {v : Value} {xs : List Int} (h : Many w base B vs ls) (hr : Row 5 .u8 w b v xs) (hb : base ≤ b) (hn : ∀ k, v.ownBlock = some k → B ≤ k ∧ k < C) (hBC : B ≤ C) : Many w base C (vs ++ [v]) (ls ++ [xs]) :=
  h.add hr hb (fun u hu k hk hk2 => by have := h.2.2.2 u hu k hk; have := (hn k hk2).1; omega) (fun k hk => (hn k hk).2) hBC

/-- two more, in new blocks -/
theorem Many.snoc2 {w : World} {base B C b : Nat} {vs : List Value} {ls : List (List Int)} {v1 v2 : Value} {xs1 xs2 : List Int} (h : Many w base B vs ls) (r1 : Row 5 .u8 w b v1 xs1) (r2 : Row 5 .u8 w b v2 xs2) (hb : base ≤ b)
    (n1 : ∀ k, v1.ownBlock = some k → B ≤ k ∧ k < C) (n2 : ∀ k, v2.ownBlock = some k → B ≤ k ∧ k < C) (hd : ∀ k, v1.ownBlock = some k → v2.ownBlock ≠ some k) (hBC : B ≤ C) : Many w base C (vs ++ [v1] ++ [v2]) (ls ++ [xs1] ++ [xs2]) := by
  refine (h.snoc r1 hb n1 hBC).add r2 hb (fun u hu k hk hk2 => ?_) (fun k hk => (n2 k hk).2) (Nat.le_refl _)
  rcases List.mem_append.1 hu with hu | hu
  · have := h.2.2.2 u hu k hk
    have := (n2 k hk2).1
    omega
  · rw [List.mem_singleton.1 hu] at hk
    exact hd k hk hk2

theorem Many.get {w : World} {base B : Nat} {vs : List Value} {ls : List (List Int)} (h : Many w base B vs ls) (j : Nat) (hj : j < vs.length) : ∃ xs, ls[j]? = some xs ∧ Row 5 .u8 w base vs[j] xs := by
  have hjl : j < ls.length := by rw [← h.1]; exact hj
  have := h.2.1 j vs[j] (List.getElem?_eq_getElem hj)
  rw [List.getElem?_eq_getElem hjl] at this
  exact ⟨ls[j], List.getElem?_eq_getElem hjl, this⟩

theorem Lent.row {w : World} {base : Nat} {v : Value} {xs : List Int} (h : Lent w base v xs) (hl : xs.length ≤ 140737488355328) : Row 5 .u8 w base v xs := by
  obtain ⟨g, hb, rfl, hk⟩ := h
  refine ⟨by simp, .inr ⟨g, xs.length + 64, ((xs ++ marks).map (Value.int .u8)).toArray, rfl, hb, hk, by omega, by unfold maxLen; omega, ?_, ?_⟩⟩
  · simp [marks_length]
  · rw [Nat.mul_one, List.map_append, List.take_left' (by simp)]

/-- hartixlaw0.Free of several slices -/
theorem free_many (vs : List Value) (ls : List (List Int)) (lv : Value) (base0 base B : Nat) (w : World) (hl : w.ownsRow base0 22 1 lv vs.length vs) (h : Many w base B vs ls) (hbase : base ≤ w.heap.size) (hN : vs.length ≤ 1000) (hX : ∀ l ∈ ls, l.length ≤ 100000000000) :
    Calls Tryd.prog 21 #[lv] w fun e w' => e = .returned (.bool true) ∧ Fr (SBlk vs) w w' := by
  refine free_calls vs (fun j => ls[j]?.getD []) lv base0 base w hl h.2.1 h.2.2.1 hbase (by omega) (fun j v hv => ?_)
  have hj : j < ls.length := by rw [← h.1]; exact (List.getElem?_eq_some_iff.1 hv).1
  have := hX ls[j] (List.getElem_mem hj)
  rw [List.getElem?_eq_getElem hj]
  simp only [Option.getD_some]
  omega

/-- hartixlaw0.Free of eight slices that lie as ConsoleFroms has them -/
theorem free_eight (wE : World) (v1 v2 v3 v4 v5 v6 v7 v8 : Value) (x1 x2 x3 x4 x5 x6 x7 x8 : List Int) (B0 B1 B2 C2 B3 C3 B4 C4 B5 B6 : Nat)
    (r1 : Row 5 .u8 wE B0 v1 x1) (r2 : Row 5 .u8 wE B1 v2 x2) (r3 : Row 5 .u8 wE C2 v3 x3) (r4 : Row 5 .u8 wE C2 v4 x4) (r5 : Row 5 .u8 wE C3 v5 x5) (r6 : Row 5 .u8 wE C3 v6 x6) (r7 : Row 5 .u8 wE C4 v7 x7) (r8 : Row 5 .u8 wE B5 v8 x8)
    (n1 : ∀ k, v1.ownBlock = some k → k < B1) (n2 : ∀ k, v2.ownBlock = some k → k < B2) (n3 : ∀ k, v3.ownBlock = some k → k < B3) (n4 : ∀ k, v4.ownBlock = some k → k < B3) (n5 : ∀ k, v5.ownBlock = some k → k < B4) (n6 : ∀ k, v6.ownBlock = some k → k < B4) (n7 : ∀ k, v7.ownBlock = some k → k < B5) (n8 : ∀ k, v8.ownBlock = some k → k < B6)
    (h34 : ∀ k, v3.ownBlock = some k → v4.ownBlock ≠ some k) (h56 : ∀ k, v5.ownBlock = some k → v6.ownBlock ≠ some k)
    (o1 : B0 ≤ B1) (o2 : B1 ≤ B2) (o3 : B2 ≤ C2) (o4 : C2 ≤ B3) (o5 : B3 ≤ C3) (o6 : C3 ≤ B4) (o7 : B4 ≤ C4) (o8 : C4 ≤ B5) (o9 : B5 ≤ B6) (o10 : B0 ≤ wE.heap.size)
    (hX : ∀ l ∈ [x1, x2, x3, x4, x5, x6, x7, x8], l.length ≤ 100000000000) :
    Calls Tryd.prog 21 #[.slice (some ⟨wE.heap.size, 0, none⟩) 8 8] (wE.alloc (.cells #[v1, v2, v3, v4, v5, v6, v7, v8] 22)) fun e w' => e = .returned (.bool true) ∧ Fr (fun k => B0 ≤ k ∧ (k < B2 ∨ C2 ≤ k)) wE w' := by
  generalize hWL : wE.alloc _ = WL
  have FL : Fr No wE WL := by rw [← hWL]; exact (Fr.refl No wE).alloc _
  have hBL : Blk WL wE.heap.size [v1, v2, v3, v4, v5, v6, v7, v8] 22 := by rw [← hWL]; exact Blk.new wE [v1, v2, v3, v4, v5, v6, v7, v8] _
  clear hWL
  have q1 := row_fr r1 FL (fun _ _ => id)
  have q2 := row_fr r2 FL (fun _ _ => id)
  have q3 := row_fr r3 FL (fun _ _ => id)
  have q4 := row_fr r4 FL (fun _ _ => id)
  have q5 := row_fr r5 FL (fun _ _ => id)
  have q6 := row_fr r6 FL (fun _ _ => id)
  have q7 := row_fr r7 FL (fun _ _ => id)
  have q8 := row_fr r8 FL (fun _ _ => id)
  have m2 := ((Many.nil WL B0 B0).snoc (C := B1) q1 (Nat.le_refl _) (fun k hk => ⟨(r1.lt k hk).1, n1 k hk⟩) o1).snoc (C := B2) q2 o1 (fun k hk => ⟨(r2.lt k hk).1, n2 k hk⟩) o2
  have m4 := (m2.up o3).snoc2 (C := B3) q3 q4 (by omega) (fun k hk => ⟨(r3.lt k hk).1, n3 k hk⟩) (fun k hk => ⟨(r4.lt k hk).1, n4 k hk⟩) h34 o4
  have m6 := (m4.up o5).snoc2 (C := B4) q5 q6 (by omega) (fun k hk => ⟨(r5.lt k hk).1, n5 k hk⟩) (fun k hk => ⟨(r6.lt k hk).1, n6 k hk⟩) h56 o6
  have m8 := ((m6.up o7).snoc (C := B5) q7 (by omega) (fun k hk => ⟨(r7.lt k hk).1, n7 k hk⟩) o8).snoc (C := B6) q8 (by omega) (fun k hk => ⟨(r8.lt k hk).1, n8 k hk⟩) o9
  have hm : Many WL B0 B6 [v1, v2, v3, v4, v5, v6, v7, v8] [x1, x2, x3, x4, x5, x6, x7, x8] := m8
  have hown : WL.ownsRow wE.heap.size 22 1 (.slice (some ⟨wE.heap.size, 0, none⟩) 8 8) 8 [v1, v2, v3, v4, v5, v6, v7, v8] :=
    ⟨rfl, .inr ⟨_, 8, #[v1, v2, v3, v4, v5, v6, v7, v8], rfl, Nat.le_refl _, hBL, Nat.le_refl _, by unfold maxLen; omega, rfl, rfl⟩⟩
  refine (free_many [v1, v2, v3, v4, v5, v6, v7, v8] _ _ _ _ _ WL hown hm (Nat.le_trans o10 FL.size) (by simp) hX).mono ?_
  rintro e w' ⟨he, hf⟩
  refine ⟨he, (FL.mono (S' := fun k => B0 ≤ k ∧ (k < B2 ∨ C2 ≤ k)) (fun _ h => h.elim)).trans (hf.mono (fun k hk => ?_)) (fun _ _ h => h)⟩
  obtain ⟨v, hv, hk⟩ := hk
  refine ⟨hm.low v hv k hk, ?_⟩
  simp only [List.mem_cons, List.not_mem_nil, or_false] at hv
  rcases hv with rfl | rfl | rfl | rfl | rfl | rfl | rfl | rfl
  · exact .inl (by have := n1 k hk; omega)
  · exact .inl (n2 k hk)
  · exact .inr (r3.lt k hk).1
  · exact .inr (r4.lt k hk).1
  · exact .inr (by have := (r5.lt k hk).1; omega)
  · exact .inr (by have := (r6.lt k hk).1; omega)
  · exact .inr (by have := (r7.lt k hk).1; omega)
  · exact .inr (by have := (r8.lt k hk).1; omega)

end Go.Proofs.YtollgpnaadgncaaDoor
