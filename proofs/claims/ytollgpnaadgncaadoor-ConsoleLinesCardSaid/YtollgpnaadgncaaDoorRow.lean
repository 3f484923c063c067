/- Rows of numbers that a call owns: read, store, append of one, kept apart. No condition. -/
import Derived.Test.YtollgpnaadgncaaDoorCopy
import Derived.OwnWalk
import Derived.ArgAppend
import Derived.Maps.AppendAt
namespace Go.Proofs.YtollgpnaadgncaaDoor
open Go.RowKit

/-- v is a row of the call's own (blocks from base on), of element type e, holding the numbers xs -/
abbrev Row (e : TypeId) (q : IntKind) (w : World) (base : Nat) (v : Value) (xs : List Int) : Prop := w.ownsRow base e 1 v xs.length (xs.map (Value.int q))

section
variable {e : TypeId} {q : IntKind}

theorem row_fr {n : Nat} {cs : List Value} {S : Nat → Prop} {w w' : World} {base : Nat} {v : Value} (h : w.ownsRow base e 1 v n cs) (hf : Fr S w w') (hn : ∀ k, v.ownBlock = some k → ¬ S k) : w'.ownsRow base e 1 v n cs := by
  obtain ⟨hl, h | ⟨g, cap, cur, rfl, hb, hg, rest⟩⟩ := h
  · exact ⟨hl, .inl h⟩
  · exact ⟨hl, .inr ⟨g, cap, cur, rfl, hb, (hf.block g (lt_of_block hg) (hn g rfl)).trans hg, rest⟩⟩

theorem row_shape {n : Nat} {cs : List Value} {w : World} {base : Nat} {v : Value} (h : w.ownsRow base e 1 v n cs) : ∃ ao c, v = .slice ao n c ∧ n ≤ c ∧ (ao = none → n = 0 ∧ c = 0) := by
  rcases h.2 with ⟨rfl, rfl⟩ | ⟨g, cap, cur, rfl, _, _, h1, _⟩
  · exact ⟨none, 0, rfl, Nat.le_refl _, fun _ => ⟨rfl, rfl⟩⟩
  · exact ⟨_, _, rfl, h1, fun h => by cases h⟩

/-- cell number k of a row -/
theorem row_at {n : Nat} {cs : List Value} {w : World} {base : Nat} {ao : Option Addr} {c : Nat} (h : w.ownsRow base e 1 (.slice ao n c) n cs) (k : Nat) (u : Value) (hk : cs[k]? = some u) :
    ∃ g, ao = some ⟨g, 0, none⟩ ∧ base ≤ g ∧ g < w.heap.size ∧ w.cell? ⟨g, k, none⟩ = some u ∧ w.frozen? ⟨g, k, none⟩ = false ∧ ∀ y : Value, (w.setCell ⟨g, k, none⟩ y).ownsRow base e 1 (.slice ao n c) n (cs.set k y) := by
  have hkl : k < cs.length := (List.getElem?_eq_some_iff.1 hk).1
  obtain ⟨hl, h | ⟨g, cap, cur, hv, hb, hg, h1, h2, h3, h4⟩⟩ := h
  · have := h.2; omega
  · cases hv
    have hc : cur.toList[k]? = some u := by
      rw [← h4, List.getElem?_take] at hk
      split at hk
      · exact hk
      · cases hk
    refine ⟨g, rfl, hb, lt_of_block hg, ?_, frozen_of_row w g k cur e hg, fun y => ?_⟩
    · rw [cell_of_row w g k cur e (0, 0) hg]; simpa using hc
    · have hB : Blk w g cur.toList e := by show w.heap[g]? = _; simpa using hg
      have hB2 := hB.set k y
      refine ⟨by simpa using hl, .inr ⟨g, c, (cur.toList.set k y).toArray, rfl, hb, hB2, h1, h2, by simpa using h3, ?_⟩⟩
      rw [List.take_set, h4]

/-- what a row holds can be read -/
theorem row_cell {n : Nat} {cs : List Value} {w : World} {base g c : Nat} (h : w.ownsRow base e 1 (.slice (some ⟨g, 0, none⟩) n c) n cs) (k : Nat) (hk : k < cs.length) : w.cell? ⟨g, k, none⟩ = some cs[k] := by
  obtain ⟨g', hg, _, _, hc, _⟩ := row_at h k cs[k] (List.getElem?_eq_getElem hk)
  cases hg; exact hc

/-- two rows of unlike element types lie in two blocks -/
theorem row_apart {e' : TypeId} {n n' : Nat} {cs cs' : List Value} {w : World} {base base' : Nat} {v v' : Value} (h : w.ownsRow base e 1 v n cs) (h' : w.ownsRow base' e' 1 v' n' cs') (hne : e ≠ e') : ∀ k, v.ownBlock = some k → v'.ownBlock ≠ some k := by
  intro k hk hk'
  rcases h.2 with ⟨rfl, _⟩ | ⟨g, cap, cur, rfl, _, hg, _⟩
  · simp [Value.ownBlock] at hk
  · rcases h'.2 with ⟨rfl, _⟩ | ⟨g', cap', cur', rfl, _, hg', _⟩
    · simp [Value.ownBlock] at hk'
    · cases hk; cases hk'
      rw [hg] at hg'
      cases hg'
      exact hne rfl

/-- append of one: only a block that both share has changed -/
theorem wpList_append_one {P : Program} {w : World} {ops : Array Oper} {rest : List Oper} {o : Oper} {a : Act} {Q : Exit → Act → World → Prop} (hgd : o.guard = none) (s x : Operand) (t : TypeId)
    (ho : o.op = .call { callee := .builtin .append, args := #[s, x], argTypes := #[t, t] }) (base : Nat) (e : TypeId) (i : TypeInfo) (z : Value) (bytes : Nat) (ht : P.underlying t = some (.slice e)) (hi : P.info? e = some i) (hz : i.zero = some z)
    (hsize : i.size = 1) (hby : i.bytes = bytes) (hzs : z.cells.size = 1) (v : Value) (n : Nat) (xs : List Value) (hs : a.eval s = v) (hown : w.ownsRow base e 1 v n xs)
    (g c : Nat) (u : Value) (hx : a.eval x = .slice (some ⟨g, 0, none⟩) 1 c) (hu : w.cell? ⟨g, 0, none⟩ = some u) (h1 : u.oneCell' = true) (h63 : n + 1 ≤ maxLen) (hbytes : (n + 1) * bytes ≤ 140737488355328) (hbase : base ≤ w.heap.size)
    (h : ∀ v' w', w'.ownsRow base e 1 v' (n + 1) (xs ++ [u]) → Fr (fun k => v.ownBlock = some k ∧ v'.ownBlock = some k) w w' → (∀ k, v'.ownBlock = some k → v.ownBlock = some k ∨ w.heap.size ≤ k) → wpList P ops Q rest (a.put o.dst v') w') :
    wpList P ops Q (o :: rest) a w := by
  have hnews : ∀ j y, [u][j]? = some y → w.cell? ((⟨g, 0, none⟩ : Addr).add j) = some y := by
    intro j y hj
    match j, hj with
    | 0, hj => simp at hj; subst hj; simpa [Addr.add] using hu
  have hone : ∀ y ∈ [u], y.oneCell' = true := by intro y hy; simp at hy; subst hy; exact h1
  have grow : ∀ v' w', w'.ownsRow w.heap.size e 1 v' (n + 1) (xs ++ [u]) → w.grownBy w' none → wpList P ops Q rest (a.put o.dst v') w' := fun v' w' h2 h3 => by
    refine h v' w' ?_ ((Fr.refl _ w).grown h3 (fun k hk => by cases hk)) (fun k hk => .inr (h2.lt k hk).1)
    obtain ⟨hl, hh | ⟨g', cap', cur', hv, hg', rest'⟩⟩ := h2
    · exact ⟨hl, .inl hh⟩
    · exact ⟨hl, .inr ⟨g', cap', cur', hv, Nat.le_trans hbase hg', rest'⟩⟩
  rcases hown.2 with ⟨rfl, rfl⟩ | ⟨G, cap, cur, rfl, hbg, hg, hnc, hcm, hcs, htake⟩
  · have hx0 : xs = [] := List.eq_nil_of_length_eq_zero (by simpa using hown.1)
    subst hx0
    exact wpList_append_grows w hgd s x t ho e i z 1 bytes ht hi hz hsize hby hzs (by decide) none 0 0 [] hs (fun _ => ⟨rfl, rfl⟩) (by simp) (fun b hb => by cases hb) ⟨g, 0, none⟩ 1 c [u] hx (by simp) hnews hone (by omega) h63 hbytes grow
  · by_cases hroom : n + 1 ≤ cap
    · refine wpList_append_fits w hgd s x t ho base e i 1 ht hi hsize G n cap xs hs hown ⟨g, 0, none⟩ 1 c [u] hx (by simp) hnews hone hroom ?_
      intro w' h2 h3
      exact h _ w' h2 ((Fr.refl _ w).grown h3 (fun k hk _ => by cases hk; exact ⟨rfl, rfl⟩)) (fun k hk => .inl hk)
    · refine wpList_append_grows w hgd s x t ho e i z 1 bytes ht hi hz hsize hby hzs (by decide) (some ⟨G, 0, none⟩) n cap xs hs (fun hh => by cases hh) hown.1 (fun b hb j y hj => ?_) ⟨g, 0, none⟩ 1 c [u] hx (by simp) hnews hone (by omega) h63 hbytes grow
      cases hb
      exact hown.cells rfl j y hj

end
end Go.Proofs.YtollgpnaadgncaaDoor
