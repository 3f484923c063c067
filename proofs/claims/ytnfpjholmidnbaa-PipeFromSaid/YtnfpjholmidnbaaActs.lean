/- Acts that came in: the cells of one of them. No condition. -/
import Derived.Test.YtnfpjholmidnbaaOpenP
import Derived.Test.YtnfpjholmidnbaaSame
namespace Go.Proofs.Ytnfpjholmidnbaa
open Go.RowKit

theorem Acts.len {w : World} {v : Value} {xs : List ActD} (h : Acts w v xs) : xs.length * 48 ≤ 140737488351232 := by
  obtain ⟨_, _, _, _, _, h, _⟩ := h; exact h
theorem Acts.shape {w : World} {v : Value} {xs : List ActD} (h : Acts w v xs) : ∃ ao c, v = .slice ao xs.length c := by
  obtain ⟨ao, c, rfl, _⟩ := h; exact ⟨ao, c, rfl⟩

/-- act number k, in a world that differs above only -/
theorem Acts.get {w : World} {ao : Option Addr} {n c : Nat} {xs : List ActD} (h : Acts w (.slice ao n c) xs) (k : Nat) (hk : k < xs.length) :
    ∃ b o, ao = some ⟨b, o, none⟩ ∧ b < w.heap.size ∧ ∃ da dc, BSl w (.slice da xs[k].data.length dc) xs[k].data ∧ I64 xs[k].kind ∧ I64 xs[k].which ∧ I64 xs[k].n ∧
      ∀ w', Fr No w w' → w'.cell? ⟨b, o + k * 4, none⟩ = some (.int .i64 xs[k].kind) ∧ w'.cell? ⟨b, o + k * 4 + 1, none⟩ = some (.int .i64 xs[k].which) ∧ w'.cell? ⟨b, o + k * 4 + 2, none⟩ = some (.slice da xs[k].data.length dc) ∧
        w'.cell? ⟨b, o + k * 4 + 3, none⟩ = some (.int .i64 xs[k].n) := by
  obtain ⟨ao', c', hv, _, _, _, hc⟩ := h
  cases hv
  obtain ⟨b, o, rfl, hc2⟩ := hc (by intro e; simp [e] at hk)
  obtain ⟨cs, _, hcc, v, rfl, hb, h1, h2, h3, _⟩ := hc2 k xs[k] (List.getElem?_eq_getElem hk)
  obtain ⟨da, dc, rfl⟩ := hb.shape
  have e0 := hcc 0 (by omega)
  have e1 := hcc 1 (by omega)
  have e2 := hcc 2 (by omega)
  have e3 := hcc 3 (by omega)
  simp at e0 e1 e2 e3
  exact ⟨b, o, rfl, World.block_lt_of_cell? w _ e0, da, dc, hb, h1, h2, h3, fun w' hf => ⟨hf.cell e0 id, hf.cell e1 id, hf.cell e2 id, hf.cell e3 id⟩⟩

theorem BSl.cap {w : World} {da : Option Addr} {n dc : Nat} {xs : List Int} (h : BSl w (.slice da n dc) xs) : n ≤ dc := by
  obtain ⟨a, c, hv, h1, _⟩ := h
  cases hv; exact h1

/-- the rest of a slice -/
theorem BSl.from {w : World} {da : Option Addr} {dc : Nat} {xs : List Int} (h : BSl w (.slice da xs.length dc) xs) (n : Nat) (hn : n ≤ xs.length) :
    BSl w (.slice (da.map (fun x => x.add n)) (xs.length - n) (dc - n)) (xs.drop n) := by
  obtain ⟨a, c, hv, h1, h2, h3, h4⟩ := h
  cases hv
  refine ⟨_, _, by rw [List.length_drop], by simp; omega, by omega, by simp; omega, fun hne => ?_⟩
  obtain ⟨b, o, rfl, hc⟩ := h4 (by intro e; simp [e] at hne)
  refine ⟨b, o + n, by simp [Addr.add], fun j hj => ?_⟩
  simp at hj
  have := hc (n + j) (by omega)
  rw [Nat.add_assoc, this]
  simp

end Go.Proofs.Ytnfpjholmidnbaa
