/- append of bytes to what is the call's own. No condition. -/
import Derived.Test.YtnfpjholmidnbaaActs
import Derived.Maps.AppendAt
import Derived.Laws.OwnMore
namespace Go.Proofs.Ytnfpjholmidnbaa
open Go.RowKit

theorem addr_add (b o j : Nat) : (⟨b, o, none⟩ : Addr).add j = ⟨b, o + j, none⟩ := by
  unfold Addr.add; split
  · rename_i h; subst h; rfl
  · rfl

/-- the head of a slice -/
theorem BSl.upto {w : World} {da : Option Addr} {dc : Nat} {xs : List Int} (h : BSl w (.slice da xs.length dc) xs) (n : Nat) (hn : n ≤ xs.length) : BSl w (.slice da n dc) (xs.take n) := by
  obtain ⟨a, c, hv, h1, h2, h3, h4⟩ := h
  cases hv
  have e : (xs.take n).length = n := by simp; omega
  refine ⟨_, _, by rw [e], by omega, by omega, by omega, fun hne => ?_⟩
  obtain ⟨b, o, rfl, hc⟩ := h4 (by intro e; simp [e] at hne)
  refine ⟨b, o, rfl, fun j hj => ?_⟩
  rw [e] at hj
  rw [hc j (by omega), List.getElem?_take, if_pos hj]

theorem BSl.capmax {w : World} {da : Option Addr} {n dc : Nat} {xs : List Int} (h : BSl w (.slice da n dc) xs) : dc ≤ 9223372036854775807 := by
  obtain ⟨a, c, hv, h1, h2, _⟩ := h
  cases hv; exact h2

theorem bsl_nil_of (w : World) (ao : Option Addr) (n c : Nat) (hn : n = 0) (hc : c ≤ 9223372036854775807) : BSl w (.slice ao n c) [] := by
  subst hn
  exact ⟨ao, c, rfl, Nat.zero_le _, hc, by simp, fun h => absurd rfl h⟩

theorem run_append_none' {P : Program} {w : World} (base : Nat) (t ty e : TypeId) (i : TypeInfo) (size c : Nat) (ht : P.underlying t = some (.slice e)) (hi : P.info? e = some i)
    (v : Value) (n : Nat) (xs : List Value) (hown : w.ownsRow base e size v n xs) :
    (Builtin.append_ #[t, t] ty #[v, .slice none 0 c]).run P w = .ok v w := by
  rcases hown.2 with ⟨rfl, rfl⟩ | ⟨g, cap, cur, rfl, _, _, hnc, _⟩
  · simp [Builtin.append_, run_underlying ht, sizeOf, typeInfo, hi, Builtin.lenOf, Builtin.firstCells]
  · simp [Builtin.append_, run_underlying ht, sizeOf, typeInfo, hi, Builtin.lenOf, Builtin.firstCells, hnc, storeCells]

theorem wpList_append_bytes {w : World} {ops : Array Oper} {rest : List Oper} {o : Oper} {a : Act} {Q : Exit → Act → World → Prop} (hgd : o.guard = none) (s x : Operand)
    (ho : o.op = .call { callee := .builtin .append, args := #[s, x], argTypes := #[34, 34] }) (base : Nat) (v y : Value) (xs ys : List Int) (hs : a.eval s = v) (hx : a.eval x = y)
    (hown : Own w base v xs) (hy : BSl w y ys) (hlen : xs.length + ys.length ≤ 140737488355328) (hbase : base ≤ w.heap.size)
    (h : ∀ v' w', Own w' base v' (xs ++ ys) → Fr (fun k => v.ownBlock = some k) w w' → (v'.ownBlock = v.ownBlock ∨ v'.ownBlock = some w.heap.size) → wpList Try.prog ops Q rest (a.put o.dst v') w') :
    wpList Try.prog ops Q (o :: rest) a w := by
  obtain ⟨i0, hi, hz0, hz1, hz2⟩ := info_parts infoU8
  obtain ⟨ao, c, rfl, l1, l2, l3, hc⟩ := hy
  cases ao with
  | none =>
    have hys : ys = [] := by
      refine Decidable.byContradiction fun hne => ?_
      obtain ⟨b, o, h0, _⟩ := hc hne; cases h0
    subst hys
    refine wpList_plain hgd fun K hK => ?_
    have hrun := run_append_none' (P := Try.prog) base 34 o.type 5 i0 1 c Try.underlying34 hi v xs.length _ hown.1
    unfold Oper.wp
    simp only [List.length_nil] at hx
    simp [execOp, ho, resolve, invoke, builtin, hs, hx, hrun, Result.andThen]
    exact hK _ _ (h v w (by simpa using hown) (Fr.refl _ _) (.inl rfl))
  | some ad =>
    have hcells : ∀ j u, (ys.map (Value.int .u8))[j]? = some u → w.cell? (ad.add j) = some u := by
      intro j u hj
      have hjl : j < ys.length := by
        refine Decidable.byContradiction fun hh => ?_
        rw [List.getElem?_eq_none (by simp; omega)] at hj; cases hj
      obtain ⟨b, o, h0, hcc⟩ := hc (by intro e; subst e; simp at hjl)
      cases h0
      have := hcc j hjl
      rw [List.getElem?_map, List.getElem?_eq_getElem hjl] at hj
      simp only [Option.map_some, Option.some.injEq] at hj
      rw [List.getElem?_eq_getElem hjl] at this
      simp only [Option.getD_some] at this
      rw [← hj, addr_add]
      exact this
    refine wpList_append_own_at w hgd s x 34 ho base 5 i0 (.int .u8 0) 1 1 Try.underlying34 hi hz0 hz1 hz2 rfl (by decide) v xs.length _ hs hown.1 ad ys.length c (ys.map (Value.int .u8)) hx (by simp) hcells
      (by intro u hu; obtain ⟨z, _, rfl⟩ := List.mem_map.1 hu; rfl) (by unfold maxLen; omega) (by omega) hbase ?_
    intro v' w' h2 h3 h4 h5
    refine h v' w' ⟨?_, fun he => ?_⟩ ((Fr.refl _ w).grown h3 (fun k hk _ => hk)) h5
    · rw [List.length_append, List.map_append]; exact h2
    · have hxe := (List.append_eq_nil_iff.1 he).1
      have hye := (List.append_eq_nil_iff.1 he).2
      exact h4.2 ⟨hown.2 hxe, by rw [hye]; rfl⟩

end Go.Proofs.Ytnfpjholmidnbaa
