/- hartixlaw0.CopyBytes and its like in the references: new memory that reads alike. No condition. -/
import Derived.Test.YtnfpjholmidnbaaBytes
namespace Go.Proofs.Ytnfpjholmidnbaa
open Go.RowKit

theorem infoU8 : (Try.prog.info? 5).map (fun i => (i.zero, i.size, i.bytes)) = some (some (.int .u8 0), 1, 1) := by kernel_rfl

/-- v is the call's own (in blocks from base on): nil if there is nothing in it. -/
def Own (w : World) (base : Nat) (v : Value) (xs : List Int) : Prop :=
  w.ownsRow base 5 1 v xs.length (xs.map (Value.int .u8)) ∧ (xs = [] → v = .slice none 0 0)

theorem Own.bsl {w : World} {base : Nat} {v : Value} {xs : List Int} (h : Own w base v xs) (hl : xs.length ≤ 140737488355328) : BSl w v xs := BSl.of_own h.1 hl
theorem Own.shape {w : World} {base : Nat} {v : Value} {xs : List Int} (h : Own w base v xs) : ∃ ao c, v = .slice ao xs.length c := by
  rcases h.1.2 with ⟨rfl, h0⟩ | ⟨g, cap, cur, rfl, _⟩
  · exact ⟨none, 0, by rw [h0]⟩
  · exact ⟨_, _, rfl⟩
theorem Own.lt {w : World} {base : Nat} {v : Value} {xs : List Int} (h : Own w base v xs) : ∀ k, v.ownBlock = some k → base ≤ k ∧ k < w.heap.size := h.1.lt

theorem own_row_fr {w w' : World} {base : Nat} {e : TypeId} {v : Value} {n : Nat} {xs : List Value} {S : Nat → Prop} (h : w.ownsRow base e 1 v n xs) (hf : Fr S w w') (hn : ∀ k, v.ownBlock = some k → ¬ S k) : w'.ownsRow base e 1 v n xs := by
  obtain ⟨hl, h | ⟨g, cap, cur, rfl, hb, hg, rest⟩⟩ := h
  · exact ⟨hl, .inl h⟩
  · exact ⟨hl, .inr ⟨g, cap, cur, rfl, hb, (hf.block g (lt_of_block hg) (hn g rfl)).trans hg, rest⟩⟩
theorem Own.base {w : World} {base base' : Nat} {v : Value} {xs : List Int} (h : Own w base v xs) (hb : base' ≤ base) : Own w base' v xs := by
  obtain ⟨⟨hl, h1 | ⟨g, cap, cur, hv, hg, rest⟩⟩, h2⟩ := h
  · exact ⟨⟨hl, .inl h1⟩, h2⟩
  · exact ⟨⟨hl, .inr ⟨g, cap, cur, hv, Nat.le_trans hb hg, rest⟩⟩, h2⟩
theorem Own.fr {w w' : World} {base : Nat} {v : Value} {xs : List Int} {S : Nat → Prop} (h : Own w base v xs) (hf : Fr S w w') (hn : ∀ k, v.ownBlock = some k → ¬ S k) : Own w' base v xs :=
  ⟨own_row_fr h.1 hf hn, h.2⟩

theorem one_new (w : World) (x : Value) (t : TypeId) : ∀ j u, [x][j]? = some u → (w.alloc (.cells #[x] t)).cell? ((⟨w.heap.size, 0, none⟩ : Addr).add j) = some u := by
  intro j u hj
  match j, hj with
  | 0, hj => simp at hj; subst hj; simp [Addr.add]
theorem one_cell_int (k : IntKind) (x : Int) : ∀ u ∈ [Value.int k x], u.oneCell' = true := by intro u hu; simp at hu; subst hu; rfl

theorem take_snoc_get (xs : List Int) (k : Nat) (h : k < xs.length) : xs.take (k + 1) = xs.take k ++ [xs[k]] := List.take_succ_eq_append_getElem h

set_option maxHeartbeats 1600000 in
theorem copyBytes_calls (xs : List Int) (v : Value) (w : World) (h1 : BSl w v xs) :
    Calls Try.prog 25 #[v] w fun e w' => ∃ v', e = .returned v' ∧ Own w' w.heap.size v' xs ∧ Below w.heap.size w w' := by
  obtain ⟨i0, hi, hz0, hz1, hz2⟩ := info_parts infoU8
  have H1 := Lib.hid h1
  obtain ⟨a1, c1, rfl, l1, m1, k1, r1⟩ := h1
  have HA := Lib.hid r1; clear r1
  go_enter Try.func25, Try.ntmps25
  go_wp2
  go_loopw [3, 4] (fun c i wr => ∃ k : Nat, k ≤ xs.length ∧ i = .int .i64 k ∧ wr.ownsRow w.heap.size 5 1 c k ((xs.take k).map (Value.int .u8)) ∧ (k = 0 → c = .slice none 0 0) ∧ Below w.heap.size w wr)
    (fun _ i _ => xs.length - (intOf i).toNat)
  case atStart => exact ⟨0, Nat.zero_le _, rfl, World.ownsRow_nil _ _ _ _, fun _ => rfl, Below.refl _ _⟩
  case round =>
    obtain ⟨k, hk, rfl, hown, hnil, hbel⟩ := hrel
    by_cases hlt : k < xs.length
    · obtain ⟨b1, o1, rfl, ca⟩ := HA.out (by intro h; simp [h] at hlt)
      have hcell := ca k hlt
      have hb1 := World.block_lt_of_cell? w _ hcell
      have hcell := (hbel.cell (p := ⟨b1, o1 + k, none⟩) hb1).trans hcell
      have hsz := hbel.size
      clear ca
      have HN := Lib.hid hnil; clear hnil
      go_wp2_with (at_builtin; refine wpList_append_own _ rfl _ _ 34 rfl w.heap.size 5 i0 (.int .u8 0) 1 1 Try.underlying34 hi hz0 hz1 hz2 rfl (by decide) _ _ _ rfl (hown.alloc _) ⟨wr.heap.size, 0, none⟩ 1 1 [.int .u8 xs[k]] rfl rfl (one_new _ _ _) (one_cell_int _ _) ?c3 ?c4 ?c5 ?_)
      case c3 => unfold maxLen; omega
      case c4 => omega
      case c5 => omega
      intro v' w1 hown' hgrow hn'
      have hbel' : Below w.heap.size w w1 := (hbel.alloc hsz _).grown hgrow (by simp; omega) (fun q hq => (hown.lt q hq).1)
      have hts := take_snoc_get xs k hlt
      have HT := Lib.hid hts; clear hts
      clear hn' hgrow hown HN
      go_wp2
      go_roundw
      case rel => exact ⟨k + 1, by omega, by go_num, by rw [HT.out, List.map_append, List.map_take]; exact hown', fun h => by omega, hbel'⟩
      case measure => simp [intOf]; omega
    · have : k = xs.length := by omega
      subst this
      have HN := Lib.hid hnil; clear hnil
      go_wp2
      go_ret
      refine ⟨_, rfl, ⟨by simpa using hown, fun h => ?_⟩, hbel⟩
      exact HN.out (by rw [h]; rfl)

end Go.Proofs.Ytnfpjholmidnbaa
