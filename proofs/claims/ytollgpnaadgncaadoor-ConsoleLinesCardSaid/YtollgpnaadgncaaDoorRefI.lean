/- hartixref11.Console: what Type leaves: the plain parts. No condition. -/
import Derived.Test.YtollgpnaadgncaaDoorRefH
import Derived.Test.YtollgpnaadgncaaDoorConE
import Derived.Test.YtollgpnaadgncaaDoorApp
namespace Go.Proofs.YtollgpnaadgncaaDoor
open Go.RowKit

@[irreducible] def RefTypePost (base Q : Nat) (dv lv : Value) (dn ln : List Int) (c : Int) (w : World) (e : Ending) (w' : World) : Prop :=
  ∃ v' dv' lv', e = .returned (.tuple #[v', .bool (typF c (dn ++ ln))]) ∧ Own w' w.heap.size v' (typE c (dn ++ ln) dn.length) ∧
    RefC w' base Q dv' lv' ((typX c (dn ++ ln) dn.length).take (typN c (dn ++ ln) dn.length)) ((typX c (dn ++ ln) dn.length).drop (typN c (dn ++ ln) dn.length)) ∧
    (∀ k, dv'.ownBlock = some k ∨ lv'.ownBlock = some k → dv.ownBlock = some k ∨ lv.ownBlock = some k ∨ w.heap.size ≤ k) ∧
    (∀ k, v'.ownBlock = some k → dv'.ownBlock ≠ some k ∧ lv'.ownBlock ≠ some k) ∧ Fr (fun k => k = Q ∨ lv.ownBlock = some k) w w'

theorem reftype_mk {base Q : Nat} {dv lv v' dv' lv' : Value} {dn ln E D L : List Int} {F : Bool} {c : Int} {w w' : World} (hE : typE c (dn ++ ln) dn.length = E) (hF : typF c (dn ++ ln) = F)
    (hD : (typX c (dn ++ ln) dn.length).take (typN c (dn ++ ln) dn.length) = D) (hL : (typX c (dn ++ ln) dn.length).drop (typN c (dn ++ ln) dn.length) = L) (ho : Own w' w.heap.size v' E) (hr : RefC w' base Q dv' lv' D L)
    (h1 : ∀ k, dv'.ownBlock = some k ∨ lv'.ownBlock = some k → dv.ownBlock = some k ∨ lv.ownBlock = some k ∨ w.heap.size ≤ k) (h2 : ∀ k, v'.ownBlock = some k → dv'.ownBlock ≠ some k ∧ lv'.ownBlock ≠ some k) (hf : Fr (fun k => k = Q ∨ lv.ownBlock = some k) w w') :
    RefTypePost base Q dv lv dn ln c w (.returned (.tuple #[v', .bool F])) w' := by
  unfold RefTypePost
  subst hE hF hD hL
  exact ⟨v', dv', lv', rfl, ho, hr, h1, h2, hf⟩

/-- nothing is taken -/
theorem reftype_still {base Q : Nat} {dv lv : Value} {dn ln : List Int} {c : Int} {w w' : World} (h : RefC w base Q dv lv dn ln) (hf : Fr No w w') (hc : ((c = 8 ∨ c = 127) ∧ ln = []) ∨ (c ≠ 21 ∧ c ≠ 8 ∧ c ≠ 127 ∧ (c = 0 ∨ dn.length + ln.length = 128))) :
    RefTypePost base Q dv lv dn ln c w (.returned (.tuple #[.slice none 0 0, .bool false])) w' := by
  have hlen : (dn ++ ln).length = dn.length + ln.length := List.length_append
  have hF : typF c (dn ++ ln) = false := by unfold typF; rw [if_pos (by rw [hlen]; omega)]
  have hN : typN c (dn ++ ln) dn.length = dn.length := by unfold typN; rw [hF]; rfl
  have hEX : typE c (dn ++ ln) dn.length = [] ∧ typX c (dn ++ ln) dn.length = dn ++ ln := by
    unfold typE typX
    rcases hc with ⟨h1, rfl⟩ | ⟨h1, h2, h3, h4⟩
    · rw [if_neg (by omega), if_pos h1, if_neg (by omega), if_pos h1]
      simp [backs]
    · rw [if_neg h1, if_neg (by omega), if_pos (by rw [hlen]; omega), if_neg h1, if_neg (by omega), if_pos (by rw [hlen]; omega)]
      exact ⟨rfl, rfl⟩
  refine reftype_mk hEX.1 hF (by rw [hEX.2, hN, List.take_left]) (by rw [hEX.2, hN, List.drop_left]) (own_nil _ _) (h.no hf) (fun k hk => ?_) (fun k hk => by simp [Value.ownBlock] at hk) (hf.mono (fun _ h => h.elim))
  rcases hk with h | h
  · exact .inl h
  · exact .inr (.inl h)

/-- the line is killed, or its last byte taken back -/
theorem reftype_back {base Q n : Nat} {dv lv v' lv' : Value} {dn ln : List Int} {c : Int} {w w1 w2 : World} (h : RefC w base Q dv lv dn ln) (hc : c = 21 ∧ n = ln.length ∨ (c = 8 ∨ c = 127) ∧ n = 1 ∧ ln ≠ []) (hf0 : Fr No w w1)
    (hl : Row 5 .u8 w1 base lv' (ln.take (ln.length - n))) (hln : ∀ k, lv'.ownBlock = some k → w.heap.size ≤ k) (ho : Own w2 w1.heap.size v' (backs n)) (hb : Below w1.heap.size (w1.setCell ⟨Q, 1, none⟩ lv') w2) :
    RefTypePost base Q dv lv dn ln c w (.returned (.tuple #[v', .bool false])) w2 := by
  have hlen : (dn ++ ln).length = dn.length + ln.length := List.length_append
  have hF : typF c (dn ++ ln) = false := by unfold typF; rw [if_pos (by omega)]
  have hN : typN c (dn ++ ln) dn.length = dn.length := by unfold typN; rw [hF]; rfl
  have hpos : (c = 8 ∨ c = 127) → 0 < ln.length := fun h8 => by
    rcases hc with ⟨h1, _⟩ | ⟨_, _, h1⟩
    · omega
    · exact List.length_pos_iff.2 h1
  have hEX : typE c (dn ++ ln) dn.length = backs n ∧ typX c (dn ++ ln) dn.length = dn ++ ln.take (ln.length - n) := by
    unfold typE typX
    rcases hc with ⟨h1, rfl⟩ | ⟨h1, rfl, h2⟩
    · rw [if_pos h1, if_pos h1, hlen, Nat.add_sub_cancel_left, Nat.sub_self]
      simp
    · have := hpos h1
      rw [if_neg (by omega), if_pos h1, if_neg (by omega), if_pos h1, hlen, Nat.add_sub_cancel_left, show min 1 ln.length = 1 by omega, List.take_append, List.take_of_length_le (by omega), show dn.length + ln.length - 1 - dn.length = ln.length - 1 by omega]
      exact ⟨rfl, rfl⟩
  have hQ : Q < w.heap.size := h.2.1.lt
  have hs1 := hf0.size
  have h1 := h.no hf0
  have hfs : Fr (· = Q) w1 (w1.setCell ⟨Q, 1, none⟩ lv') := (Fr.refl (· = Q) w1).setCell (p := ⟨Q, 1, none⟩) (fun _ => rfl) _
  have hsz : (w1.setCell ⟨Q, 1, none⟩ lv').heap.size = w1.heap.size := by simp [World.setCell]
  have hfb : Fr No (w1.setCell ⟨Q, 1, none⟩ lv') w2 := Fr.of_below (by rw [hsz]; exact hb)
  have hlQ : ∀ k, lv'.ownBlock = some k → k ≠ Q := fun k hk e => by have := hln k hk; omega
  refine reftype_mk hEX.1 hF (by rw [hEX.2, hN, List.take_left]) (by rw [hEX.2, hN, List.drop_left]) (ho.base hs1) (dv' := dv) (lv' := lv') ⟨Nat.le_trans h1.1 (by have := hfb.size; rw [hsz] at this; exact this), (h1.2.1.set 1 lv').fr hfb id, ?_, ?_, ?_⟩ (fun k hk => ?_) (fun k hk => ⟨fun hk2 => ?_, fun hk2 => ?_⟩) ?_
  · exact row_fr (row_fr h1.2.2.1 hfs (fun k hk e => h1.dvQ k hk e)) hfb (fun _ _ => id)
  · exact row_fr (row_fr hl hfs (fun k hk e => hlQ k hk e)) hfb (fun _ _ => id)
  · intro k hk hk2
    have := hln k hk2
    have := (h.2.2.1.lt k hk).2
    omega
  · rcases hk with h | h
    · exact .inl h
    · exact .inr (.inr (hln k h))
  · have := (ho.lt k hk).1
    have := (h.2.2.1.lt k hk2).2
    omega
  · have := (ho.lt k hk).1
    have := (hl.lt k hk2).2
    omega
  · exact ((hf0.mono (S' := fun k => k = Q ∨ lv.ownBlock = some k) (fun _ h => h.elim)).trans (hfs.mono (fun _ h => .inl h)) (fun _ _ h => h)).trans (hfb.mono (fun _ h => h.elim)) (fun _ _ h => h)

theorem typ_taken {dn ln : List Int} {c : Int} (hc : c ≠ 21 ∧ c ≠ 8 ∧ c ≠ 127 ∧ c ≠ 0) (hl : dn.length + ln.length < 128) :
    typE c (dn ++ ln) dn.length = (if c = 4 then [] else [tyC c]) ∧ typX c (dn ++ ln) dn.length = dn ++ (ln ++ [tyC c]) ∧ typF c (dn ++ ln) = (decide (tyC c = 10 ∨ c = 4) || decide (dn.length + ln.length + 1 = 128)) := by
  have hlen : (dn ++ ln).length = dn.length + ln.length := List.length_append
  refine ⟨?_, ?_, ?_⟩
  · unfold typE
    rw [if_neg hc.1, if_neg (by omega)]
    by_cases h4 : c = 4
    · rw [if_pos h4, if_pos (by omega)]
    · rw [if_neg h4, if_neg (by omega)]
  · unfold typX
    rw [if_neg hc.1, if_neg (by omega), if_neg (by omega), List.append_assoc]
  · unfold typF
    rw [if_neg (by omega), hlen]

/-- a byte is taken, the line goes on -/
theorem reftype_more {base Q : Nat} {dv lv lv1 tv : Value} {dn ln : List Int} {c x : Int} {w W1 W3 : World} (hx : x = tyC c) (hc : c ≠ 21 ∧ c ≠ 8 ∧ c ≠ 127 ∧ c ≠ 0) (hlen : dn.length + ln.length + 1 < 128) (hF : ¬ (tyC c = 10 ∨ c = 4))
    (h1 : RefC W1 base Q dv lv1 dn (ln ++ [x])) (hfr : Fr (fun k => k = Q ∨ lv.ownBlock = some k) w W1) (hlv1 : ∀ k, lv1.ownBlock = some k → lv.ownBlock = some k ∨ w.heap.size ≤ k) (h3 : Fr No W1 W3) (htv : Own W3 W1.heap.size tv [x]) :
    RefTypePost base Q dv lv dn ln c w (.returned (.tuple #[tv, .bool false])) W3 := by
  obtain ⟨e1, e2, e3⟩ := typ_taken hc (dn := dn) (ln := ln) (by omega)
  have hF2 : typF c (dn ++ ln) = false := by rw [e3, decide_eq_false hF, decide_eq_false (by omega)]; rfl
  have hN : typN c (dn ++ ln) dn.length = dn.length := by unfold typN; rw [hF2]; rfl
  subst hx
  refine reftype_mk (by rw [e1, if_neg (fun h => hF (.inr h))]) hF2 (by rw [e2, hN, List.take_left]) (by rw [e2, hN, List.drop_left]) (htv.base hfr.size) (h1.no h3) (fun k hk => ?_) (fun k hk => ⟨fun hk2 => ?_, fun hk2 => ?_⟩) (hfr.trans h3 (fun _ _ h => h.elim))
  · rcases hk with h | h
    · exact .inl h
    · exact .inr (hlv1 k h)
  · have := (htv.lt k hk).1
    have := (h1.2.2.1.lt k hk2).2
    omega
  · have := (htv.lt k hk).1
    have := (h1.2.2.2.1.lt k hk2).2
    omega

/-- a byte is taken, and the line is ready -/
theorem reftype_line {base Q : Nat} {dv lv lv1 tv v4 : Value} {dn ln : List Int} {c x : Int} {w W1 W3 w4 : World} (hx : x = tyC c) (hc : c ≠ 21 ∧ c ≠ 8 ∧ c ≠ 127 ∧ c ≠ 0) (hlen : dn.length + ln.length < 128) (hF : (tyC c = 10 ∨ c = 4) ∨ dn.length + ln.length + 1 = 128)
    (h1 : RefC W1 base Q dv lv1 dn (ln ++ [x])) (hfr : Fr (fun k => k = Q ∨ lv.ownBlock = some k) w W1) (h3 : Fr No W1 W3) (htv : Own W3 W1.heap.size tv (if c = 4 then [] else [x]))
    (h4 : Own w4 W3.heap.size v4 (dn ++ (ln ++ [x]))) (hb : Below W3.heap.size W3 w4) :
    RefTypePost base Q dv lv dn ln c w (.returned (.tuple #[tv, .bool true])) ((w4.setCell ⟨Q, 0, none⟩ v4).setCell ⟨Q, 1, none⟩ (.slice none 0 0)) := by
  obtain ⟨e1, e2, e3⟩ := typ_taken hc (dn := dn) (ln := ln) hlen
  have hF2 : typF c (dn ++ ln) = true := by
    rw [e3]
    rcases hF with h | h
    · rw [decide_eq_true h]; rfl
    · rw [decide_eq_true h]; simp
  have hN : typN c (dn ++ ln) dn.length = (dn ++ (ln ++ [x])).length := by unfold typN; rw [hF2]; simp; omega
  subst hx
  have hQ := h1.2.1.lt
  have s3 := h3.size
  have s4 := hb.size
  have h5 := (h1.no h3).no (Fr.of_below hb)
  have hfs : Fr (· = Q) w4 ((w4.setCell ⟨Q, 0, none⟩ v4).setCell ⟨Q, 1, none⟩ (.slice none 0 0)) := ((Fr.refl (· = Q) w4).setCell (p := ⟨Q, 0, none⟩) (fun _ => rfl) _).setCell (p := ⟨Q, 1, none⟩) (fun _ => rfl) _
  have hv4 : ∀ k, v4.ownBlock = some k → W3.heap.size ≤ k := fun k hk => (h4.lt k hk).1
  refine reftype_mk e1 hF2 (by rw [e2, hN, List.take_length]) (by rw [e2, hN, List.drop_length]) (dv' := v4) (lv' := .slice none 0 0) (((htv.fr (Fr.of_below hb) (fun _ _ => id)).fr hfs (fun k hk e => ?_)).base hfr.size) ⟨?_, ?_, ?_, World.ownsRow_nil _ _ _ _, fun k _ h => by simp [Value.ownBlock] at h⟩ (fun k hk => ?_) (fun k hk => ⟨fun hk2 => ?_, fun h => by simp [Value.ownBlock] at h⟩) ?_
  · have := (htv.lt k hk).1; omega
  · have := h1.1; simp [World.setCell]; omega
  · have := (h5.2.1.set 0 v4).set 1 (.slice none 0 0)
    simpa using this
  · exact own_base_row (h4.fr hfs (fun k hk e => by have := hv4 k hk; omega)) (by have := h1.1; omega)
  · rcases hk with h | h
    · exact .inr (.inr (by have := hv4 k h; have := hfr.size; omega))
    · simp [Value.ownBlock] at h
  · have := (htv.lt k hk).2
    have := hv4 k hk2
    omega
  · exact ((hfr.trans h3 (fun _ _ h => h.elim)).trans (Fr.of_below hb) (fun _ _ h => h.elim)).trans hfs (fun _ _ h => .inl h)

end Go.Proofs.YtollgpnaadgncaaDoor
