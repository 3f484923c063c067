/- hartixlaw11.Pair: what it holds ('PairAt'); typed. No condition. -/
import Derived.Test.YtollgpnaadgncaaDoorRefM
import Derived.Test.YtollgpnaadgncaaDoorConW
import Derived.Test.YtollgpnaadgncaaDoorEchoWalk
namespace Go.Proofs.YtollgpnaadgncaaDoor
open Go.RowKit

/-- bytes that a console may hold, r of them ready -/
def OKX (xs : List Int) (r : Nat) : Prop := r ≤ xs.length ∧ okS (xs.take r) (xs.drop r) ∧ InB xs

theorem OKX.new : OKX [] 0 := ⟨Nat.le_refl _, ⟨by simp, by simp, by simp, by simp⟩, fun x hx => by simp at hx⟩

theorem OKX.of {d l : List Int} (h : okS d l) (h1 : InB d) (h2 : InB l) : OKX (d ++ l) d.length :=
  ⟨by simp, by rw [List.take_left, List.drop_left]; exact h, fun x hx => by
    rcases List.mem_append.1 hx with h | h
    · exact h1 x h
    · exact h2 x h⟩

theorem OKX.drop {xs : List Int} {r U : Nat} (h : OKX xs r) (hU : U ≤ r) : OKX (xs.drop U) (r - U) := by
  obtain ⟨h1, ⟨k1, k2, k3, k4⟩, h3⟩ := h
  have e1 : (xs.drop U).take (r - U) = (xs.take r).drop U := by rw [List.drop_take]
  have e2 : (xs.drop U).drop (r - U) = xs.drop r := by rw [List.drop_drop]; congr 1; omega
  refine ⟨by simp; omega, ⟨?_, ?_, ?_, ?_⟩, fun x hx => h3 x (List.mem_of_mem_drop hx)⟩
  · rw [e1, e2]; simp at k1 ⊢; omega
  · rw [e1, e2]
    intro h
    by_cases hU0 : U = 0
    · subst hU0; exact k2 (by simpa using h)
    · simp at h k1; omega
  · rw [e1]; exact fun x hx => k3 x (List.mem_of_mem_drop hx)
  · rw [e2]; exact k4

theorem nev_tyC {c : Int} (hc : c ≠ 21 ∧ c ≠ 8 ∧ c ≠ 127 ∧ c ≠ 0) : ¬ Nev (tyC c) := by
  unfold Nev tyC
  by_cases h : c = 13
  · rw [if_pos h]; omega
  · rw [if_neg h]; omega

theorem OKX.typ {xs : List Int} {r : Nat} {c : Int} (h : OKX xs r) (hb : 0 ≤ c ∧ c ≤ 255) : OKX (typX c xs r) (typN c xs r) := by
  obtain ⟨h1, ⟨k1, k2, k3, k4⟩, h3⟩ := h
  obtain ⟨d, hd⟩ : ∃ d, d = xs.take r := ⟨_, rfl⟩
  obtain ⟨l, hl⟩ : ∃ l, l = xs.drop r := ⟨_, rfl⟩
  have hxs : xs = d ++ l := by rw [hd, hl, List.take_append_drop]
  have hr : r = d.length := by rw [hd]; simp; omega
  rw [← hd] at k1 k2 k3
  rw [← hl] at k1 k2 k4
  rw [hxs] at h3
  have hid : InB d := fun x hx => h3 x (List.mem_append_left _ hx)
  have hil : InB l := fun x hx => h3 x (List.mem_append_right _ hx)
  rw [hxs, hr]
  clear hxs hr hd hl h1 h3
  by_cases hF : typF c (d ++ l) = true
  · have hc : c ≠ 21 ∧ c ≠ 8 ∧ c ≠ 127 ∧ c ≠ 0 ∧ (d ++ l).length ≠ 128 := by
      unfold typF at hF
      split at hF
      · cases hF
      · omega
    have hlen : (d ++ l).length = d.length + l.length := List.length_append
    obtain ⟨e1, e2, e3⟩ := typ_taken ⟨hc.1, hc.2.1, hc.2.2.1, hc.2.2.2.1⟩ (dn := d) (ln := l) (by omega)
    have hN : typN c (d ++ l) d.length = (d ++ (l ++ [tyC c])).length := by unfold typN; rw [hF]; simp; omega
    rw [e2, hN]
    have := OKX.of (d := d ++ (l ++ [tyC c])) (l := []) ⟨by simp; omega, fun _ => rfl, fun x hx => ?_, fun x hx => by simp at hx⟩ (fun x hx => ?_) (fun x hx => by simp at hx)
    · simpa using this
    · rcases List.mem_append.1 hx with h | h
      · exact k3 x h
      · rcases List.mem_append.1 h with h | h
        · exact (k4 x h).1
        · rw [List.mem_singleton.1 h]; exact nev_tyC ⟨hc.1, hc.2.1, hc.2.2.1, hc.2.2.2.1⟩
    · rcases List.mem_append.1 hx with h | h
      · exact hid x h
      · rcases List.mem_append.1 h with h | h
        · exact hil x h
        · rw [List.mem_singleton.1 h]; unfold tyC; split <;> omega
  · have hF2 : typF c (d ++ l) = false := by simpa using hF
    have hlen : (d ++ l).length = d.length + l.length := List.length_append
    have hN : typN c (d ++ l) d.length = d.length := by unfold typN; rw [hF2]; rfl
    have hX : ∃ l', typX c (d ++ l) d.length = d ++ l' ∧ ((∀ x ∈ l', x ∈ l) ∧ l'.length ≤ l.length ∨ (l' = l ++ [c] ∧ d.length + l.length + 1 < 128 ∧ ¬ Nev c ∧ c ≠ 10 ∧ c ≠ 4)) := by
      unfold typX
      by_cases h21 : c = 21
      · rw [if_pos h21]; exact ⟨[], by rw [List.take_left]; simp, .inl ⟨by simp, by simp⟩⟩
      · rw [if_neg h21]
        by_cases h8 : c = 8 ∨ c = 127
        · rw [if_pos h8]
          refine ⟨l.take (l.length - min 1 l.length), ?_, .inl ⟨fun x hx => List.mem_of_mem_take hx, by simp⟩⟩
          rw [hlen, Nat.add_sub_cancel_left, List.take_append, List.take_of_length_le (by omega), show d.length + l.length - min 1 l.length - d.length = l.length - min 1 l.length by omega]
        · rw [if_neg h8]
          by_cases h0 : c = 0 ∨ (d ++ l).length = 128
          · rw [if_pos h0]; exact ⟨l, rfl, .inl ⟨fun x hx => hx, Nat.le_refl _⟩⟩
          · rw [if_neg h0]
            obtain ⟨e1, e2, e3⟩ := typ_taken (c := c) (by omega) (dn := d) (ln := l) (by omega)
            rw [e3] at hF2
            simp only [Bool.or_eq_false_iff, decide_eq_false_iff_not] at hF2
            have h13 : c ≠ 13 := fun h => hF2.1 (.inl (by rw [h]; rfl))
            have hy : tyC c = c := by unfold tyC; rw [if_neg h13]
            rw [hy] at hF2
            refine ⟨l ++ [c], by rw [hy, List.append_assoc], .inr ⟨rfl, by omega, ?_, fun h => hF2.1 (.inl h), fun h => hF2.1 (.inr h)⟩⟩
            rw [← hy]; exact nev_tyC (by omega)
    obtain ⟨l', hX, hl'⟩ := hX
    rw [hX, hN]
    rcases hl' with ⟨h1, h2⟩ | ⟨rfl, h2, h3, h4, h5⟩
    · refine OKX.of ⟨by omega, fun h => ?_, k3, fun x hx => k4 x (h1 x hx)⟩ hid (fun x hx => hil x (h1 x hx))
      have := k2 (by omega)
      subst this
      exact List.eq_nil_of_length_eq_zero (by simpa using h2)
    · refine OKX.of ⟨by simp; omega, fun h => by simp at h; omega, k3, fun x hx => ?_⟩ hid (fun x hx => ?_)
      · rcases List.mem_append.1 hx with h | h
        · exact k4 x h
        · rw [List.mem_singleton.1 h]; exact ⟨h3, h4, h5⟩
      · rcases List.mem_append.1 hx with h | h
        · exact hil x h
        · rw [List.mem_singleton.1 h]; exact hb

theorem takeL_ref {n : Int} {xs : List Int} {r : Nat} (hr : r ≤ xs.length) : refL n (xs.take r) = takeL n xs r := by
  unfold refL takeL
  have hk := giveK_le n (xs.take r)
  rw [List.length_take] at hk
  by_cases h0 : r = 0
  · subst h0; simp
  · have hne : ¬ xs.take r = [] := fun h => by
      have := congrArg List.length h
      rw [List.length_take, List.length_nil] at this; omega
    rw [if_neg h0]
    by_cases hn : n < 1
    · rw [if_pos (.inr hn)]
      have : giveK n (xs.take r) = 0 := by unfold giveK; rw [if_pos hn]
      rw [this]; simp
    · rw [if_neg (by rintro (h | h); exact hne h; exact hn h), List.take_take]
      congr 1; omega

theorem takeU_ref {n : Int} {xs : List Int} {r : Nat} (hr : r ≤ xs.length) : refU n (xs.take r) = takeU n xs r := by
  unfold refU takeU
  by_cases h0 : r = 0
  · subst h0; simp
  · have hne : ¬ xs.take r = [] := fun h => by
      have := congrArg List.length h
      rw [List.length_take, List.length_nil] at this; omega
    rw [if_neg h0]
    by_cases hn : n < 1
    · rw [if_pos (.inr hn)]
      unfold useK; rw [if_pos hn]
    · rw [if_neg (by rintro (h | h); exact hne h; exact hn h)]

/-- Block A is a pair: the program's console at P, the document's at Q, alike -/
def PairAt (w : World) (base A P Q : Nat) (dv lv : Value) (xs : List Int) (r : Nat) : Prop :=
  base ≤ A ∧ base ≤ P ∧ base ≤ Q ∧ Blk w A [.pointer (some ⟨P, 0, none⟩), .pointer (some ⟨Q, 0, none⟩)] 53 ∧ ConAt w P xs r ∧ RefC w base Q dv lv (xs.take r) (xs.drop r) ∧ OKX xs r

theorem ConAt.blk {w : World} {b : Nat} {xs : List Int} {r : Nat} (h : ConAt w b xs r) : ∃ cs, Blk w b cs 70 := by
  obtain ⟨_, _, buf, _, _, hb⟩ := h; exact ⟨_, hb⟩
theorem PairAt.neAP {w : World} {base A P Q : Nat} {dv lv : Value} {xs : List Int} {r : Nat} (h : PairAt w base A P Q dv lv xs r) : A ≠ P := by
  obtain ⟨cs, hb⟩ := h.2.2.2.2.1.blk
  exact h.2.2.2.1.ne hb (by decide)
theorem PairAt.neAQ {w : World} {base A P Q : Nat} {dv lv : Value} {xs : List Int} {r : Nat} (h : PairAt w base A P Q dv lv xs r) : A ≠ Q := h.2.2.2.1.ne h.2.2.2.2.2.1.2.1 (by decide)
theorem PairAt.nePQ {w : World} {base A P Q : Nat} {dv lv : Value} {xs : List Int} {r : Nat} (h : PairAt w base A P Q dv lv xs r) : P ≠ Q := by
  obtain ⟨cs, hb⟩ := h.2.2.2.2.1.blk
  exact hb.ne h.2.2.2.2.2.1.2.1 (by decide)

theorem PairAt.no {w w' : World} {base A P Q : Nat} {dv lv : Value} {xs : List Int} {r : Nat} (h : PairAt w base A P Q dv lv xs r) (hf : Fr No w w') : PairAt w' base A P Q dv lv xs r :=
  ⟨h.1, h.2.1, h.2.2.1, h.2.2.2.1.fr hf id, h.2.2.2.2.1.no hf, h.2.2.2.2.2.1.no hf, h.2.2.2.2.2.2⟩

/-- the blocks it lies in -/
def PairFP (A P Q : Nat) (dv lv : Value) (k : Nat) : Prop := k = A ∨ k = P ∨ k = Q ∨ dv.ownBlock = some k ∨ lv.ownBlock = some k

theorem PairAt.low {w : World} {base A P Q : Nat} {dv lv : Value} {xs : List Int} {r : Nat} (h : PairAt w base A P Q dv lv xs r) : ∀ k, PairFP A P Q dv lv k → base ≤ k := by
  rintro k (rfl | rfl | rfl | hk | hk)
  · exact h.1
  · exact h.2.1
  · exact h.2.2.1
  · exact (h.2.2.2.2.2.1.2.2.1.lt k hk).1
  · exact (h.2.2.2.2.2.1.2.2.2.1.lt k hk).1
theorem PairAt.lt {w : World} {base A P Q : Nat} {dv lv : Value} {xs : List Int} {r : Nat} (h : PairAt w base A P Q dv lv xs r) : ∀ k, PairFP A P Q dv lv k → k < w.heap.size := by
  rintro k (rfl | rfl | rfl | hk | hk)
  · exact h.2.2.2.1.lt
  · exact h.2.2.2.2.1.lt
  · exact h.2.2.2.2.2.1.2.1.lt
  · exact (h.2.2.2.2.2.1.2.2.1.lt k hk).2
  · exact (h.2.2.2.2.2.1.2.2.2.1.lt k hk).2

/-- a pair behind a step: where it lies now, what has changed -/
def PairTo (base A P Q : Nat) (dv lv : Value) (w w' : World) (P' Q' : Nat) (dv' lv' : Value) (xs : List Int) (r : Nat) : Prop :=
  PairAt w' base A P' Q' dv' lv' xs r ∧ (∀ k, PairFP A P' Q' dv' lv' k → PairFP A P Q dv lv k ∨ w.heap.size ≤ k) ∧ Fr (PairFP A P Q dv lv) w w'

theorem PairTo.refl {w w' : World} {base A P Q : Nat} {dv lv : Value} {xs : List Int} {r : Nat} (h : PairAt w base A P Q dv lv xs r) (hf : Fr No w w') : PairTo base A P Q dv lv w w' P Q dv lv xs r :=
  ⟨h.no hf, fun k hk => .inl hk, hf.mono (fun _ h => h.elim)⟩
theorem PairTo.trans {w w1 w2 : World} {base A P Q P1 Q1 P2 Q2 r r2 : Nat} {dv lv dv1 lv1 dv2 lv2 : Value} {xs xs2 : List Int} (h : PairTo base A P Q dv lv w w1 P1 Q1 dv1 lv1 xs r) (h' : PairTo base A P1 Q1 dv1 lv1 w1 w2 P2 Q2 dv2 lv2 xs2 r2) :
    PairTo base A P Q dv lv w w2 P2 Q2 dv2 lv2 xs2 r2 := by
  refine ⟨h'.1, fun k hk => ?_, h.2.2.trans h'.2.2 (fun x hx hh => ?_)⟩
  · rcases h'.2.1 k hk with hh | hh
    · exact h.2.1 k hh
    · exact .inr (Nat.le_trans h.2.2.size hh)
  · rcases h.2.1 x hh with hh | hh
    · exact hh
    · omega
theorem PairTo.no {w w1 w2 : World} {base A P Q P1 Q1 r : Nat} {dv lv dv1 lv1 : Value} {xs : List Int} (h : PairTo base A P Q dv lv w w1 P1 Q1 dv1 lv1 xs r) (hf : Fr No w1 w2) : PairTo base A P Q dv lv w w2 P1 Q1 dv1 lv1 xs r := h.trans (PairTo.refl h.1 hf)
theorem PairTo.pre {w0 w w1 : World} {base A P Q P1 Q1 r : Nat} {dv lv dv1 lv1 : Value} {xs : List Int} (hf : Fr No w0 w) (h : PairTo base A P Q dv lv w w1 P1 Q1 dv1 lv1 xs r) : PairTo base A P Q dv lv w0 w1 P1 Q1 dv1 lv1 xs r := by
  refine ⟨h.1, fun k hk => ?_, (hf.mono (fun _ h => h.elim)).trans h.2.2 (fun _ _ h => h)⟩
  rcases h.2.1 k hk with hh | hh
  · exact .inl hh
  · exact .inr (Nat.le_trans hf.size hh)

/-- the program's step, then the document's: a byte typed -/
theorem PairAt.typed {w w1 w2 : World} {base A P Q : Nat} {dv lv dv' lv' : Value} {xs : List Int} {r : Nat} {c : Int} (h : PairAt w base A P Q dv lv xs r) (hb : 0 ≤ c ∧ c ≤ 255) (hc : ConAt w1 P (typX c xs r) (typN c xs r)) (hf1 : Fr (· = P) w w1)
    (hr : RefC w2 base Q dv' lv' ((typX c (xs.take r ++ xs.drop r) (xs.take r).length).take (typN c (xs.take r ++ xs.drop r) (xs.take r).length)) ((typX c (xs.take r ++ xs.drop r) (xs.take r).length).drop (typN c (xs.take r ++ xs.drop r) (xs.take r).length)))
    (hbl : ∀ k, dv'.ownBlock = some k ∨ lv'.ownBlock = some k → dv.ownBlock = some k ∨ lv.ownBlock = some k ∨ w1.heap.size ≤ k)
    (hf2 : Fr (fun k => k = Q ∨ lv.ownBlock = some k) w1 w2) : PairTo base A P Q dv lv w w2 P Q dv' lv' (typX c xs r) (typN c xs r) := by
  have hl : (xs.take r).length = r := by have := h.2.2.2.2.2.2.1; simp; omega
  rw [List.take_append_drop, hl] at hr
  have hlv := h.2.2.2.2.2.1.2.2.2.1
  have hlA : ∀ k, lv.ownBlock = some k → k ≠ A := row_ne_blk hlv h.2.2.2.1 (by decide)
  have hlP : ∀ k, lv.ownBlock = some k → k ≠ P := row_ne_con hlv h.2.2.2.2.1 (by decide)
  refine ⟨⟨h.1, h.2.1, h.2.2.1, (h.2.2.2.1.fr hf1 h.neAP).fr hf2 (fun hh => ?_), hc.fr hf2 (fun hh => ?_), hr, h.2.2.2.2.2.2.typ hb⟩, fun k hk => ?_, (hf1.mono (S' := PairFP A P Q dv lv) (fun k hk => .inr (.inl hk))).trans (hf2.mono (S' := PairFP A P Q dv lv) (fun k hk => ?_)) (fun _ _ h => h)⟩
  · rcases hh with hh | hh
    · exact h.neAQ hh
    · exact hlA A hh rfl
  · rcases hh with hh | hh
    · exact h.nePQ hh
    · exact hlP P hh rfl
  · rcases hk with hk | hk | hk | hk
    · exact .inl (.inl hk)
    · exact .inl (.inr (.inl hk))
    · exact .inl (.inr (.inr (.inl hk)))
    · rcases hbl k hk with hh | hh | hh
      · exact .inl (.inr (.inr (.inr (.inl hh))))
      · exact .inl (.inr (.inr (.inr (.inr hh))))
      · exact .inr (Nat.le_trans hf1.size hh)
  · rcases hk with hk | hk
    · exact .inr (.inr (.inl hk))
    · exact .inr (.inr (.inr (.inr hk)))

/-- .. bytes taken -/
theorem PairAt.taken {w w1 w2 : World} {base A P Q : Nat} {dv lv dv' : Value} {xs : List Int} {r : Nat} {n : Int} (h : PairAt w base A P Q dv lv xs r) (hc : ConAt w1 P (xs.drop (takeU n xs r)) (r - takeU n xs r)) (hf1 : Fr (· = P) w w1)
    (hr : RefC w2 base Q dv' lv ((xs.take r).drop (refU n (xs.take r))) (xs.drop r)) (hbl : ∀ k, dv'.ownBlock = some k → dv.ownBlock = some k ∨ w1.heap.size ≤ k) (hf2 : Fr (· = Q) w1 w2) :
    PairTo base A P Q dv lv w w2 P Q dv' lv (xs.drop (takeU n xs r)) (r - takeU n xs r) := by
  have hrl := h.2.2.2.2.2.2.1
  have hU := takeU_le n hrl
  rw [takeU_ref hrl] at hr
  have e1 : (xs.drop (takeU n xs r)).take (r - takeU n xs r) = (xs.take r).drop (takeU n xs r) := by rw [List.drop_take]
  have e2 : (xs.drop (takeU n xs r)).drop (r - takeU n xs r) = xs.drop r := by rw [List.drop_drop]; congr 1; omega
  refine ⟨⟨h.1, h.2.1, h.2.2.1, (h.2.2.2.1.fr hf1 h.neAP).fr hf2 h.neAQ, hc.fr hf2 h.nePQ, by rw [e1, e2]; exact hr, h.2.2.2.2.2.2.drop hU⟩, fun k hk => ?_, (hf1.mono (S' := PairFP A P Q dv lv) (fun k hk => .inr (.inl hk))).trans (hf2.mono (S' := PairFP A P Q dv lv) (fun k hk => .inr (.inr (.inl hk)))) (fun _ _ h => h)⟩
  rcases hk with hk | hk | hk | hk | hk
  · exact .inl (.inl hk)
  · exact .inl (.inr (.inl hk))
  · exact .inl (.inr (.inr (.inl hk)))
  · rcases hbl k hk with hh | hh
    · exact .inl (.inr (.inr (.inr (.inl hh))))
    · exact .inr (Nat.le_trans hf1.size hh)
  · exact .inl (.inr (.inr (.inr (.inr hk))))

/-- .. another console in the program's place -/
theorem PairAt.again {w w1 : World} {base A P Q P' : Nat} {dv lv : Value} {xs : List Int} {r : Nat} (h : PairAt w base A P Q dv lv xs r) (hP : w.heap.size ≤ P') (hc : ConAt w1 P' xs r) (hf : Fr No w w1) :
    PairTo base A P Q dv lv w (w1.setCell ⟨A, 0, none⟩ (.pointer (some ⟨P', 0, none⟩))) P' Q dv lv xs r := by
  have h1 := h.no hf
  have hfs : Fr (· = A) w1 (w1.setCell ⟨A, 0, none⟩ (.pointer (some ⟨P', 0, none⟩))) := (Fr.refl (· = A) w1).setCell (p := ⟨A, 0, none⟩) (fun _ => rfl) _
  have hA := h.2.2.2.1.lt
  refine ⟨⟨h.1, by have := h.2.2.2.2.2.1.1; omega, h.2.2.1, h1.2.2.2.1.set 0 _, hc.fr hfs (fun e => by omega), h1.2.2.2.2.2.1.fr hfs (fun k hk e => ?_), h.2.2.2.2.2.2⟩, fun k hk => ?_, (hf.mono (S' := PairFP A P Q dv lv) (fun _ h => h.elim)).trans (hfs.mono (fun k hk => .inl hk)) (fun _ _ h => h)⟩
  · rcases hk with hk | hk | hk
    · exact h.neAQ (e.symm.trans hk)
    · exact row_ne_blk h1.2.2.2.2.2.1.2.2.1 h1.2.2.2.1 (by decide) k hk e
    · exact row_ne_blk h1.2.2.2.2.2.1.2.2.2.1 h1.2.2.2.1 (by decide) k hk e
  · rcases hk with hk | hk | hk
    · exact .inl (.inl hk)
    · exact .inr (by omega)
    · exact .inl (.inr (.inr hk))

end Go.Proofs.YtollgpnaadgncaaDoor
