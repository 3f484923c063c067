/- ConsoleFresh: what stands at the loop's head ('FreshAt') and how a step leaves it. No condition. -/
import Derived.Test.YtollgpnaadgncaaDoorPairF
import Derived.Test.YtollgpnaadgncaaDoorMany
namespace Go.Proofs.YtollgpnaadgncaaDoor
open Go.RowKit

/-- a list of slices of bytes -/
abbrev LRow (w : World) (base : Nat) (v : Value) (vs : List Value) : Prop := w.ownsRow base 22 1 v vs.length vs

/-- a row of another kind lies outside the pair -/
theorem lrow_off {w : World} {base b A P Q r : Nat} {dv lv v : Value} {xs : List Int} {vs : List Value} (h : LRow w b v vs) (hp : PairAt w base A P Q dv lv xs r) : ∀ k, v.ownBlock = some k → ¬ PairFP A P Q dv lv k := by
  rintro k hk (rfl | rfl | rfl | h1 | h1)
  · exact row_ne_blk h hp.2.2.2.1 (by decide) _ hk rfl
  · exact row_ne_con h hp.2.2.2.2.1 (by decide) _ hk rfl
  · exact row_ne_blk h hp.2.2.2.2.2.1.2.1 (by decide) _ hk rfl
  · exact row_apart h hp.2.2.2.2.2.1.2.2.1 (by decide) k hk h1
  · exact row_apart h hp.2.2.2.2.2.1.2.2.2.1 (by decide) k hk h1

/-- the pair; the answers kept so far (the program's vs, the document's us, both holding ls), outside the pair; the two lists of them -/
def FreshAt (w0 wx : World) (A P Q : Nat) (dv lv : Value) (xs : List Int) (r : Nat) (vs us : List Value) (ls : List (List Int)) (l1 : Value) (vs1 : List Value) (l2 : Value) (us1 : List Value) : Prop :=
  PairAt wx w0.heap.size A P Q dv lv xs r ∧ Many wx w0.heap.size wx.heap.size vs ls ∧ Many wx w0.heap.size wx.heap.size us ls ∧ (∀ v, v ∈ vs ∨ v ∈ us → ∀ k, v.ownBlock = some k → ¬ PairFP A P Q dv lv k) ∧
    LRow wx w0.heap.size l1 vs1 ∧ LRow wx w0.heap.size l2 us1 ∧ (∀ k, l1.ownBlock = some k → l2.ownBlock ≠ some k) ∧ (∀ l ∈ ls, l.length ≤ 400) ∧ Below w0.heap.size w0 wx

theorem FreshAt.no {w0 wx wy : World} {A P Q r : Nat} {dv lv l1 l2 : Value} {xs : List Int} {vs us vs1 us1 : List Value} {ls : List (List Int)} (h : FreshAt w0 wx A P Q dv lv xs r vs us ls l1 vs1 l2 us1) (hf : Fr No wx wy) : FreshAt w0 wy A P Q dv lv xs r vs us ls l1 vs1 l2 us1 := by
  obtain ⟨h1, h2, h3, h4, h5, h6, h7, h8, h9⟩ := h
  exact ⟨h1.no hf, (h2.no hf).up hf.size, (h3.no hf).up hf.size, h4, row_fr h5 hf (fun _ _ => id), row_fr h6 hf (fun _ _ => id), h7, h8, Fr.below_of h9 hf h9.size (fun _ h => h.elim)⟩

/-- the pair makes a step that gives an answer of each -/
theorem FreshAt.step {w0 wx wy : World} {A P Q r r' b b' : Nat} {dv lv dv' lv' l1 l2 v u : Value} {xs xs' l : List Int} {vs us vs1 us1 : List Value} {ls : List (List Int)} (h : FreshAt w0 wx A P Q dv lv xs r vs us ls l1 vs1 l2 us1) (ht : PairTo w0.heap.size A P Q dv lv wx wy P Q dv' lv' xs' r')
    (hv : Row 5 .u8 wy b v l) (hu : Row 5 .u8 wy b' u l) (hb : wx.heap.size ≤ b) (hb' : wx.heap.size ≤ b') (hvp : ∀ k, v.ownBlock = some k → ¬ PairFP A P Q dv' lv' k) (hup : ∀ k, u.ownBlock = some k → ¬ PairFP A P Q dv' lv' k) (hl : l.length ≤ 400) :
    FreshAt w0 wy A P Q dv' lv' xs' r' (vs ++ [v]) (us ++ [u]) (ls ++ [l]) l1 vs1 l2 us1 := by
  obtain ⟨h1, h2, h3, h4, h5, h6, h7, h8, h9⟩ := h
  have s0 := h9.size
  have sy := ht.2.2.size
  refine ⟨ht.1, ?_, ?_, ?_, row_fr h5 ht.2.2 (fun k hk => lrow_off h5 h1 k hk), row_fr h6 ht.2.2 (fun k hk => lrow_off h6 h1 k hk), h7, ?_, Fr.below_of h9 ht.2.2 s0 (fun k hk => h1.low k hk)⟩
  · exact (h2.fr ht.2.2 (fun v' hv' k hk => h4 v' (.inl hv') k hk)).snoc hv (by omega) (fun k hk => ⟨by have := (hv.lt k hk).1; omega, (hv.lt k hk).2⟩) sy
  · exact (h3.fr ht.2.2 (fun v' hv' k hk => h4 v' (.inr hv') k hk)).snoc hu (by omega) (fun k hk => ⟨by have := (hu.lt k hk).1; omega, (hu.lt k hk).2⟩) sy
  · have old : ∀ v', v' ∈ vs ∨ v' ∈ us → ∀ k, v'.ownBlock = some k → ¬ PairFP A P Q dv' lv' k := fun v' hv' k hk hh => by
      have hlt : k < wx.heap.size := by
        rcases hv' with h | h
        · exact h2.2.2.2 v' h k hk
        · exact h3.2.2.2 v' h k hk
      rcases ht.2.1 k hh with h | h
      · exact h4 v' hv' k hk h
      · omega
    rintro v' (hv' | hv') k hk
    · rcases List.mem_append.1 hv' with h | h
      · exact old v' (.inl h) k hk
      · rw [List.mem_singleton.1 h] at hk; exact hvp k hk
    · rcases List.mem_append.1 hv' with h | h
      · exact old v' (.inr h) k hk
      · rw [List.mem_singleton.1 h] at hk; exact hup k hk
  · intro x hx
    rcases List.mem_append.1 hx with h | h
    · exact h8 x h
    · rw [List.mem_singleton.1 h]; exact hl

/-- the first list grows -/
theorem FreshAt.grow1 {w0 wx wy : World} {A P Q r : Nat} {dv lv l1 l2 l1' : Value} {xs : List Int} {vs us vs1 us1 : List Value} {ls : List (List Int)} {v : Value} (h : FreshAt w0 wx A P Q dv lv xs r vs us ls l1 vs1 l2 us1)
    (hr : wy.ownsRow w0.heap.size 22 1 l1' (vs1.length + 1) (vs1 ++ [v])) (hf : Fr (fun k => l1.ownBlock = some k ∧ l1'.ownBlock = some k) wx wy) (hn : ∀ k, l1'.ownBlock = some k → l1.ownBlock = some k ∨ wx.heap.size ≤ k) : FreshAt w0 wy A P Q dv lv xs r vs us ls l1' (vs1 ++ [v]) l2 us1 := by
  obtain ⟨h1, h2, h3, h4, h5, h6, h7, h8, h9⟩ := h
  have hoff := lrow_off h5 h1
  have hm : ∀ (X : List Value), Many wx w0.heap.size wx.heap.size X ls → Many wy w0.heap.size wy.heap.size X ls := fun X hX => (hX.fr hf (fun v' hv' k hk hh => by
    obtain ⟨j, hj⟩ := List.mem_iff_getElem?.1 hv'
    exact row_apart h5 (hX.2.1 j v' hj) (by decide) k hh.1 hk)).up hf.size
  refine ⟨⟨h1.1, h1.2.1, h1.2.2.1, h1.2.2.2.1.fr hf (fun hh => hoff A hh.1 (.inl rfl)), h1.2.2.2.2.1.fr hf (fun hh => hoff P hh.1 (.inr (.inl rfl))), h1.2.2.2.2.2.1.fr hf (fun k hk hh => hoff k hh.1 (.inr (.inr hk))), h1.2.2.2.2.2.2⟩, hm vs h2, hm us h3, h4, by simpa [LRow] using hr, row_fr h6 hf (fun k hk hh => h7 k hh.1 hk), fun k hk hk2 => ?_, h8, Fr.below_of h9 hf h9.size (fun k hk => (h5.lt k hk.1).1)⟩
  rcases hn k hk with hh | hh
  · exact h7 k hh hk2
  · have := (h6.lt k hk2).2; omega

/-- the second list grows -/
theorem FreshAt.grow2 {w0 wx wy : World} {A P Q r : Nat} {dv lv l1 l2 l2' : Value} {xs : List Int} {vs us vs1 us1 : List Value} {ls : List (List Int)} {u : Value} (h : FreshAt w0 wx A P Q dv lv xs r vs us ls l1 vs1 l2 us1)
    (hr : wy.ownsRow w0.heap.size 22 1 l2' (us1.length + 1) (us1 ++ [u])) (hf : Fr (fun k => l2.ownBlock = some k ∧ l2'.ownBlock = some k) wx wy) (hn : ∀ k, l2'.ownBlock = some k → l2.ownBlock = some k ∨ wx.heap.size ≤ k) : FreshAt w0 wy A P Q dv lv xs r vs us ls l1 vs1 l2' (us1 ++ [u]) := by
  obtain ⟨h1, h2, h3, h4, h5, h6, h7, h8, h9⟩ := h
  have hoff := lrow_off h6 h1
  have hm : ∀ (X : List Value), Many wx w0.heap.size wx.heap.size X ls → Many wy w0.heap.size wy.heap.size X ls := fun X hX => (hX.fr hf (fun v' hv' k hk hh => by
    obtain ⟨j, hj⟩ := List.mem_iff_getElem?.1 hv'
    exact row_apart h6 (hX.2.1 j v' hj) (by decide) k hh.1 hk)).up hf.size
  refine ⟨⟨h1.1, h1.2.1, h1.2.2.1, h1.2.2.2.1.fr hf (fun hh => hoff A hh.1 (.inl rfl)), h1.2.2.2.2.1.fr hf (fun hh => hoff P hh.1 (.inr (.inl rfl))), h1.2.2.2.2.2.1.fr hf (fun k hk hh => hoff k hh.1 (.inr (.inr hk))), h1.2.2.2.2.2.2⟩, hm vs h2, hm us h3, h4, row_fr h5 hf (fun k hk hh => h7 k hk hh.1), by simpa [LRow] using hr, fun k hk hk2 => ?_, h8, Fr.below_of h9 hf h9.size (fun k hk => (h6.lt k hk.1).1)⟩
  rcases hn k hk2 with hh | hh
  · exact h7 k hk hh
  · have := (h5.lt k hk).2; omega

/-- both of a Type -/
theorem FreshAt.type {w0 wx w1 w2 : World} {A P Q r : Nat} {dv lv l1 l2 v u dv' lv' : Value} {xs : List Int} {vs us vs1 us1 : List Value} {ls : List (List Int)} {c : Int} (h : FreshAt w0 wx A P Q dv lv xs r vs us ls l1 vs1 l2 us1) (hb : 0 ≤ c ∧ c ≤ 255)
    (ho1 : Own w1 wx.heap.size v (typE c xs r)) (hc1 : ConAt w1 P (typX c xs r) (typN c xs r)) (hf1 : Fr (· = P) wx w1)
    (ho2 : Own w2 w1.heap.size u (typE c (xs.take r ++ xs.drop r) (xs.take r).length))
    (hr2 : RefC w2 w0.heap.size Q dv' lv' ((typX c (xs.take r ++ xs.drop r) (xs.take r).length).take (typN c (xs.take r ++ xs.drop r) (xs.take r).length)) ((typX c (xs.take r ++ xs.drop r) (xs.take r).length).drop (typN c (xs.take r ++ xs.drop r) (xs.take r).length)))
    (hbl : ∀ k, dv'.ownBlock = some k ∨ lv'.ownBlock = some k → dv.ownBlock = some k ∨ lv.ownBlock = some k ∨ w1.heap.size ≤ k) (hsep : ∀ k, u.ownBlock = some k → dv'.ownBlock ≠ some k ∧ lv'.ownBlock ≠ some k)
    (hf2 : Fr (fun k => k = Q ∨ lv.ownBlock = some k) w1 w2) :
    ∃ l, FreshAt w0 w2 A P Q dv' lv' (typX c xs r) (typN c xs r) (vs ++ [v]) (us ++ [u]) (ls ++ [l]) l1 vs1 l2 us1 := by
  have hl : (xs.take r).length = r := by have := h.1.2.2.2.2.2.2.1; simp; omega
  have h128 := h.1.2.2.2.2.1.2.1
  have hto := h.1.typed hb hc1 hf1 hr2 hbl hf2
  rw [List.take_append_drop, hl] at ho2
  have hpl := h.1.lt
  have s1 := hf1.size
  have hlen : (typE c xs r).length ≤ 400 := by
    unfold typE
    split
    · rw [backs_length]; omega
    · split
      · rw [backs_length]; omega
      · split <;> simp
  have hv1 : ∀ k, v.ownBlock = some k → wx.heap.size ≤ k ∧ k < w1.heap.size := ho1.lt
  have hu1 : ∀ k, u.ownBlock = some k → w1.heap.size ≤ k ∧ k < w2.heap.size := ho2.lt
  refine ⟨_, h.step hto (ho1.fr hf2 (fun k hk hh => ?_)).1 ho2.1 (Nat.le_refl _) s1 (fun k hk hh => ?_) (fun k hk hh => ?_) hlen⟩
  · have := hv1 k hk
    rcases hh with hh | hh
    · have := hpl Q (.inr (.inr (.inl rfl))); omega
    · have := hpl k (.inr (.inr (.inr (.inr hh)))); omega
  · have := hv1 k hk
    rcases hh with hh | hh | hh | hh
    · have := hpl A (.inl rfl); omega
    · have := hpl P (.inr (.inl rfl)); omega
    · have := hpl Q (.inr (.inr (.inl rfl))); omega
    · rcases hbl k hh with h' | h' | h'
      · have := hpl k (.inr (.inr (.inr (.inl h')))); omega
      · have := hpl k (.inr (.inr (.inr (.inr h')))); omega
      · omega
  · have := hu1 k hk
    rcases hh with hh | hh | hh | hh | hh
    · have := hpl A (.inl rfl); omega
    · have := hpl P (.inr (.inl rfl)); omega
    · have := hpl Q (.inr (.inr (.inl rfl))); omega
    · exact (hsep k hk).1 hh
    · exact (hsep k hk).2 hh

/-- both of a Take -/
theorem FreshAt.take {w0 wx w1 w2 : World} {A P Q r : Nat} {dv lv l1 l2 v u dv' : Value} {xs : List Int} {vs us vs1 us1 : List Value} {ls : List (List Int)} {n : Int} (h : FreshAt w0 wx A P Q dv lv xs r vs us ls l1 vs1 l2 us1)
    (ho1 : Own w1 wx.heap.size v (takeL n xs r)) (hc1 : ConAt w1 P (xs.drop (takeU n xs r)) (r - takeU n xs r)) (hf1 : Fr (· = P) wx w1)
    (ho2 : Own w2 w1.heap.size u (refL n (xs.take r))) (hr2 : RefC w2 w0.heap.size Q dv' lv ((xs.take r).drop (refU n (xs.take r))) (xs.drop r))
    (hbl : ∀ k, dv'.ownBlock = some k → dv.ownBlock = some k ∨ w1.heap.size ≤ k) (hsep : ∀ k, u.ownBlock = some k → dv'.ownBlock ≠ some k) (hf2 : Fr (· = Q) w1 w2) :
    ∃ l, FreshAt w0 w2 A P Q dv' lv (xs.drop (takeU n xs r)) (r - takeU n xs r) (vs ++ [v]) (us ++ [u]) (ls ++ [l]) l1 vs1 l2 us1 := by
  have hrl := h.1.2.2.2.2.2.2.1
  have h128 := h.1.2.2.2.2.1.2.1
  have hto := h.1.taken hc1 hf1 hr2 hbl hf2
  rw [takeL_ref hrl] at ho2
  have hpl := h.1.lt
  have s1 := hf1.size
  have hlen : (takeL n xs r).length ≤ 400 := by
    unfold takeL
    split
    · simp
    · simp; omega
  have hv1 : ∀ k, v.ownBlock = some k → wx.heap.size ≤ k ∧ k < w1.heap.size := ho1.lt
  have hu1 : ∀ k, u.ownBlock = some k → w1.heap.size ≤ k ∧ k < w2.heap.size := ho2.lt
  refine ⟨_, h.step hto (ho1.fr hf2 (fun k hk hh => ?_)).1 ho2.1 (Nat.le_refl _) s1 (fun k hk hh => ?_) (fun k hk hh => ?_) hlen⟩
  · have := hv1 k hk
    have := hpl Q (.inr (.inr (.inl rfl))); omega
  · have := hv1 k hk
    rcases hh with hh | hh | hh | hh | hh
    · have := hpl A (.inl rfl); omega
    · have := hpl P (.inr (.inl rfl)); omega
    · have := hpl Q (.inr (.inr (.inl rfl))); omega
    · rcases hbl k hh with h' | h'
      · have := hpl k (.inr (.inr (.inr (.inl h')))); omega
      · omega
    · have := hpl k (.inr (.inr (.inr (.inr hh)))); omega
  · have := hu1 k hk
    rcases hh with hh | hh | hh | hh | hh
    · have := hpl A (.inl rfl); omega
    · have := hpl P (.inr (.inl rfl)); omega
    · have := hpl Q (.inr (.inr (.inl rfl))); omega
    · exact hsep k hk hh
    · have := hpl k (.inr (.inr (.inr (.inr hh)))); omega

end Go.Proofs.YtollgpnaadgncaaDoor
