/- hartixlaw11.Book: what it holds ('BookAt'); typed. No condition. -/
import Derived.Test.YtollgpnaadgncaaDoorAppM
import Derived.Test.YtollgpnaadgncaaDoorRefI
namespace Go.Proofs.YtollgpnaadgncaaDoor
open Go.RowKit

/-- Block B is a book whose lists are the call's own (blocks from base on): D finished, G of it given, L being typed -/
def BookAt (w : World) (base B : Nat) (dv lv : Value) (D : List Int) (G : Nat) (L : List Int) : Prop :=
  base ≤ w.heap.size ∧ base ≤ B ∧ Blk w B [dv, .int .i64 G, lv] 56 ∧ Row 5 .u8 w base dv D ∧ Row 5 .u8 w base lv L ∧ (∀ k, dv.ownBlock = some k → lv.ownBlock ≠ some k)

/-- the blocks it lies in -/
def BookFP (B : Nat) (dv lv : Value) (k : Nat) : Prop := k = B ∨ dv.ownBlock = some k ∨ lv.ownBlock = some k

theorem BookAt.fr {S : Nat → Prop} {w w' : World} {base B G : Nat} {dv lv : Value} {D L : List Int} (h : BookAt w base B dv lv D G L) (hf : Fr S w w') (hn : ∀ k, BookFP B dv lv k → ¬ S k) : BookAt w' base B dv lv D G L :=
  ⟨Nat.le_trans h.1 hf.size, h.2.1, h.2.2.1.fr hf (hn B (.inl rfl)), row_fr h.2.2.2.1 hf (fun k hk => hn k (.inr (.inl hk))), row_fr h.2.2.2.2.1 hf (fun k hk => hn k (.inr (.inr hk))), h.2.2.2.2.2⟩
theorem BookAt.no {w w' : World} {base B G : Nat} {dv lv : Value} {D L : List Int} (h : BookAt w base B dv lv D G L) (hf : Fr No w w') : BookAt w' base B dv lv D G L := h.fr hf (fun _ _ => id)
theorem BookAt.dvB {w : World} {base B G : Nat} {dv lv : Value} {D L : List Int} (h : BookAt w base B dv lv D G L) : ∀ k, dv.ownBlock = some k → k ≠ B := row_ne_blk h.2.2.2.1 h.2.2.1 (by decide)
theorem BookAt.lvB {w : World} {base B G : Nat} {dv lv : Value} {D L : List Int} (h : BookAt w base B dv lv D G L) : ∀ k, lv.ownBlock = some k → k ≠ B := row_ne_blk h.2.2.2.2.1 h.2.2.1 (by decide)
theorem BookAt.low {w : World} {base B G : Nat} {dv lv : Value} {D L : List Int} (h : BookAt w base B dv lv D G L) : ∀ k, BookFP B dv lv k → base ≤ k := by
  rintro k (rfl | hk | hk)
  · exact h.2.1
  · exact (h.2.2.2.1.lt k hk).1
  · exact (h.2.2.2.2.1.lt k hk).1

/-- the line's value is written -/
theorem BookAt.setLine {w : World} {base B G : Nat} {dv lv lv' : Value} {D L L' : List Int} (h : BookAt w base B dv lv D G L) (hr : Row 5 .u8 w base lv' L') (ha : ∀ k, dv.ownBlock = some k → lv'.ownBlock ≠ some k) : BookAt (w.setCell ⟨B, 2, none⟩ lv') base B dv lv' D G L' := by
  have hfs : Fr (· = B) w (w.setCell ⟨B, 2, none⟩ lv') := (Fr.refl (· = B) w).setCell (p := ⟨B, 2, none⟩) (fun _ => rfl) _
  refine ⟨by have := h.1; simp [World.setCell]; omega, h.2.1, h.2.2.1.set 2 lv', row_fr h.2.2.2.1 hfs (fun k hk e => h.dvB k hk e), row_fr hr hfs (fun k hk e => row_ne_blk hr h.2.2.1 (by decide) k hk e), ha⟩

/-- what is finished is written -/
theorem BookAt.setDone {w : World} {base B G : Nat} {dv lv dv' : Value} {D L D' : List Int} (h : BookAt w base B dv lv D G L) (hr : Row 5 .u8 w base dv' D') (ha : ∀ k, dv'.ownBlock = some k → lv.ownBlock ≠ some k) : BookAt (w.setCell ⟨B, 0, none⟩ dv') base B dv' lv D' G L := by
  have hfs : Fr (· = B) w (w.setCell ⟨B, 0, none⟩ dv') := (Fr.refl (· = B) w).setCell (p := ⟨B, 0, none⟩) (fun _ => rfl) _
  refine ⟨by have := h.1; simp [World.setCell]; omega, h.2.1, h.2.2.1.set 0 dv', row_fr hr hfs (fun k hk e => row_ne_blk hr h.2.2.1 (by decide) k hk e), row_fr h.2.2.2.2.1 hfs (fun k hk e => h.lvB k hk e), ha⟩

/-- how much is given is written -/
theorem BookAt.setGiven {w : World} {base B G G' : Nat} {dv lv : Value} {D L : List Int} (h : BookAt w base B dv lv D G L) : BookAt (w.setCell ⟨B, 1, none⟩ (.int .i64 G')) base B dv lv D G' L := by
  have hfs : Fr (· = B) w (w.setCell ⟨B, 1, none⟩ (.int .i64 G')) := (Fr.refl (· = B) w).setCell (p := ⟨B, 1, none⟩) (fun _ => rfl) _
  exact ⟨by have := h.1; simp [World.setCell]; omega, h.2.1, h.2.2.1.set 1 _, row_fr h.2.2.2.1 hfs (fun k hk e => h.dvB k hk e), row_fr h.2.2.2.2.1 hfs (fun k hk e => h.lvB k hk e), h.2.2.2.2.2⟩

/-- what is finished, and the line, behind a byte -/
def bkD (c : Int) (D : List Int) (G : Nat) (L : List Int) : List Int := if typF c (D.drop G ++ L) = true then D ++ (L ++ [tyC c]) else D
def bkL (c : Int) (D : List Int) (G : Nat) (L : List Int) : List Int := (typX c (D.drop G ++ L) (D.drop G).length).drop (typN c (D.drop G ++ L) (D.drop G).length)

@[irreducible] def TypedPost (base B : Nat) (dv lv : Value) (D : List Int) (G : Nat) (L : List Int) (c : Int) (w : World) (e : Ending) (w' : World) : Prop :=
  ∃ dv' lv', e = .returned (.tuple #[]) ∧ BookAt w' base B dv' lv' (bkD c D G L) G (bkL c D G L) ∧ Fr (BookFP B dv lv) w w'

theorem typed_mk {base B G : Nat} {dv lv dv' lv' : Value} {D L D' L' : List Int} {c : Int} {w w' : World} (hD : bkD c D G L = D') (hL : bkL c D G L = L') (h : BookAt w' base B dv' lv' D' G L') (hf : Fr (BookFP B dv lv) w w') : TypedPost base B dv lv D G L c w (.returned (.tuple #[])) w' := by
  unfold TypedPost
  subst hD hL
  exact ⟨dv', lv', rfl, h, hf⟩

theorem bk_still {D L : List Int} {G : Nat} {c : Int} (hc : ((c = 8 ∨ c = 127) ∧ L = []) ∨ (c ≠ 21 ∧ c ≠ 8 ∧ c ≠ 127 ∧ (c = 0 ∨ (D.drop G).length + L.length = 128))) : bkD c D G L = D ∧ bkL c D G L = L := by
  have hlen : (D.drop G ++ L).length = (D.drop G).length + L.length := List.length_append
  have hF : typF c (D.drop G ++ L) = false := by unfold typF; rw [if_pos (by rw [hlen]; omega)]
  have hN : typN c (D.drop G ++ L) (D.drop G).length = (D.drop G).length := by unfold typN; rw [hF]; rfl
  have hX : typX c (D.drop G ++ L) (D.drop G).length = D.drop G ++ L := by
    unfold typX
    rcases hc with ⟨h1, rfl⟩ | ⟨h1, h2, h3, h4⟩
    · rw [if_neg (by omega), if_pos h1, List.append_nil, Nat.sub_self, show min 1 0 = 0 from rfl, Nat.sub_zero, List.take_length]
    · rw [if_neg h1, if_neg (by omega), if_pos (by rw [hlen]; omega)]
  refine ⟨by unfold bkD; rw [hF]; rfl, ?_⟩
  unfold bkL; rw [hX, hN, List.drop_left]

theorem bk_back {D L : List Int} {G n : Nat} {c : Int} (hc : c = 21 ∧ n = L.length ∨ (c = 8 ∨ c = 127) ∧ n = 1 ∧ L ≠ []) : bkD c D G L = D ∧ bkL c D G L = L.take (L.length - n) := by
  have hlen : (D.drop G ++ L).length = (D.drop G).length + L.length := List.length_append
  have hF : typF c (D.drop G ++ L) = false := by unfold typF; rw [if_pos (by omega)]
  have hN : typN c (D.drop G ++ L) (D.drop G).length = (D.drop G).length := by unfold typN; rw [hF]; rfl
  have hpos : (c = 8 ∨ c = 127) → 0 < L.length := fun h8 => by
    rcases hc with ⟨h1, _⟩ | ⟨_, _, h1⟩
    · omega
    · exact List.length_pos_iff.2 h1
  have hX : typX c (D.drop G ++ L) (D.drop G).length = D.drop G ++ L.take (L.length - n) := by
    unfold typX
    rcases hc with ⟨h1, rfl⟩ | ⟨h1, rfl, h2⟩
    · rw [if_pos h1, List.take_left, Nat.sub_self]; simp
    · have := hpos h1
      rw [if_neg (by omega), if_pos h1, hlen, Nat.add_sub_cancel_left, show min 1 L.length = 1 by omega, List.take_append, List.take_of_length_le (by omega), show (D.drop G).length + L.length - 1 - (D.drop G).length = L.length - 1 by omega]
  refine ⟨by unfold bkD; rw [hF]; rfl, ?_⟩
  unfold bkL; rw [hX, hN, List.drop_left]

theorem bk_more {D L : List Int} {G : Nat} {c : Int} (hc : c ≠ 21 ∧ c ≠ 8 ∧ c ≠ 127 ∧ c ≠ 0) (hl : (D.drop G).length + L.length + 1 < 128) (hF : ¬ (tyC c = 10 ∨ c = 4)) : bkD c D G L = D ∧ bkL c D G L = L ++ [tyC c] := by
  obtain ⟨_, e2, e3⟩ := typ_taken hc (dn := D.drop G) (ln := L) (by omega)
  have hF2 : typF c (D.drop G ++ L) = false := by rw [e3, decide_eq_false hF, decide_eq_false (by omega)]; rfl
  have hN : typN c (D.drop G ++ L) (D.drop G).length = (D.drop G).length := by unfold typN; rw [hF2]; rfl
  refine ⟨by unfold bkD; rw [hF2]; rfl, ?_⟩
  unfold bkL; rw [e2, hN, List.drop_left]

theorem bk_line {D L : List Int} {G : Nat} {c : Int} (hc : c ≠ 21 ∧ c ≠ 8 ∧ c ≠ 127 ∧ c ≠ 0) (hl : (D.drop G).length + L.length < 128) (hF : (tyC c = 10 ∨ c = 4) ∨ (D.drop G).length + L.length + 1 = 128) : bkD c D G L = D ++ (L ++ [tyC c]) ∧ bkL c D G L = [] := by
  obtain ⟨_, e2, e3⟩ := typ_taken hc (dn := D.drop G) (ln := L) hl
  have hF2 : typF c (D.drop G ++ L) = true := by
    rw [e3]
    rcases hF with h | h
    · rw [decide_eq_true h]; rfl
    · rw [decide_eq_true h]; simp
  have hN : typN c (D.drop G ++ L) (D.drop G).length = (D.drop G ++ (L ++ [tyC c])).length := by unfold typN; rw [hF2]; simp; omega
  refine ⟨by unfold bkD; rw [hF2]; rfl, ?_⟩
  unfold bkL; rw [e2, hN, List.drop_length]

/-- the book and the console's bytes go together -/
theorem bk_join {D L : List Int} {G : Nat} {c : Int} (hG : G ≤ D.length) (hl : (D.drop G).length + L.length ≤ 128) :
    (bkD c D G L).drop G ++ bkL c D G L = typX c (D.drop G ++ L) (D.drop G).length ∧ ((bkD c D G L).drop G).length = typN c (D.drop G ++ L) (D.drop G).length ∧ G ≤ (bkD c D G L).length ∧ (bkD c D G L).length + (bkL c D G L).length ≤ D.length + L.length + 1 := by
  have hlen : (D.drop G ++ L).length = (D.drop G).length + L.length := List.length_append
  have hdl : (D.drop G).length = D.length - G := List.length_drop
  by_cases hF : typF c (D.drop G ++ L) = true
  · have hc : c ≠ 21 ∧ c ≠ 8 ∧ c ≠ 127 ∧ c ≠ 0 ∧ (D.drop G ++ L).length ≠ 128 := by
      unfold typF at hF
      split at hF
      · cases hF
      · omega
    obtain ⟨e1, e2, e3⟩ := typ_taken ⟨hc.1, hc.2.1, hc.2.2.1, hc.2.2.2.1⟩ (dn := D.drop G) (ln := L) (by omega)
    have hN : typN c (D.drop G ++ L) (D.drop G).length = (D.drop G ++ (L ++ [tyC c])).length := by unfold typN; rw [hF]; simp; omega
    have hD : bkD c D G L = D ++ (L ++ [tyC c]) := by unfold bkD; rw [if_pos hF]
    have hL : bkL c D G L = [] := by unfold bkL; rw [e2, hN, List.drop_length]
    rw [hD, hL, hN, e2]
    refine ⟨?_, ?_, by simp; omega, by simp; omega⟩
    · rw [List.drop_append_of_le_length hG]; simp
    · rw [List.drop_append_of_le_length hG]
  · have hF2 : typF c (D.drop G ++ L) = false := by simpa using hF
    have hN : typN c (D.drop G ++ L) (D.drop G).length = (D.drop G).length := by unfold typN; rw [hF2]; rfl
    have hD : bkD c D G L = D := by unfold bkD; rw [if_neg hF]
    have hX : ∃ L', typX c (D.drop G ++ L) (D.drop G).length = D.drop G ++ L' ∧ L'.length ≤ L.length + 1 := by
      unfold typX
      split
      · exact ⟨[], by rw [List.take_left]; simp, by simp⟩
      · split
        · refine ⟨L.take (L.length - min 1 L.length), ?_, by simp; omega⟩
          rw [hlen, Nat.add_sub_cancel_left, List.take_append, List.take_of_length_le (by omega), show (D.drop G).length + L.length - min 1 L.length - (D.drop G).length = L.length - min 1 L.length by omega]
        · split
          · exact ⟨L, rfl, by omega⟩
          · exact ⟨L ++ [tyC c], by rw [List.append_assoc], by simp⟩
    obtain ⟨L', hX, hL'⟩ := hX
    have hL : bkL c D G L = L' := by unfold bkL; rw [hX, hN, List.drop_left]
    rw [hD, hL, hX, hN]
    exact ⟨rfl, rfl, hG, by omega⟩

end Go.Proofs.YtollgpnaadgncaaDoor
