/- ConsoleLines: given joined; what stands at the loop's head ('LinesAt'). No condition. -/
import Derived.Test.YtollgpnaadgncaaDoorBookY
import Derived.Test.YtollgpnaadgncaaDoorBookZ
import Derived.Test.YtollgpnaadgncaaDoorPair
namespace Go.Proofs.YtollgpnaadgncaaDoor
open Go.RowKit

theorem bkgiven_calls (base B : Nat) (dv lv lt : Value) (D : List Int) (G : Nat) (L : List Int) (n : Int) (w : World) (h : BookAt w base B dv lv D G L) (hG : G ≤ D.length) (hD : D.length ≤ 100000) (hn : 1 ≤ n) (hn2 : n ≤ 1000)
    (hl : BSl w lt (takeL n (D.drop G ++ L) (D.drop G).length)) (hlB : ∀ k, lt.ownBlock = some k → k ≠ B) :
    Calls Tryd.prog 28 #[.pointer (some ⟨B, 0, none⟩), lt, .bool (decide (0 < (D.drop G).length)), .int .i64 n] w (GivenPost base B dv lv D G (takeU n (D.drop G ++ L) (D.drop G).length) L w) := by
  have hdl : (D.drop G).length = D.length - G := List.length_drop
  have ht : (D.drop G ++ L).take (D.drop G).length = D.drop G := List.take_left
  unfold takeL at hl
  unfold takeU
  rw [ht] at hl ⊢
  by_cases h0 : (D.drop G).length = 0
  · rw [if_pos h0] at hl
    rw [if_pos h0, show decide (0 < (D.drop G).length) = false by simp [h0]]
    exact given_none base B dv lv lt D G L n w h (by omega) hD hl
  · rw [if_neg h0] at hl
    rw [if_neg h0, show decide (0 < (D.drop G).length) = true by simp; omega]
    have hGl : G < D.length := by omega
    by_cases h4 : (D.drop G)[0]? = some 4
    · have hk : giveK n (D.drop G) = 0 := by unfold giveK; rw [if_neg (by omega), if_pos h4]
      have hu : useK n (D.drop G) = 1 := by unfold useK; rw [if_neg (by omega), if_pos h4]
      rw [hk] at hl
      rw [hu]
      refine given_end base B dv lv lt D G L n w h hGl ?_ hD hn (by simpa using hl)
      rw [List.getElem?_drop, List.getElem?_eq_getElem (by omega)] at h4
      simpa using h4
    · have hu : useK n (D.drop G) = giveK n (D.drop G) := by unfold useK; rw [if_neg (by omega), if_neg h4]
      rw [hu]
      refine given_main base B dv lv lt D G L n w h hGl h4 hD hn hn2 ?_ hlB
      have hkl := giveK_le n (D.drop G)
      rwa [List.take_append_of_le_length hkl] at hl

/-- the console and the book go together; m is at least the number of bytes that were typed -/
def LinesAt (w0 wx : World) (P B : Nat) (dv lv : Value) (D : List Int) (G : Nat) (L : List Int) (m : Nat) : Prop :=
  ConAt wx P (D.drop G ++ L) (D.drop G).length ∧ BookAt wx w0.heap.size B dv lv D G L ∧ G ≤ D.length ∧ D.length + L.length ≤ m ∧ w0.heap.size ≤ P ∧ Below w0.heap.size w0 wx

theorem LinesAt.off {w0 wx : World} {P B : Nat} {dv lv : Value} {D : List Int} {G : Nat} {L : List Int} {m : Nat} (h : LinesAt w0 wx P B dv lv D G L m) : ∀ k, BookFP B dv lv k → k ≠ P := by
  rintro k (rfl | hk | hk)
  · obtain ⟨cs, hb⟩ := h.1.blk
    exact h.2.1.2.2.1.ne hb (by decide)
  · exact row_ne_con h.2.1.2.2.2.1 h.1 (by decide) k hk
  · exact row_ne_con h.2.1.2.2.2.2.1 h.1 (by decide) k hk

theorem LinesAt.no {w0 wx wy : World} {P B : Nat} {dv lv : Value} {D : List Int} {G : Nat} {L : List Int} {m : Nat} (h : LinesAt w0 wx P B dv lv D G L m) (hf : Fr No wx wy) : LinesAt w0 wy P B dv lv D G L m :=
  ⟨h.1.no hf, h.2.1.no hf, h.2.2.1, h.2.2.2.1, h.2.2.2.2.1, Fr.below_of h.2.2.2.2.2 hf h.2.2.2.2.2.size (fun _ h => h.elim)⟩
theorem LinesAt.up {w0 wx : World} {P B : Nat} {dv lv : Value} {D : List Int} {G : Nat} {L : List Int} {m m' : Nat} (h : LinesAt w0 wx P B dv lv D G L m) (hm : m ≤ m') : LinesAt w0 wx P B dv lv D G L m' :=
  ⟨h.1, h.2.1, h.2.2.1, Nat.le_trans h.2.2.2.1 hm, h.2.2.2.2⟩

theorem LinesAt.typed {w0 wx w1 w2 : World} {P B : Nat} {dv lv dv' lv' : Value} {D : List Int} {G : Nat} {L : List Int} {m : Nat} {c : Int} (h : LinesAt w0 wx P B dv lv D G L m) (hc : ConAt w1 P (typX c (D.drop G ++ L) (D.drop G).length) (typN c (D.drop G ++ L) (D.drop G).length)) (hf1 : Fr (· = P) wx w1)
    (hb : BookAt w2 w0.heap.size B dv' lv' (bkD c D G L) G (bkL c D G L)) (hf2 : Fr (BookFP B dv lv) w1 w2) : LinesAt w0 w2 P B dv' lv' (bkD c D G L) G (bkL c D G L) (m + 1) := by
  have h128 := h.1.2.1
  rw [List.length_append] at h128
  obtain ⟨j1, j2, j3, j4⟩ := bk_join (c := c) h.2.2.1 h128
  have hoff := h.off
  have hlow := h.2.1.low
  have hbel := h.2.2.2.2.2
  refine ⟨?_, hb, j3, by have := h.2.2.2.1; omega, h.2.2.2.2.1, ?_⟩
  · rw [j1, j2]; exact hc.fr hf2 (fun hh => hoff P hh rfl)
  · have h1 := Fr.below_of hbel hf1 hbel.size (fun k hk => by rw [hk]; exact h.2.2.2.2.1)
    exact Fr.below_of h1 hf2 h1.size (fun k hk => hlow k hk)

theorem LinesAt.given {w0 wx w1 w2 w3 : World} {P B U : Nat} {dv lv : Value} {D : List Int} {G : Nat} {L : List Int} {m : Nat} (h : LinesAt w0 wx P B dv lv D G L m) (hU : U ≤ (D.drop G).length) (hc : ConAt w1 P ((D.drop G ++ L).drop U) ((D.drop G).length - U)) (hf1 : Fr (· = P) wx w1) (hf2 : Fr No w1 w2)
    (hb : BookAt w3 w0.heap.size B dv lv D (G + U) L) (hf3 : Fr (· = B) w2 w3) : LinesAt w0 w3 P B dv lv D (G + U) L m := by
  have hdl : (D.drop G).length = D.length - G := List.length_drop
  have e1 : (D.drop G ++ L).drop U = D.drop (G + U) ++ L := by rw [List.drop_append_of_le_length hU, List.drop_drop]
  have e2 : (D.drop G).length - U = (D.drop (G + U)).length := by rw [List.length_drop, List.length_drop]; omega
  rw [e1, e2] at hc
  have hbel := h.2.2.2.2.2
  refine ⟨(hc.no hf2).fr hf3 (fun e => h.off B (.inl rfl) e.symm), hb, by have := h.2.2.1; omega, h.2.2.2.1, h.2.2.2.2.1, ?_⟩
  have h1 := Fr.below_of hbel hf1 hbel.size (fun k hk => by rw [hk]; exact h.2.2.2.2.1)
  have h2 := Fr.below_of h1 hf2 h1.size (fun _ h => h.elim)
  exact Fr.below_of h2 hf3 h2.size (fun k hk => by rw [hk]; exact h.2.1.2.1)

end Go.Proofs.YtollgpnaadgncaaDoor
