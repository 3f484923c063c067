/- hartixlaw11.from: a pair of a state. No condition. -/
import Derived.Test.YtollgpnaadgncaaDoorPairT
import Derived.Test.YtollgpnaadgncaaDoorIsB
namespace Go.Proofs.YtollgpnaadgncaaDoor
open Go.RowKit

@[irreducible] def PairFromPost (d l : List Int) (w : World) (e : Ending) (w' : World) : Prop :=
  (∃ A P Q dv lv, e = .returned (.tuple #[.pointer (some ⟨A, 0, none⟩), .bool true]) ∧ PairAt w' w.heap.size A P Q dv lv (d ++ l) d.length ∧ Below w.heap.size w w') ∨
  (e = .returned (.tuple #[.pointer none, .bool true]) ∧ Below w.heap.size w w')

theorem pairfrom_fin {d l : List Int} {w w1 w2 : World} {P Q : Nat} {dv lv : Value} (hok : okS d l) (g1 : InB d) (g2 : InB l) (hP : w.heap.size ≤ P) (hc : ConAt w1 P (d ++ l) d.length) (hf1 : Fr No w w1) (hr : RefC w2 w1.heap.size Q dv lv d l) (hQ : w1.heap.size ≤ Q) (hf2 : Fr No w1 w2) :
    PairFromPost d l w (.returned (.tuple #[.pointer (some ⟨w2.heap.size, 0, none⟩), .bool true])) (w2.alloc (.cells #[.pointer (some ⟨P, 0, none⟩), .pointer (some ⟨Q, 0, none⟩)] 53)) := by
  have s1 := hf1.size
  have s2 := hf2.size
  have ha : Fr No w2 (w2.alloc (.cells #[.pointer (some ⟨P, 0, none⟩), .pointer (some ⟨Q, 0, none⟩)] 53)) := (Fr.refl No w2).alloc _
  have hr3 := hr.no ha
  unfold PairFromPost
  refine .inl ⟨w2.heap.size, P, Q, dv, lv, rfl, ⟨by omega, hP, by omega, Blk.new w2 [.pointer (some ⟨P, 0, none⟩), .pointer (some ⟨Q, 0, none⟩)] _, (hc.no hf2).no ha, ?_, OKX.of hok g1 g2⟩, ((hf1.trans hf2 (fun _ _ h => h)).trans ha (fun _ _ h => h)).below⟩
  rw [List.take_left, List.drop_left]
  exact ⟨by simp; omega, hr3.2.1, ⟨hr3.2.2.1.1, by
    rcases hr3.2.2.1.2 with h | ⟨g, cap, cur, hv, hg, rest⟩
    · exact .inl h
    · exact .inr ⟨g, cap, cur, hv, Nat.le_trans s1 hg, rest⟩⟩, ⟨hr3.2.2.2.1.1, by
    rcases hr3.2.2.2.1.2 with h | ⟨g, cap, cur, hv, hg, rest⟩
    · exact .inl h
    · exact .inr ⟨g, cap, cur, hv, Nat.le_trans s1 hg, rest⟩⟩, hr3.2.2.2.2⟩

set_option maxRecDepth 100000 in
set_option maxHeartbeats 6400000 in
theorem pairfrom_calls (d l : List Int) (v1 v2 : Value) (w : World) (h1 : BSl w v1 d) (h2 : BSl w v2 l) (g1 : InB d) (g2 : InB l) (hk : KeysAt w) :
    Calls Tryd.prog 32 #[.agg #[v1, v2]] w (PairFromPost d l w) := by
  obtain ⟨a1, c1, rfl⟩ := h1.shape
  obtain ⟨a2, c2, rfl⟩ := h2.shape
  have H1 := Lib.hid h1; clear h1
  have H2 := Lib.hid h2; clear h2
  have G1 := Lib.hid g1; clear g1
  have G2 := Lib.hid g2; clear g2
  have HK := Lib.hid hk; clear hk
  go_enter Tryd.func32, Tryd.ntmps32
  go_wp2_with fail
  generalize hW : w.alloc _ = W
  have F0 : Fr No w W := by rw [← hW]; exact (Fr.refl _ _).alloc _
  have hBK : Blk W w.heap.size [.slice a1 d.length c1, .slice a2 l.length c2] 24 := by rw [← hW]; exact Blk.new w _ _
  clear hW
  have HF0 := Lib.hid F0; clear F0
  refine (from_calls d l _ _ W (H1.out.no HF0.out) (H2.out.no HF0.out) G1.out G2.out (HK.out.no HF0.out)).mono ?_
  intro e w1 hp
  unfold FromPost at hp
  rcases hp with ⟨hok, P, rfl, hP, hC, hB⟩ | ⟨hno, i, rfl, hF, hB⟩
  · have HF1 := Lib.hid (HF0.out.trans (Fr.of_below hB) (fun _ _ h => h))
    have hb1 := hBK.fr (Fr.of_below hB) id
    have s0 : w1.cell? ⟨w.heap.size, 0, none⟩ = some (.slice a1 d.length c1) := hb1.cell 0
    have s1 : w1.cell? ⟨w.heap.size, 1, none⟩ = some (.slice a2 l.length c2) := hb1.cell 1
    have HOK := Lib.hid hok
    have HC := Lib.hid hC
    have HP := Lib.hid (Nat.le_trans HF0.out.size hP)
    clear hB hb1 hBK hok hC hP
    go_wp2_with fail
    refine (reffrom_calls d l _ _ w1 (H1.out.no HF1.out) (H2.out.no HF1.out)).mono ?_
    intro e w2 hp
    unfold RefFromPost at hp
    rcases hp with ⟨_, Q, dv, lv, rfl, hr, hQ, hb2⟩ | ⟨hno, _⟩
    case inr => exact absurd HOK.out hno
    have FIN := Lib.hid (pairfrom_fin HOK.out G1.out G2.out HP.out HC.out HF1.out hr hQ (Fr.of_below hb2))
    clear hr hQ hb2
    go_wp2_with fail
    go_ret2
    exact FIN.out
  · have HF1 := Lib.hid (HF0.out.trans (Fr.of_below hB) (fun _ _ h => h))
    have hb1 := hBK.fr (Fr.of_below hB) id
    have s0 : w1.cell? ⟨w.heap.size, 0, none⟩ = some (.slice a1 d.length c1) := hb1.cell 0
    have s1 : w1.cell? ⟨w.heap.size, 1, none⟩ = some (.slice a2 l.length c2) := hb1.cell 1
    have HNO := Lib.hid hno
    have HFA := Lib.hid hF
    clear hB hb1 hBK hno hF
    go_wp2_with fail
    refine (reffrom_calls d l _ _ w1 (H1.out.no HF1.out) (H2.out.no HF1.out)).mono ?_
    intro e w2 hp
    unfold RefFromPost at hp
    rcases hp with ⟨hok, _⟩ | ⟨_, rfl, hb2⟩
    case inl => exact absurd hok HNO.out
    have HF2 := Lib.hid (HF1.out.trans (Fr.of_below hb2) (fun _ _ h => h))
    have HFA2 := Lib.hid (HFA.out.fr (Fr.of_below hb2) (fun _ h => h.elim))
    clear hb2
    go_wp2_with fail
    refine (newfault_calls _ _ _ w2).mono ?_
    rintro e w3 ⟨lk, rfl, hlk, hb3⟩
    have HF3 := Lib.hid (HF2.out.trans (Fr.of_below hb3) (fun _ _ h => h))
    have HFA3 := Lib.hid (HFA2.out.fr (Fr.of_below hb3) (fun _ h => h.elim))
    have HLK := Lib.hid hlk
    clear hlk hb3
    go_wp2_with fail
    refine (isfault_calls _ _ _ _ _ _ w3 HFA3.out HLK.out (by decide)).mono ?_
    rintro e w4 ⟨rfl, hf4⟩
    have FIN := Lib.hid (show PairFromPost d l w (.returned (.tuple #[.pointer none, .bool true])) w4 from by
      unfold PairFromPost; exact .inr ⟨rfl, (HF3.out.trans hf4 (fun _ _ h => h)).below⟩)
    clear hf4
    go_wp2_with fail
    go_ret2
    exact FIN.out

end Go.Proofs.YtollgpnaadgncaaDoor
