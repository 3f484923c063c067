/- hartixref11.Console: Take. No condition. -/
import Derived.Test.YtollgpnaadgncaaDoorRefE
import Derived.Deep.Cut
namespace Go.Proofs.YtollgpnaadgncaaDoor
open Go.RowKit

/-- how many bytes the document's Take uses up -/
def refU (n : Int) (dn : List Int) : Nat := if dn = [] ∨ n < 1 then 0 else useK n dn

@[irreducible] def RefTakePost (base Q : Nat) (dv lv : Value) (dn ln : List Int) (n : Int) (w : World) (e : Ending) (w' : World) : Prop :=
  ∃ v' dv', e = .returned (.tuple #[v', .bool (decide (0 < dn.length))]) ∧ Own w' w.heap.size v' (refL n dn) ∧ RefC w' base Q dv' lv (dn.drop (refU n dn)) ln ∧ (∀ k, dv'.ownBlock = some k → dv.ownBlock = some k ∨ w.heap.size ≤ k) ∧ (∀ k, v'.ownBlock = some k → dv'.ownBlock ≠ some k) ∧ Fr (· = Q) w w'

theorem row_ne_blk {e t : TypeId} {n Q : Nat} {cs cs' : List Value} {w : World} {base : Nat} {v : Value} (h : w.ownsRow base e 1 v n cs) (hb : Blk w Q cs' t) (hne : e ≠ t) : ∀ k, v.ownBlock = some k → k ≠ Q := by
  intro k hk
  rcases h.2 with ⟨rfl, _⟩ | ⟨g, cap, cur, rfl, _, hg, _⟩
  · simp [Value.ownBlock] at hk
  · cases hk; rintro rfl; unfold Blk at hb; rw [hg] at hb; cases hb; exact hne rfl

theorem RefC.dvQ {w : World} {base Q : Nat} {dv lv : Value} {dn ln : List Int} (h : RefC w base Q dv lv dn ln) : ∀ k, dv.ownBlock = some k → k ≠ Q := row_ne_blk h.2.2.1 h.2.1 (by decide)
theorem RefC.lvQ {w : World} {base Q : Nat} {dv lv : Value} {dn ln : List Int} (h : RefC w base Q dv lv dn ln) : ∀ k, lv.ownBlock = some k → k ≠ Q := row_ne_blk h.2.2.2.1 h.2.1 (by decide)

theorem own_base_row {w : World} {base base' : Nat} {v : Value} {xs : List Int} (h : Own w base v xs) (hb : base' ≤ base) : Row 5 .u8 w base' v xs := (h.base hb).1

theorem reftake_fin {base Q : Nat} {dv lv av nv : Value} {dn ln : List Int} {n : Int} {w w2 w3 : World} (h : RefC w base Q dv lv dn ln) (hd : ¬ (dn = [] ∨ n < 1)) (ha : Own w2 w.heap.size av (dn.take (giveK n dn))) (hb2 : Below w.heap.size w w2)
    (hn : Own w3 w2.heap.size nv (dn.drop (useK n dn))) (hb3 : Below w2.heap.size w2 w3) : RefTakePost base Q dv lv dn ln n w (.returned (.tuple #[av, .bool true])) (w3.setCell ⟨Q, 0, none⟩ nv) := by
  have s2 := hb2.size
  have s3 := hb3.size
  have h3 := (h.no (Fr.of_below hb2)).no (Fr.of_below hb3)
  have hQ : Q < w.heap.size := h.2.1.lt
  have hlv := h.2.2.2.1.lt
  have hf : Fr (· = Q) w3 (w3.setCell ⟨Q, 0, none⟩ nv) := (Fr.refl (· = Q) w3).setCell (p := ⟨Q, 0, none⟩) (fun _ => rfl) nv
  unfold RefTakePost
  refine ⟨av, nv, ?_, ?_, ⟨?_, ?_, ?_, ?_, ?_⟩, ?_, ?_, ?_⟩
  · rw [decide_eq_true (List.length_pos_iff.2 (fun e => hd (.inl e)))]
  · unfold refL; rw [if_neg hd]
    exact (ha.fr (Fr.of_below hb3) (fun _ _ => id)).fr hf (fun k hk hh => by have := (ha.lt k hk).1; omega)
  · have := h.1; simp [World.setCell]; omega
  · exact h3.2.1.set 0 nv
  · unfold refU; rw [if_neg hd]
    exact own_base_row (hn.fr hf (fun k hk hh => by have := (hn.lt k hk).1; omega)) (by have := h.1; omega)
  · exact row_fr h3.2.2.2.1 hf (fun k hk hh => h3.lvQ k hk hh)
  · intro k hk hk2
    have := (hn.lt k hk).1
    have := (hlv k hk2).2
    omega
  · exact fun k hk => .inr (by have := (hn.lt k hk).1; omega)
  · intro k hk hk2
    have := (hn.lt k hk2).1
    have := (ha.lt k hk).2
    omega
  · exact (((Fr.of_below hb2).mono (S' := (· = Q)) (fun _ h => h.elim)).trans ((Fr.of_below hb3).mono (S' := (· = Q)) (fun _ h => h.elim)) (fun _ _ h => h)).trans hf (fun _ _ h => h)

theorem bsl_nil_of (w : World) (ao : Option Addr) (n c : Nat) (hn : n = 0) (hc : c ≤ 9223372036854775807) : BSl w (.slice ao n c) [] := by
  subst hn; exact bsl_empty w ao c hc

theorem reftake_still {base Q : Nat} {dv lv : Value} {dn ln : List Int} {n : Int} {w : World} (h : RefC w base Q dv lv dn ln) (hd : dn = [] ∨ n < 1) : RefTakePost base Q dv lv dn ln n w (.returned (.tuple #[.slice none 0 0, .bool (decide (0 < dn.length))])) w := by
  unfold RefTakePost
  refine ⟨_, dv, rfl, ?_, ?_, fun k hk => .inl hk, fun k hk => by simp [Value.ownBlock] at hk, Fr.refl _ _⟩
  · unfold refL; rw [if_pos hd]; exact own_nil _ _
  · unfold refU; rw [if_pos hd]; simpa using h

set_option maxRecDepth 100000 in
set_option maxHeartbeats 3200000 in
theorem reftake_calls (base Q : Nat) (dv lv : Value) (dn ln : List Int) (n : Int) (w : World) (h : RefC w base Q dv lv dn ln) (hd2 : dn.length ≤ 1000) (hn1 : -9223372036854775808 ≤ n) (hn2 : n ≤ 9223372036854775807) :
    Calls Tryd.prog 26 #[.pointer (some ⟨Q, 0, none⟩), .int .i64 n] w (RefTakePost base Q dv lv dn ln n w) := by
  have HRd := Lib.hid (refready_calls base Q dv lv dn ln w h)
  have hb := BSl.of_own h.2.2.1 (by omega)
  have HRC := Lib.hid h
  obtain ⟨ao, c, rfl, _⟩ := row_shape h.2.2.1
  have c0 : w.cell? ⟨Q, 0, none⟩ = some (.slice ao dn.length c) := h.2.1.cell 0
  have f0 := h.2.1.free 0
  have HB := Lib.hid hb; clear hb
  by_cases hs : dn = [] ∨ n < 1
  · have FIN := Lib.hid (reftake_still HRC.out hs)
    by_cases hd : dn = []
    · have e0 : decide (0 < dn.length) = false := by simp [hd]
      rw [e0] at HRd FIN
      clear hd e0 h hs
      go_enter Tryd.func26, Tryd.ntmps26
      go_wp2_with fail
      refine HRd.out.mono ?_
      rintro e w' ⟨rfl, rfl⟩
      go_wp2_with fail
      go_ret2
      exact FIN.out
    · have hn : n < 1 := by
        rcases hs with h | h
        · exact absurd h hd
        · exact h
      have e0 : decide (0 < dn.length) = true := decide_eq_true (List.length_pos_iff.2 hd)
      rw [e0] at HRd FIN
      clear hd e0 h hs
      go_enter Tryd.func26, Tryd.ntmps26
      go_wp2_with fail
      refine HRd.out.mono ?_
      rintro e w' ⟨rfl, rfl⟩
      go_wp2_with fail
      go_ret2
      exact FIN.out
  · have hd : dn ≠ [] := fun e => hs (.inl e)
    have hn : ¬ n < 1 := fun e => hs (.inr e)
    have hpos : 0 < dn.length := List.length_pos_iff.2 hd
    have e0 : decide (0 < dn.length) = true := decide_eq_true hpos
    rw [e0] at HRd
    have hK := giveK_le n dn
    have hU := useK_le n dn hpos
    have FIN := Lib.hid (fun (w2 w3 : World) (av nv : Value) ha hb2 hn hb3 => reftake_fin (av := av) (nv := nv) (w2 := w2) (w3 := w3) HRC.out hs ha hb2 hn hb3)
    have hg := refgiven_calls base Q _ lv dn ln n w h hpos hd2 (by omega) hn2
    obtain ⟨K, hKe⟩ : ∃ K, K = giveK n dn := ⟨_, rfl⟩
    obtain ⟨U, hUe⟩ : ∃ U, U = useK n dn := ⟨_, rfl⟩
    rw [← hKe] at hK hg FIN
    rw [← hUe] at hU hg FIN
    have HG := Lib.hid hg
    have hcap := HB.out.capo
    clear hKe hUe hg h hd e0 hs
    have HF := Lib.hid (HB.out.from U hU)
    by_cases hzc : c = U
    · have hlen : dn.length = U := by omega
      have HD := Lib.hid (show dn.drop U = [] by simp; omega)
      replace hzc := hzc.symm
      subst hzc
      have HL := Lib.hid hlen; clear hlen
      go_enter Tryd.func26, Tryd.ntmps26
      go_wp2_with fail
      refine HRd.out.mono ?_
      rintro e w' ⟨rfl, rfl⟩
      go_wp2_with fail
      refine HG.out.mono ?_
      rintro e w' ⟨rfl, rfl⟩
      go_wp2_with fail
      refine (joined1_calls (dn.take K) _ _ (HB.out.upto K hK)).mono ?_
      rintro e w2 ⟨v2, rfl, ho2, hb2⟩
      have hf2 := Fr.of_below hb2
      have hk2 := HRC.out.no hf2
      have c0 : w2.cell? ⟨Q, 0, none⟩ = some (.slice ao dn.length U) := hk2.2.1.cell 0
      have f0 := hk2.2.1.free 0
      have HO2 := Lib.hid ho2
      have HB2 := Lib.hid hb2
      clear ho2 hb2 hf2 hk2
      go_wp2_with fail
      refine (joined1_calls (dn.drop U) _ _ (by rw [HD.out]; exact bsl_nil_of _ _ _ _ (by have := HL.out; omega) (by omega))).mono ?_
      rintro e w3 ⟨v3, rfl, ho3, hb3⟩
      obtain ⟨a3, c3, hv3⟩ := ho3.shape
      obtain ⟨L3, hL3⟩ : ∃ L, L = (dn.drop U).length := ⟨_, rfl⟩
      rw [← hL3] at hv3
      subst hv3
      clear hL3
      have hk3 := ((HRC.out.no (Fr.of_below HB2.out)).no (Fr.of_below hb3))
      have c0 : w3.cell? ⟨Q, 0, none⟩ = some (.slice ao dn.length U) := hk3.2.1.cell 0
      have f0 := hk3.2.1.free 0
      have FI := Lib.hid (FIN.out w2 w3 v2 _ HO2.out HB2.out ho3 hb3)
      clear ho3 hb3 hk3
      go_wp2_with fail
      go_ret2
      exact FI.out
    · have hzc2 : ¬ U = c := fun h => hzc h.symm
      go_enter Tryd.func26, Tryd.ntmps26
      go_wp2_with fail
      refine HRd.out.mono ?_
      rintro e w' ⟨rfl, rfl⟩
      go_wp2_with fail
      refine HG.out.mono ?_
      rintro e w' ⟨rfl, rfl⟩
      go_wp2_with fail
      refine (joined1_calls (dn.take K) _ _ (HB.out.upto K hK)).mono ?_
      rintro e w2 ⟨v2, rfl, ho2, hb2⟩
      have hf2 := Fr.of_below hb2
      have hk2 := HRC.out.no hf2
      have c0 : w2.cell? ⟨Q, 0, none⟩ = some (.slice ao dn.length c) := hk2.2.1.cell 0
      have f0 := hk2.2.1.free 0
      have HO2 := Lib.hid ho2
      have HB2 := Lib.hid hb2
      clear ho2 hb2 hf2 hk2
      go_wp2_with fail
      refine (joined1_calls (dn.drop U) _ _ (HF.out.no (Fr.of_below HB2.out))).mono ?_
      rintro e w3 ⟨v3, rfl, ho3, hb3⟩
      obtain ⟨a3, c3, hv3⟩ := ho3.shape
      obtain ⟨L3, hL3⟩ : ∃ L, L = (dn.drop U).length := ⟨_, rfl⟩
      rw [← hL3] at hv3
      subst hv3
      clear hL3
      have hk3 := ((HRC.out.no (Fr.of_below HB2.out)).no (Fr.of_below hb3))
      have c0 : w3.cell? ⟨Q, 0, none⟩ = some (.slice ao dn.length c) := hk3.2.1.cell 0
      have f0 := hk3.2.1.free 0
      have FI := Lib.hid (FIN.out w2 w3 v2 _ HO2.out HB2.out ho3 hb3)
      clear ho3 hb3 hk3
      go_wp2_with fail
      go_ret2
      exact FI.out

end Go.Proofs.YtollgpnaadgncaaDoor
