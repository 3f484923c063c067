/- hartixlaw11.Pair: typed, step. No condition. -/
import Derived.Test.YtollgpnaadgncaaDoorPair
namespace Go.Proofs.YtollgpnaadgncaaDoor
open Go.RowKit

@[irreducible] def PairPost (base A P Q : Nat) (dv lv : Value) (w : World) (e : Ending) (w' : World) : Prop :=
  e = .returned (.bool true) ∧ ∃ P' Q' dv' lv' xs r, PairTo base A P Q dv lv w w' P' Q' dv' lv' xs r

theorem pairpost_mk {base A P Q P' Q' r : Nat} {dv lv dv' lv' : Value} {xs : List Int} {w w' : World} (h : PairTo base A P Q dv lv w w' P' Q' dv' lv' xs r) : PairPost base A P Q dv lv w (.returned (.bool true)) w' := by
  unfold PairPost; exact ⟨rfl, P', Q', dv', lv', xs, r, h⟩

set_option maxRecDepth 100000 in
set_option maxHeartbeats 3200000 in
theorem pairtyped_calls (base A P Q : Nat) (dv lv : Value) (xs : List Int) (r : Nat) (c : Int) (w : World) (h : PairAt w base A P Q dv lv xs r) (hk : KeysAt w) (hb : 0 ≤ c ∧ c ≤ 255) :
    Calls Tryd.prog 49 #[.pointer (some ⟨A, 0, none⟩), .int .u8 c] w (PairPost base A P Q dv lv w) := by
  have p0 : w.cell? ⟨A, 0, none⟩ = some (.pointer (some ⟨P, 0, none⟩)) := h.2.2.2.1.cell 0
  have hrl := h.2.2.2.2.2.2.1
  have h128 := h.2.2.2.2.1.2.1
  have HT := Lib.hid (type_calls P xs r c w h.2.2.2.2.1 hk hb.1 hb.2)
  have H := Lib.hid h; clear h
  have HB := Lib.hid hb; clear hb
  clear hk
  go_enter Tryd.func49, Tryd.ntmps49
  go_wp2_with fail
  refine HT.out.mono ?_
  intro e w1 hp
  unfold TypePost at hp
  obtain ⟨ev, rfl, ho1, hc1, hf1⟩ := hp
  have p1 : w1.cell? ⟨A, 1, none⟩ = some (.pointer (some ⟨Q, 0, none⟩)) := (H.out.2.2.2.1.fr hf1 H.out.neAP).cell 1
  have hr1 := H.out.2.2.2.2.2.1.fr hf1 (fun k hk e => by
    rcases hk with hk | hk | hk
    · exact H.out.nePQ (e.symm.trans hk)
    · exact row_ne_con H.out.2.2.2.2.2.1.2.2.1 H.out.2.2.2.2.1 (by decide) k hk e
    · exact row_ne_con H.out.2.2.2.2.2.1.2.2.2.1 H.out.2.2.2.2.1 (by decide) k hk e)
  have HR := Lib.hid (reftype_calls base Q dv lv (xs.take r) (xs.drop r) c w1 hr1 (by simp; omega))
  have HO1 := Lib.hid ho1
  have HC1 := Lib.hid hc1
  have HF1 := Lib.hid hf1
  clear hr1 ho1 hc1 hf1
  go_wp2_with fail
  refine HR.out.mono ?_
  intro e w2 hp
  unfold RefTypePost at hp
  obtain ⟨rv, dv', lv', rfl, ho2, hr2, hbl2, _, hf2⟩ := hp
  have hl : (xs.take r).length = r := by simp; omega
  have hE : typE c xs r = typE c (xs.take r ++ xs.drop r) (xs.take r).length := by rw [List.take_append_drop, hl]
  rw [← hE] at ho2
  rw [show xs.take r ++ xs.drop r = xs from List.take_append_drop r xs]
  have FIN := Lib.hid (H.out.typed HB.out HC1.out HF1.out hr2 hbl2 hf2)
  have hel : (typE c xs r).length ≤ 400 := by
    unfold typE
    split
    · rw [backs_length]; omega
    · split
      · rw [backs_length]; omega
      · split <;> simp
  have b1 := Lib.hid ((HO1.out.fr hf2 (fun k hk hh => by
    have := (HO1.out.lt k hk).1
    rcases hh with hh | hh
    · have := H.out.2.2.2.2.2.1.2.1.lt; omega
    · have := (H.out.2.2.2.2.2.1.2.2.2.1.lt k hh).2; omega)).bsl (by omega))
  have b2 := Lib.hid (ho2.bsl (by omega))
  obtain ⟨F, hF⟩ : ∃ F, F = typF c xs := ⟨_, rfl⟩
  rw [← hF]
  clear ho2 hr2 hf2 hbl2 hE hl hel hF
  have hFF : (F == F) = true := by simp
  go_wp2_with fail
  refine (bytes_calls _ _ _ _ w2 b1.out b2.out).mono ?_
  rw [decide_eq_true rfl]
  rintro e w3 ⟨rfl, n, rfl⟩
  have FI := Lib.hid (pairpost_mk (FIN.out.no ((Fr.refl No w2).drewN n)))
  go_wp2_with fail
  go_ret
  exact FI.out

end Go.Proofs.YtollgpnaadgncaaDoor
