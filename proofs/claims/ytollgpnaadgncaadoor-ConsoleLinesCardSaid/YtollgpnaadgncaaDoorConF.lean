/- console: Ready, Peek, Take. No condition. -/
import Derived.Test.YtollgpnaadgncaaDoorConE
namespace Go.Proofs.YtollgpnaadgncaaDoor
open Go.RowKit

theorem wpList_copy_fr {P : Program} {w : World} {ops : Array Oper} {rest : List Oper} {o : Oper} {a : Act} {Q : Exit → Act → World → Prop} (hgd : o.guard = none) (d s : Operand) (dT sT : TypeId)
    (ho : o.op = .call { callee := .builtin .copy, args := #[d, s], argTypes := #[dT, sT] }) (elem : TypeId) (hu : P.underlying dT = some (.slice elem)) (hsz : (P.info? elem).map (·.size) = some 1)
    (dp sp : Option Addr) (dLen dCap sLen sCap : Nat) (hd : a.eval d = .slice dp dLen dCap) (hs : a.eval s = .slice sp sLen sCap)
    (g off : Nat) (cur : List Value) (t : TypeId) (hg : Blk w g cur t) (cs : List Value) (hn : cs.length = min sLen dLen)
    (hpos : 0 < cs.length → dp = some ⟨g, off, none⟩ ∧ ∃ ad, sp = some ad ∧ ∀ j v, cs[j]? = some v → w.cell? (ad.add j) = some v)
    (hfit : off + cs.length ≤ cur.length) (h1 : ∀ v ∈ cs, v.oneCell' = true)
    (h : ∀ w', Hid (Blk w' g (splice cur off cs) t) → Fr (· = g) w w' → wpList P ops Q rest (a.put o.dst (goInt cs.length)) w') :
    wpList P ops Q (o :: rest) a w := by
  by_cases h0 : cs.length = 0
  · obtain rfl : cs = [] := List.eq_nil_of_length_eq_zero h0
    refine wpList_copy_nothing hgd d s dT sT ho elem hu hsz dp sp dLen dCap sLen sCap hd hs (by simpa using hn.symm) ?_
    exact h w (show Blk _ _ _ _ by simpa [splice] using hg) (Fr.refl _ _)
  · obtain ⟨rfl, ad, rfl, hsrc⟩ := hpos (by omega)
    refine wpList_copy_own hgd d s dT sT ho elem hu hsz g off dLen dCap ad sLen sCap hd hs cur.toArray t hg cs hn hsrc (by simpa using hfit) h1 ?_
    refine h _ (show Blk _ _ _ _ from setRow_heap w g _ _ t _ hg) ?_
    exact (Fr.refl (· = g) w).setRow (fun _ => rfl) _

theorem giveK_le (n : Int) (d : List Int) : giveK n d ≤ d.length := by
  unfold giveK
  split
  · omega
  · split
    · omega
    · have := idx_le 4 d; omega
theorem useK_le (n : Int) (d : List Int) (h : 0 < d.length) : useK n d ≤ d.length := by
  unfold useK
  split
  · omega
  · split
    · omega
    · exact giveK_le n d

set_option maxHeartbeats 800000 in
theorem ready_calls (b : Nat) (xs : List Int) (r : Nat) (w : World) (h : ConAt w b xs r) :
    Calls Tryd.prog 30 #[.pointer (some ⟨b, 0, none⟩)] w fun e w' => e = .returned (.bool (decide (0 < r))) ∧ w = w' := by
  have h0 := h.made
  have c1 := h.ready
  clear h
  by_cases hr : 0 < r
  · have hr2 : decide ((0 : Int) < (r : Int)) = true := by simp; omega
    have HR := Lib.hid hr; clear hr
    go_enter Tryd.func30, Tryd.ntmps30
    go_wp2_with (go_at_call 39; refine (none_calls b _ h0).mono ?_; rintro e w' ⟨rfl, rfl⟩)
    go_ret
    exact ⟨rfl, rfl⟩
  · obtain rfl : r = 0 := by omega
    clear hr
    go_enter Tryd.func30, Tryd.ntmps30
    go_wp2_with (go_at_call 39; refine (none_calls b _ h0).mono ?_; rintro e w' ⟨rfl, rfl⟩)
    go_ret
    exact ⟨ret_bool (by simp), rfl⟩

/-- what a Take of n gives -/
def takeL (n : Int) (xs : List Int) (r : Nat) : List Int := if r = 0 then [] else xs.take (giveK n (xs.take r))
/-- how much it uses up -/
def takeU (n : Int) (xs : List Int) (r : Nat) : Nat := if r = 0 then 0 else useK n (xs.take r)
theorem takeU_le (n : Int) {xs : List Int} {r : Nat} (h : r ≤ xs.length) : takeU n xs r ≤ r := by
  unfold takeU
  split
  · omega
  · have := useK_le n (xs.take r) (by simp; omega)
    simp at this; omega

@[irreducible] def PeekPost (xs : List Int) (r : Nat) (n : Int) (w : World) (e : Ending) (w' : World) : Prop :=
  ∃ v', e = .returned (.tuple #[v', .bool (decide (0 < r))]) ∧ Own w' w.heap.size v' (takeL n xs r) ∧ Fr No w w'

set_option maxRecDepth 100000 in
set_option maxHeartbeats 3200000 in
theorem peek_calls (b : Nat) (xs : List Int) (r : Nat) (n : Int) (w : World) (h : ConAt w b xs r) (hn1 : -9223372036854775808 ≤ n) (hn2 : n ≤ 9223372036854775807) :
    Calls Tryd.prog 17 #[.pointer (some ⟨b, 0, none⟩), .int .i64 n] w (PeekPost xs r n w) := by
  have hr := h.1
  have h128 := h.2.1
  by_cases h0 : r = 0
  · have HRd := Lib.hid (ready_calls b xs r w h)
    have FIN := Lib.hid (show PeekPost xs r n w (.returned (.tuple #[.slice none 0 0, .bool false])) w from by
      unfold PeekPost
      exact ⟨.slice none 0 0, by simp [h0], by unfold takeL; rw [if_pos h0]; exact own_nil _ _, Fr.refl _ _⟩)
    have H0 := Lib.hid h0; clear h0 h
    go_enter Tryd.func17, Tryd.ntmps17
    go_wp2_with fail
    refine HRd.out.mono ?_
    rw [show decide (0 < r) = false by simp [H0.out]]
    rintro e w' ⟨rfl, rfl⟩
    go_wp2_with fail
    go_ret2
    exact FIN.out
  · have hr0 : 0 < r := by omega
    have HRd := Lib.hid (ready_calls b xs r w h)
    obtain ⟨K, hK⟩ : ∃ K, K = giveK n (xs.take r) := ⟨_, rfl⟩
    obtain ⟨U, hU⟩ : ∃ U, U = useK n (xs.take r) := ⟨_, rfl⟩
    have hKr : K ≤ r := by have := giveK_le n (xs.take r); rw [← hK] at this; simp at this; omega
    have HG := Lib.hid (given_calls b xs r n w h hr0 hn1 hn2)
    rw [← hK, ← hU] at HG
    have FIN := Lib.hid (show ∀ v' w', Own w' w.heap.size v' (xs.take K) → Fr No w w' → PeekPost xs r n w (.returned (.tuple #[v', .bool true])) w' from by
      intro v' w' h1 h2; unfold PeekPost
      exact ⟨v', by simp [hr0], by unfold takeL; rw [if_neg h0, ← hK]; exact h1, h2⟩)
    have H := Lib.hid h
    clear h0 hK hU h
    have z0 : (0 : Int) ≤ K := by omega
    have z1 : (K : Int) ≤ 128 := by omega
    have HR0 := Lib.hid hr0; clear hr0
    go_enter Tryd.func17, Tryd.ntmps17
    go_wp2_with fail
    refine HRd.out.mono ?_
    rw [show decide (0 < r) = true by simp [HR0.out]]
    rintro e w' ⟨rfl, rfl⟩
    go_wp2_with fail
    refine HG.out.mono ?_
    rintro e w1 ⟨rfl, m, rfl⟩
    go_wp2_with fail
    refine (out_calls (xs.take K) _ (w.drewN m) ((H.out.no ((Fr.refl No w).drewN m)).bslHead K (by omega))).mono ?_
    rintro e w2 ⟨v', rfl, ho, hb⟩
    have FIN2 := Lib.hid (FIN.out v' w2 ho (((Fr.refl No w).drewN m).trans (Fr.of_below hb) (fun _ _ h => h)))
    clear ho hb
    go_wp2_with fail
    go_ret2
    exact FIN2.out

theorem splice_cells {buf : List Int} {r a : Nat} (X : List Int) (h3 : buf.length = 128) (hX : X.length ≤ 128) : splice (ccells buf r a) 1 (X.map (Value.int .u8)) = ccells (splice buf 0 X) r a := by
  unfold splice ccells
  simp only [List.length_map, List.cons_append, List.take_zero, List.nil_append, Nat.zero_add]
  rw [List.take_succ_cons, List.take_zero, Nat.add_comm 1 X.length, List.drop_succ_cons, List.drop_append_of_le_length (by simp; omega), List.map_append, List.map_drop]
  simp

theorem con_take {w : World} {b : Nat} {xs buf : List Int} {r U : Nat} (h1 : r ≤ xs.length) (h2 : xs.length ≤ 128) (h3 : buf.length = 128) (hU : U ≤ r) (hb : Blk w b (splice (ccells buf r xs.length) 1 ((xs.drop U).map (Value.int .u8))) 70) {y z : Int}
    (hy : y = (r - U : Nat)) (hz : z = (xs.length - U : Nat)) : ConAt ((w.setCell ⟨b, 129, none⟩ (.int .i64 y)).setCell ⟨b, 130, none⟩ (.int .i64 z)) b (xs.drop U) (r - U) := by
  subst hy hz
  have hXl : (xs.drop U).length = xs.length - U := by simp
  rw [splice_cells _ h3 (by omega)] at hb
  have h3' : (splice buf 0 (xs.drop U)).length = 128 := by rw [length_splice _ _ _ (by omega)]; exact h3
  have hb2 := (hb.set 129 (.int .i64 (r - U : Nat))).set 130 (.int .i64 (xs.length - U : Nat))
  rw [ccells_set h3' 0] at hb2
  have hl2 : (Value.bool true :: (splice buf 0 (xs.drop U)).map (Value.int .u8)).length = 129 := by simp [h3']
  rw [List.set_append_right _ _ (by rw [hl2]; omega), hl2] at hb2
  refine ⟨by omega, by omega, _, h3', ?_, ?_⟩
  · unfold splice; simp
  · rw [hXl]
    simpa [ccells] using hb2

@[irreducible] def TakePost (b : Nat) (xs : List Int) (r : Nat) (n : Int) (w : World) (e : Ending) (w' : World) : Prop :=
  ∃ v', e = .returned (.tuple #[v', .bool (decide (0 < r))]) ∧ Own w' w.heap.size v' (takeL n xs r) ∧ ConAt w' b (xs.drop (takeU n xs r)) (r - takeU n xs r) ∧ Fr (· = b) w w'

set_option maxRecDepth 100000 in
set_option maxHeartbeats 6400000 in
theorem take_calls (b : Nat) (xs : List Int) (r : Nat) (n : Int) (w : World) (h : ConAt w b xs r) (hn1 : -9223372036854775808 ≤ n) (hn2 : n ≤ 9223372036854775807) :
    Calls Tryd.prog 25 #[.pointer (some ⟨b, 0, none⟩), .int .i64 n] w (TakePost b xs r n w) := by
  have hr := h.1
  have h128 := h.2.1
  by_cases h0 : r = 0
  · have HRd := Lib.hid (ready_calls b xs r w h)
    have FIN := Lib.hid (show TakePost b xs r n w (.returned (.tuple #[.slice none 0 0, .bool false])) w from by
      unfold TakePost
      exact ⟨.slice none 0 0, by simp [h0], by unfold takeL; rw [if_pos h0]; exact own_nil _ _, by unfold takeU; rw [if_pos h0]; simpa using h, Fr.refl _ _⟩)
    have H0 := Lib.hid h0; clear h0 h
    go_enter Tryd.func25, Tryd.ntmps25
    go_wp2_with fail
    refine HRd.out.mono ?_
    rw [show decide (0 < r) = false by simp [H0.out]]
    rintro e w' ⟨rfl, rfl⟩
    go_wp2_with fail
    go_ret2
    exact FIN.out
  · have hr0 : 0 < r := by omega
    have hbl := h.lt
    have HRd := Lib.hid (ready_calls b xs r w h)
    obtain ⟨K, hK⟩ : ∃ K, K = giveK n (xs.take r) := ⟨_, rfl⟩
    obtain ⟨U, hU⟩ : ∃ U, U = useK n (xs.take r) := ⟨_, rfl⟩
    have hKr : K ≤ r := by have := giveK_le n (xs.take r); rw [← hK] at this; simp at this; omega
    have hUr : U ≤ r := by have := useK_le n (xs.take r) (by simp; omega); rw [← hU] at this; simp at this; omega
    have HG := Lib.hid (given_calls b xs r n w h hr0 hn1 hn2)
    rw [← hK, ← hU] at HG
    have FIN := Lib.hid (show ∀ v' w', Own w' w.heap.size v' (xs.take K) → ConAt w' b (xs.drop U) (r - U) → Fr (· = b) w w' → TakePost b xs r n w (.returned (.tuple #[v', .bool true])) w' from by
      intro v' w' h1 h2 h3; unfold TakePost
      exact ⟨v', by simp [hr0], by unfold takeL; rw [if_neg h0, ← hK]; exact h1, by unfold takeU; rw [if_neg h0, ← hU]; exact h2, h3⟩)
    have H := Lib.hid h
    clear h0 hK hU h
    have z0 : (0 : Int) ≤ K := by omega
    have z1 : (K : Int) ≤ 128 := by omega
    have z2 : (0 : Int) ≤ U := by omega
    have z3 : (U : Int) ≤ xs.length := by omega
    have z4 : (xs.length : Int) ≤ 128 := by omega
    have HR0 := Lib.hid hr0; clear hr0
    go_enter Tryd.func25, Tryd.ntmps25
    go_wp2_with fail
    refine HRd.out.mono ?_
    rw [show decide (0 < r) = true by simp [HR0.out]]
    rintro e w' ⟨rfl, rfl⟩
    go_wp2_with fail
    refine HG.out.mono ?_
    rintro e w1 ⟨rfl, m, rfl⟩
    go_wp2_with fail
    refine (out_calls (xs.take K) _ (w.drewN m) ((H.out.no ((Fr.refl No w).drewN m)).bslHead K (by omega))).mono ?_
    rintro e w2 ⟨v', rfl, ho, hb⟩
    have hF2 : Fr No w w2 := ((Fr.refl No w).drewN m).trans (Fr.of_below hb) (fun _ _ h => h)
    have hC2 := H.out.no hF2
    have c1 := hC2.ready
    have c2 := hC2.all
    have f1 := hC2.free 129
    have f2 := hC2.free 130
    have HO2 := Lib.hid ho; clear ho hb
    have HF2 := Lib.hid hF2; clear hF2
    have HC2 := Lib.hid hC2; clear hC2
    have hsl : w.heap.size ≤ w2.heap.size := HF2.out.size
    obtain ⟨X, hX⟩ : ∃ X, X = (xs.drop U).map (Value.int .u8) := ⟨_, rfl⟩
    have hXl : X.length = xs.length - U := by rw [hX]; simp
    have hXe : (X.length : Int) = (xs.length : Int) - U := by omega
    have HX := Lib.hid hX; clear hX
    have HXL := Lib.hid hXl; clear hXl
    have HXE := Lib.hid hXe; clear hXe
    obtain ⟨_, _, buf, h3, h4, hblk⟩ := HC2.out
    have HB := Lib.hid hblk; clear hblk
    have H3 := Lib.hid h3; clear h3
    have H4 := Lib.hid h4; clear h4
    have hsrc : ∀ j v, X[j]? = some v → w2.cell? ⟨b, 1 + U + j, none⟩ = some v := by
      intro j v hj
      have hjl : j < xs.length - U := by rw [← HXL.out]; exact (List.getElem?_eq_some_iff.1 hj).1
      rw [HX.out, List.getElem?_map, List.getElem?_drop, List.getElem?_eq_getElem (by omega)] at hj
      rw [Nat.add_assoc, HC2.out.byte (U + j) (by omega)]
      simpa using hj
    have HSRC := Lib.hid hsrc; clear hsrc
    by_cases hu : U = 128
    · subst hu
      have z6 : (128 : Int) ≤ xs.length := by omega
      clear z2 z3
      go_wp2_with fail
      go_still_tail 13, (by kernel_rfl)
      change wpList _ _ _ _ _ w2.drew
      obtain ⟨W2, hW2⟩ : ∃ W2 : World, W2 = w2.drew := ⟨_, rfl⟩
      rw [← hW2]
      have hFW2 : Fr No w2 W2 := by rw [hW2]; exact (Fr.refl _ _).drew
      clear hW2 c1 c2 f1 f2
      have HFW2 := Lib.hid hFW2; clear hFW2
      refine wpList_copy_fr rfl (.tmp 27) (.tmp 36) 22 22 rfl 5 Tryd.underlying22 (by kernel_rfl) _ _ _ _ _ _ rfl rfl b 1 (ccells buf r xs.length) 70 (HB.out.fr HFW2.out id) X ?hn ?hps ?hfit ?h1 ?_
      case hn => rw [HXL.out]; omega
      case hps => exact fun hp => by have := HXL.out; omega
      case hfit => rw [HXL.out]; simp [ccells, H3.out]; omega
      case h1 => rw [HX.out]; exact ints_oneCell _ _
      intro w3 hG3 hF3
      have hG := hG3.out
      rw [HX.out] at hG
      have HG := Lib.hid hG
      rw [splice_cells _ H3.out (by simp; omega)] at hG
      have h3' : (splice buf 0 (xs.drop 128)).length = 128 := by rw [length_splice _ _ _ (by simp [H3.out]; omega)]; exact H3.out
      have c1 : w3.cell? ⟨b, 129, none⟩ = some (.int .i64 r) := (hG.cell 129).trans (ccells_tail h3' 0)
      have c2 : w3.cell? ⟨b, 130, none⟩ = some (.int .i64 xs.length) := (hG.cell 130).trans (ccells_tail h3' 1)
      have f1 := hG.free 129
      have f2 := hG.free 130
      have HO3 := Lib.hid ((HO2.out.fr HFW2.out (fun _ _ => id)).fr hF3 (fun k hk hh => by have := (HO2.out.lt k hk).1; simp at this; omega))
      have HF3 := Lib.hid (((HF2.out.trans HFW2.out (fun _ _ h => h)).mono (S' := (· = b)) (fun _ h => h.elim)).trans hF3 (fun _ _ h => h))
      clear hG hG3 hF3 h3'
      go_wp2_with fail
      go_ret2
      refine FIN.out v' _ ?_ (con_take hr h128 H3.out hUr HG.out (by omega) (by omega)) ((HF3.out.setCell (p := ⟨b, 129, none⟩) (fun _ => rfl) _).setCell (p := ⟨b, 130, none⟩) (fun _ => rfl) _)
      have hS : Fr (· = b) w3 _ := ((Fr.refl (· = b) w3).setCell (p := ⟨b, 129, none⟩) (fun _ => rfl) (.int .i64 ((r : Int) - 128))).setCell (p := ⟨b, 130, none⟩) (fun _ => rfl) (.int .i64 ((xs.length : Int) - 128))
      exact HO3.out.fr hS (fun k hk hh => by have := (HO3.out.lt k hk).1; simp at this; omega)
    · have z5 : ¬ (128 : Int) = (U : Int) := by omega
      have z6 : ¬ 128 = U := by omega
      go_wp2_with fail
      go_still_tail 13, (by kernel_rfl)
      change wpList _ _ _ _ _ w2.drew
      obtain ⟨W2, hW2⟩ : ∃ W2 : World, W2 = w2.drew := ⟨_, rfl⟩
      rw [← hW2]
      have hFW2 : Fr No w2 W2 := by rw [hW2]; exact (Fr.refl _ _).drew
      clear hW2 c1 c2 f1 f2
      have HFW2 := Lib.hid hFW2; clear hFW2
      refine wpList_copy_fr rfl (.tmp 27) (.tmp 36) 22 22 rfl 5 Tryd.underlying22 (by kernel_rfl) _ _ _ _ _ _ rfl rfl b 1 (ccells buf r xs.length) 70 (HB.out.fr HFW2.out id) X ?hn ?hps ?hfit ?h1 ?_
      case hn => rw [HXL.out]; omega
      case hps => exact fun _ => ⟨rfl, _, rfl, fun j v hj => by have := HFW2.out.cell (HSRC.out j v hj) id; rw [addr_add]; exact this⟩
      case hfit => rw [HXL.out]; simp [ccells, H3.out]; omega
      case h1 => rw [HX.out]; exact ints_oneCell _ _
      intro w3 hG3 hF3
      have hG := hG3.out
      rw [HX.out] at hG
      have HG := Lib.hid hG
      rw [splice_cells _ H3.out (by simp; omega)] at hG
      have h3' : (splice buf 0 (xs.drop U)).length = 128 := by rw [length_splice _ _ _ (by simp [H3.out]; omega)]; exact H3.out
      have c1 : w3.cell? ⟨b, 129, none⟩ = some (.int .i64 r) := (hG.cell 129).trans (ccells_tail h3' 0)
      have c2 : w3.cell? ⟨b, 130, none⟩ = some (.int .i64 xs.length) := (hG.cell 130).trans (ccells_tail h3' 1)
      have f1 := hG.free 129
      have f2 := hG.free 130
      have HO3 := Lib.hid ((HO2.out.fr HFW2.out (fun _ _ => id)).fr hF3 (fun k hk hh => by have := (HO2.out.lt k hk).1; simp at this; omega))
      have HF3 := Lib.hid (((HF2.out.trans HFW2.out (fun _ _ h => h)).mono (S' := (· = b)) (fun _ h => h.elim)).trans hF3 (fun _ _ h => h))
      clear hG hG3 hF3 h3'
      go_wp2_with fail
      go_ret2
      refine FIN.out v' _ ?_ (con_take hr h128 H3.out hUr HG.out (by omega) (by omega)) ((HF3.out.setCell (p := ⟨b, 129, none⟩) (fun _ => rfl) _).setCell (p := ⟨b, 130, none⟩) (fun _ => rfl) _)
      have hS : Fr (· = b) w3 _ := ((Fr.refl (· = b) w3).setCell (p := ⟨b, 129, none⟩) (fun _ => rfl) (.int .i64 ((r : Int) - U))).setCell (p := ⟨b, 130, none⟩) (fun _ => rfl) (.int .i64 ((xs.length : Int) - U))
      exact HO3.out.fr hS (fun k hk hh => by have := (HO3.out.lt k hk).1; simp at this; omega)

/-- the line, as a slice -/
theorem ConAt.bslTail {w : World} {b : Nat} {xs : List Int} {r : Nat} (h : ConAt w b xs r) (hr : r ≤ xs.length) : BSl w (.slice (some ⟨b, 1 + r, none⟩) (xs.length - r) (128 - r)) (xs.drop r) := by
  have := h.bsl r xs.length hr (Nat.le_refl _)
  rwa [List.take_of_length_le (Nat.le_refl _)] at this

end Go.Proofs.YtollgpnaadgncaaDoor
