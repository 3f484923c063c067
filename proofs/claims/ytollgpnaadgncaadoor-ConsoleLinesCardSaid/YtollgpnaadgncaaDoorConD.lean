/- console: put, back. No condition. -/
import Derived.Test.YtollgpnaadgncaaDoorConC
import Derived.Deep.LoopGhost
namespace Go.Proofs.YtollgpnaadgncaaDoor
open Go.RowKit

/-- behind a byte more -/
theorem con_put {w : World} {b : Nat} {xs : List Int} {r : Nat} (h : ConAt w b xs r) (hl : xs.length < 128) (c : Int) {n : Int} (hn : n = (xs.length + 1 : Nat)) :
    ConAt ((w.setCell ⟨b, 1 + xs.length, none⟩ (.int .u8 c)).setCell ⟨b, 130, none⟩ (.int .i64 n)) b (xs ++ [c]) r ∧
      ConAt (((w.setCell ⟨b, 1 + xs.length, none⟩ (.int .u8 c)).setCell ⟨b, 130, none⟩ (.int .i64 n)).setCell ⟨b, 129, none⟩ (.int .i64 n)) b (xs ++ [c]) (xs.length + 1) := by
  obtain ⟨h1, h2, buf, h3, h4, hb⟩ := h
  subst hn
  have hb1 := hb.set (1 + xs.length) (.int .u8 c)
  rw [ccells_put h3 _ hl] at hb1
  have h3' : (buf.set xs.length c).length = 128 := by simpa using h3
  have hb2 := hb1.set 130 (.int .i64 (xs.length + 1 : Nat))
  have hb3 := hb2.set 129 (.int .i64 (xs.length + 1 : Nat))
  have e4 : (buf.set xs.length c).take (xs ++ [c]).length = xs ++ [c] := by
    rw [List.length_append, List.length_singleton, List.take_succ_eq_append_getElem (by simp; omega)]
    simp
    rw [List.take_set_of_le (Nat.le_refl _)]; exact h4
  rw [ccells_set h3' 1] at hb2 hb3
  have hl2 : (Value.bool true :: (buf.set xs.length c).map (Value.int .u8)).length = 129 := by simp [h3]
  rw [List.set_append_right _ _ (by rw [hl2]; omega), hl2] at hb3
  refine ⟨⟨by simp; omega, by simp; omega, _, h3', e4, ?_⟩, ⟨by simp, by simp; omega, _, h3', e4, ?_⟩⟩
  · simpa [ccells] using hb2
  · simpa [ccells] using hb3

/-- behind bytes that are taken back -/
theorem con_back {w : World} {b : Nat} {xs : List Int} {r : Nat} (h : ConAt w b xs r) (n : Nat) (hn : r + n ≤ xs.length) {a : Int} (ha : a = (xs.length - n : Nat)) :
    ConAt (w.setCell ⟨b, 130, none⟩ (.int .i64 a)) b (xs.take (xs.length - n)) r := by
  obtain ⟨h1, h2, buf, h3, h4, hb⟩ := h
  subst ha
  have hb2 := hb.set 130 (.int .i64 (xs.length - n : Nat))
  rw [ccells_set h3 1] at hb2
  have e : (xs.take (xs.length - n)).length = xs.length - n := by simp
  refine ⟨by rw [e]; omega, by rw [e]; omega, buf, h3, ?_, ?_⟩
  · rw [e]
    have := congrArg (List.take (xs.length - n)) h4
    rw [List.take_take, Nat.min_eq_left (by omega)] at this
    exact this
  · rw [e]
    simpa [ccells] using hb2

@[irreducible] def PutPost (b : Nat) (xs : List Int) (r : Nat) (c : Int) (ends : Bool) (w : World) (e : Ending) (w' : World) : Prop :=
  (xs.length = 128 → e = .returned (.tuple #[.bool false, .bool false]) ∧ w' = w) ∧
  (xs.length < 128 → e = .returned (.tuple #[.bool true, .bool (ends || decide (xs.length + 1 = 128))]) ∧ ConAt w' b (xs ++ [c]) (if (ends || decide (xs.length + 1 = 128)) = true then xs.length + 1 else r) ∧ Fr (· = b) w w')

set_option maxRecDepth 100000 in
set_option maxHeartbeats 3200000 in
theorem put_calls (b : Nat) (xs : List Int) (r : Nat) (c : Int) (ends : Bool) (w : World) (h : ConAt w b xs r) :
    Calls Tryd.prog 45 #[.pointer (some ⟨b, 0, none⟩), .int .u8 c, .bool ends] w (PutPost b xs r c ends w) := by
  have c1 := h.ready
  have c2 := h.all
  have hr := h.1
  have h128 := h.2.1
  by_cases hl : xs.length = 128
  · have hlb : ((xs.length : Int) == 128) = true := by simp [hl]
    have FIN := Lib.hid (show PutPost b xs r c ends w (.returned (.tuple #[.bool false, .bool false])) w by unfold PutPost; exact ⟨fun _ => ⟨rfl, rfl⟩, fun h => by omega⟩)
    have HL := Lib.hid hl; clear hl h
    go_enter Tryd.func45, Tryd.ntmps45
    go_wp2
    go_ret2
    exact FIN.out
  · have hlt : xs.length < 128 := by omega
    have hlb : ((xs.length : Int) == 128) = false := by simp; omega
    obtain ⟨x0, cb⟩ := h.anyByte xs.length hlt
    have f0 := h.free (1 + xs.length)
    have f1 := h.free 129
    have f2 := h.free 130
    have z0 : (0 : Int) ≤ xs.length := by omega
    have z1 : (xs.length : Int) < 128 := by omega
    have z2 : (xs.length : Int) ≤ 128 := by omega
    have d1 : ¬ 1 + xs.length = 130 := by omega
    have d2 : ¬ 130 = 1 + xs.length := by omega
    have d3 : ¬ 1 + xs.length = 129 := by omega
    have d4 : ¬ 129 = 1 + xs.length := by omega
    have H := Lib.hid h; clear h
    clear hl
    have hputs := con_put (w := w.drew) (n := (xs.length + 1 : Nat)) (H.out.fr (Fr.refl No w).drew id) hlt c rfl
    have HP := Lib.hid hputs; clear hputs
    cases ends
    · by_cases hl7 : xs.length + 1 < 128
      · have FIN := Lib.hid (show ∀ w', ConAt w' b (xs ++ [c]) r → Fr (· = b) w w' → PutPost b xs r c false w (.returned (.tuple #[.bool true, .bool false])) w' by
          intro w' h1 h2; unfold PutPost
          have e : decide (xs.length + 1 = 128) = false := by simp; omega
          exact ⟨fun h => by omega, fun _ => ⟨by rw [e]; rfl, by rw [e]; exact h1, h2⟩⟩)
        go_enter Tryd.func45, Tryd.ntmps45
        go_wp2_with fail
        go_still_tail 9, (by kernel_rfl)
        go_wp2_with fail
        go_ret2
        refine FIN.out _ HP.out.1 ?_
        exact (((Fr.refl (· = b) w).drew.setCell (p := ⟨b, 1 + xs.length, none⟩) (fun _ => rfl) _).setCell (p := ⟨b, 130, none⟩) (fun _ => rfl) _)
      · have FIN := Lib.hid (show ∀ w', ConAt w' b (xs ++ [c]) (xs.length + 1) → Fr (· = b) w w' → PutPost b xs r c false w (.returned (.tuple #[.bool true, .bool true])) w' by
          intro w' h1 h2; unfold PutPost
          have e : decide (xs.length + 1 = 128) = true := by simp; omega
          exact ⟨fun h => by omega, fun _ => ⟨by rw [e]; rfl, by rw [e]; exact h1, h2⟩⟩)
        go_enter Tryd.func45, Tryd.ntmps45
        go_wp2_with fail
        go_still_tail 9, (by kernel_rfl)
        go_wp2_with fail
        go_ret2
        refine FIN.out _ HP.out.2 ?_
        exact ((((Fr.refl (· = b) w).drew.setCell (p := ⟨b, 1 + xs.length, none⟩) (fun _ => rfl) _).setCell (p := ⟨b, 130, none⟩) (fun _ => rfl) _).setCell (p := ⟨b, 129, none⟩) (fun _ => rfl) _)
    · have FIN := Lib.hid (show ∀ w', ConAt w' b (xs ++ [c]) (xs.length + 1) → Fr (· = b) w w' → PutPost b xs r c true w (.returned (.tuple #[.bool true, .bool true])) w' by
          intro w' h1 h2; unfold PutPost
          exact ⟨fun h => by omega, fun _ => ⟨rfl, h1, h2⟩⟩)
      go_enter Tryd.func45, Tryd.ntmps45
      go_wp2_with fail
      go_still_tail 9, (by kernel_rfl)
      go_wp2_with fail
      go_ret2
      refine FIN.out _ HP.out.2 ?_
      exact ((((Fr.refl (· = b) w).drew.setCell (p := ⟨b, 1 + xs.length, none⟩) (fun _ => rfl) _).setCell (p := ⟨b, 130, none⟩) (fun _ => rfl) _).setCell (p := ⟨b, 129, none⟩) (fun _ => rfl) _)

/-- the echo of n bytes that are taken back -/
def backs : Nat → List Int
  | 0 => []
  | n + 1 => backs n ++ [8, 32, 8]
theorem backs_length : ∀ n, (backs n).length = 3 * n
  | 0 => rfl
  | n + 1 => by rw [backs, List.length_append, backs_length n]; simp; omega

theorem three_new (w : World) (x y z : Value) (t : TypeId) : ∀ j u, [x, y, z][j]? = some u → (w.alloc (.cells #[x, y, z] t)).cell? ((⟨w.heap.size, 0, none⟩ : Addr).add j) = some u := by
  intro j u hj
  match j, hj with
  | 0, hj => simp at hj; subst hj; simp [Addr.add]
  | 1, hj => simp at hj; subst hj; simp [Addr.add]
  | 2, hj => simp at hj; subst hj; simp [Addr.add]
theorem three_cell_int (k : IntKind) (x y z : Int) : ∀ u ∈ [Value.int k x, .int k y, .int k z], u.oneCell' = true := by intro u hu; simp at hu; rcases hu with rfl | rfl | rfl <;> rfl

set_option maxRecDepth 100000 in
set_option maxHeartbeats 3200000 in
theorem back_calls (b : Nat) (xs : List Int) (r n : Nat) (w : World) (h : ConAt w b xs r) (hn : r + n ≤ xs.length) :
    Calls Tryd.prog 44 #[.pointer (some ⟨b, 0, none⟩), .int .i64 n] w fun e w' => ∃ v', e = .returned v' ∧ Own w' w.heap.size v' (backs n) ∧ ConAt w' b (xs.take (xs.length - n)) r ∧ Fr (· = b) w w' := by
  obtain ⟨i0, hi, hz0, hz1, hz2⟩ := info_parts infoU8
  have c2 := h.all
  have hr := h.1
  have h128 := h.2.1
  have hbl := h.lt
  have f2 := h.free 130
  have H := Lib.hid h; clear h
  have hb := con_back H.out n hn (a := (xs.length : Int) - n) (by omega)
  have HB := Lib.hid hb; clear hb
  go_enter Tryd.func44, Tryd.ntmps44
  go_wp2_with fail
  generalize hW : w.setCell _ _ = W at *
  have F0 : Fr (· = b) w W := by rw [← hW]; exact (Fr.refl (· = b) w).setCell (p := ⟨b, 130, none⟩) (fun _ => rfl) _
  have hWs : W.heap.size = w.heap.size := by rw [← hW]; simp [World.setCell]
  clear hW
  have HF0 := Lib.hid F0; clear F0
  have HWS := Lib.hid hWs; clear hWs
  go_loopg [5, 15] n (fun g v i wr => ∃ k : Nat, k ≤ n ∧ g = n - k ∧ i = .int .i64 k ∧ wr.ownsRow w.heap.size 5 1 v (3 * k) ((backs k).map (Value.int .u8)) ∧ (k = 0 → v = .slice none 0 0) ∧ Below w.heap.size W wr)
  case atStart => exact ⟨0, Nat.zero_le _, rfl, rfl, World.ownsRow_nil _ _ _ _, fun _ => rfl, Below.refl _ _⟩
  case round =>
    obtain ⟨k, hk, rfl, rfl, hown, hnil, hbel⟩ := hrel
    have HN := Lib.hid hnil; clear hnil
    by_cases hlt : k < n
    · have hsz := hbel.size
      have hsz2 := HWS.out
      have HWS2 := Lib.hid hsz2; clear hsz2
      go_wp2_with (at_builtin; refine wpList_append_own _ rfl _ _ 22 rfl w.heap.size 5 i0 (.int .u8 0) 1 1 Tryd.underlying22 hi hz0 hz1 hz2 rfl (by decide) _ _ _ rfl (hown.alloc _) ⟨wr.heap.size, 0, none⟩ 3 3 [.int .u8 8, .int .u8 32, .int .u8 8] rfl rfl (three_new _ _ _ _ _) (three_cell_int _ _ _ _) ?c3 ?c4 ?c5 ?_)
      case c3 => unfold maxLen; omega
      case c4 => omega
      case c5 => simp; have := HWS2.out; omega
      intro v' w1 hown' hgrow hn'
      have hbel' : Below w.heap.size W w1 := (hbel.alloc (by have := HWS2.out; omega) _).grown hgrow (by simp; have := HWS2.out; omega) (fun q hq => (hown.lt q hq).1)
      clear hn' hgrow hown HN
      have HNEW := Lib.hid (show w1.ownsRow w.heap.size 5 1 v' (3 * (k + 1)) ((backs (k + 1)).map (Value.int .u8)) by
        rw [backs, List.map_append, show 3 * (k + 1) = 3 * k + 3 by omega]; exact hown')
      clear hown'
      go_wp2
      go_roundg (n - (k + 1))
      case measure => omega
      case rel => exact ⟨k + 1, by omega, by omega, by go_num, HNEW.out, fun h => by omega, hbel'⟩
    · have : k = n := by omega
      subst this
      go_wp2
      go_ret
      have hfr : Fr No W wr := Fr.of_below (by rw [HWS.out]; exact hbel)
      refine ⟨_, rfl, ⟨by rw [backs_length]; exact hown, fun h => ?_⟩, HB.out.no hfr, HF0.out.trans (hfr.mono (S' := (· = b)) (fun _ h => h.elim)) (fun _ _ h => h)⟩
      refine HN.out ?_
      have := backs_length k
      rw [h] at this; simp at this; omega

end Go.Proofs.YtollgpnaadgncaaDoor
