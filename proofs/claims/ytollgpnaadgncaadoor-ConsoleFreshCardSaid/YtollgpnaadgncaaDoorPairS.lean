/- hartixlaw11.Pair: step. No condition. -/
import Derived.Test.YtollgpnaadgncaaDoorPairW
import Derived.Test.YtollgpnaadgncaaDoorOpenC
namespace Go.Proofs.YtollgpnaadgncaaDoor
open Go.RowKit

theorem Own.no {w w' : World} {base : Nat} {v : Value} {xs : List Int} (h : Own w base v xs) (hf : Fr No w w') : Own w' base v xs := h.fr hf (fun _ _ => id)

theorem PairPost.pre {base A P Q : Nat} {dv lv : Value} {w W w' : World} {e : Ending} (hf : Fr No w W) (h : PairPost base A P Q dv lv W e w') : PairPost base A P Q dv lv w e w' := by
  unfold PairPost at h ⊢
  obtain ⟨h1, P', Q', dv', lv', xs, r, h2⟩ := h
  exact ⟨h1, P', Q', dv', lv', xs, r, h2.pre hf⟩

section
variable (base A P Q : Nat) (dv lv : Value) (xs : List Int) (r : Nat)

theorem pairready1 (w : World) (h : PairAt w base A P Q dv lv xs r) : Calls Tryd.prog 30 #[.pointer (some ⟨P, 0, none⟩)] w fun e w' => e = .returned (.bool (decide (0 < r))) ∧ w = w' := ready_calls P xs r w h.2.2.2.2.1
theorem pairready2 (w : World) (h : PairAt w base A P Q dv lv xs r) : Calls Tryd.prog 46 #[.pointer (some ⟨Q, 0, none⟩)] w fun e w' => e = .returned (.bool (decide (0 < r))) ∧ w = w' := by
  have := refready_calls base Q dv lv (xs.take r) (xs.drop r) w h.2.2.2.2.2.1
  rwa [show (xs.take r).length = r by have := h.2.2.2.2.2.2.1; simp; omega] at this
theorem pairstate2 (w : World) (h : PairAt w base A P Q dv lv xs r) : Calls Tryd.prog 19 #[.pointer (some ⟨Q, 0, none⟩)] w (StatePost xs r w) := by
  have h128 := h.2.2.2.2.1.2.1
  have := refstate_calls base Q dv lv (xs.take r) (xs.drop r) w h.2.2.2.2.2.1 (by simp; omega)
  rwa [List.take_append_drop, show (xs.take r).length = r by have := h.2.2.2.2.2.2.1; simp; omega] at this

set_option maxRecDepth 100000 in
set_option maxHeartbeats 3200000 in
theorem step1_calls (c n : Int) (dt : Value) (ds : List Int) (w : World) (h : PairAt w base A P Q dv lv xs r) (hk : KeysAt w) (hb : 0 ≤ c ∧ c ≤ 255) (hd : BSl w dt ds) :
    Calls Tryd.prog 33 #[.pointer (some ⟨A, 0, none⟩), .agg #[.int .i64 1, .int .u8 c, .int .i64 n, dt]] w (PairPost base A P Q dv lv w) := by
  obtain ⟨da, dc, rfl⟩ := hd.shape
  have H := Lib.hid h; clear h
  have HK := Lib.hid hk; clear hk
  have HB := Lib.hid hb; clear hb
  clear hd
  go_enter Tryd.func33, Tryd.ntmps33
  go_wp2_with fail
  generalize hW : w.alloc _ = W
  have F0 : Fr No w W := by rw [← hW]; exact (Fr.refl _ _).alloc _
  clear hW
  refine (pairtyped_calls base A P Q dv lv xs r c W (H.out.no F0) (HK.out.no F0) HB.out).mono ?_
  intro e w' hp
  have hp2 := hp.pre F0
  unfold PairPost at hp
  obtain ⟨rfl, _⟩ := hp
  have FIN := Lib.hid hp2
  clear hp2 F0
  go_wp2_with fail
  go_ret
  exact FIN.out

set_option maxRecDepth 100000 in
set_option maxHeartbeats 3200000 in
theorem step0_calls (k c n : Int) (dt : Value) (ds : List Int) (w : World) (h : PairAt w base A P Q dv lv xs r) (hd : BSl w dt ds) (hk : k ≠ 1 ∧ k ≠ 2 ∧ k ≠ 3 ∧ k ≠ 4 ∧ k ≠ 5 ∧ k ≠ 6) :
    Calls Tryd.prog 33 #[.pointer (some ⟨A, 0, none⟩), .agg #[.int .i64 k, .int .u8 c, .int .i64 n, dt]] w (PairPost base A P Q dv lv w) := by
  obtain ⟨da, dc, rfl⟩ := hd.shape
  have t1 : (k == 1) = false := by simp; omega
  have t2 : (k == 2) = false := by simp; omega
  have t3 : (k == 3) = false := by simp; omega
  have t4 : (k == 4) = false := by simp; omega
  have t5 : (k == 5) = false := by simp; omega
  have t6 : (k == 6) = false := by simp; omega
  have FIN := Lib.hid (fun W (hf : Fr No w W) => pairpost_mk (PairTo.refl h hf))
  clear hk hd h
  go_enter Tryd.func33, Tryd.ntmps33
  go_wp2_with fail
  go_ret
  exact FIN.out _ ((Fr.refl _ _).alloc _)

set_option maxRecDepth 100000 in
set_option maxHeartbeats 3200000 in
theorem step2_calls (c n : Int) (dt : Value) (ds : List Int) (w : World) (h : PairAt w base A P Q dv lv xs r) (hk : KeysAt w) (h0 : 0 < base) (hd : BSl w dt ds) (hi : InB ds) (hlow : ds ≠ [] → ∀ q, dt.ownBlock = some q → q < base) :
    Calls Tryd.prog 33 #[.pointer (some ⟨A, 0, none⟩), .agg #[.int .i64 2, .int .u8 c, .int .i64 n, dt]] w (PairPost base A P Q dv lv w) := by
  obtain ⟨da, dc, rfl⟩ := hd.shape
  have hdl := hd.len
  have hbw : base ≤ w.heap.size := h.2.2.2.2.2.1.1
  have H := Lib.hid h; clear h
  have HK := Lib.hid hk; clear hk
  have HD := Lib.hid hd; clear hd
  have HI := Lib.hid hi; clear hi
  have HLOW := Lib.hid hlow; clear hlow
  go_enter Tryd.func33, Tryd.ntmps33
  go_wp2_with fail
  generalize hW : w.alloc _ = W
  have F0 : Fr No w W := by rw [← hW]; exact (Fr.refl _ _).alloc _
  have hBK : Blk W w.heap.size [.int .i64 2, .int .u8 c, .int .i64 n, .slice da ds.length dc] 66 := by rw [← hW]; exact Blk.new w _ _
  clear hW
  have HF0 := Lib.hid F0; clear F0
  have HBK := Lib.hid hBK; clear hBK
  have HFP := Lib.hid (show ∀ q, PairFP A P Q dv lv q → q < w.heap.size ∧ base ≤ q from fun q hq => ⟨H.out.lt q hq, H.out.low q hq⟩)
  go_loopg [5] 600 (fun g i wx => ∃ k : Nat, k ≤ ds.length ∧ k ≤ 600 ∧ g = 600 - k ∧ i = .int .i64 k ∧ ∃ P' Q' dv' lv' xs' r', PairTo base A P Q dv lv W wx P' Q' dv' lv' xs' r')
  case atStart => exact ⟨0, Nat.zero_le _, Nat.zero_le _, rfl, rfl, P, Q, dv, lv, xs, r, PairTo.refl (H.out.no HF0.out) (Fr.refl _ _)⟩
  case round =>
    obtain ⟨k, hk, hk6, rfl, rfl, P', Q', dv', lv', xs', r', hto⟩ := hrel
    have hbk := HBK.out.fr hto.2.2 (fun hh => by have := (HFP.out _ hh).1; omega)
    have d0 : wr.cell? ⟨w.heap.size, 3, none⟩ = some (.slice da ds.length dc) := hbk.cell 3
    have HTO := Lib.hid hto; clear hto hbk
    by_cases hboth : k < ds.length ∧ k < 600
    · obtain ⟨hlt, h6⟩ := hboth
      obtain ⟨b, o, rfl, hc⟩ := bsl_cell HD.out k hlt
      have hbb := HLOW.out (List.ne_nil_of_length_pos (by omega)) b rfl
      have hc := HTO.out.2.2.cell (HF0.out.cell hc id) (fun hh => by have := (HFP.out _ hh).2; exact absurd hbb (by simpa using this))
      obtain ⟨x, hx⟩ : ∃ x, x = ds[k] := ⟨_, rfl⟩
      have hxb : 0 ≤ x ∧ x ≤ 255 := by rw [hx]; exact HI.out _ (List.getElem_mem _)
      rw [← hx] at hc
      have HT := Lib.hid (pairtyped_calls base A P' Q' dv' lv' xs' r' x wr HTO.out.1 ((HK.out.no HF0.out).fr HTO.out.2.2 (fun hh => by have := (HFP.out _ hh).2; omega)) hxb)
      clear hx hxb hbb
      go_wp2_with fail
      refine HT.out.mono ?_
      intro e w2 hp
      unfold PairPost at hp
      obtain ⟨rfl, P2, Q2, dv2, lv2, xs2, r2, hto2⟩ := hp
      have HNX := Lib.hid (HTO.out.trans hto2)
      clear hto2
      go_wp2_with fail
      go_roundg (600 - (k + 1))
      case measure => omega
      case rel => exact ⟨k + 1, by omega, by omega, rfl, by go_num, P2, Q2, dv2, lv2, xs2, r2, HNX.out⟩
    · have FIN := Lib.hid (pairpost_mk (HTO.out.pre HF0.out))
      by_cases hA : k < ds.length
      case' pos => have hB : ¬ k < 600 := fun h => hboth ⟨hA, h⟩
      case' neg => have hB : True := trivial
      all_goals
        clear hboth
        go_wp2_with fail
        go_ret
        exact FIN.out

set_option maxRecDepth 100000 in
set_option maxHeartbeats 3200000 in
theorem step3_calls (c n : Int) (dt : Value) (ds : List Int) (w : World) (h : PairAt w base A P Q dv lv xs r) (hn : I64 n) (hd : BSl w dt ds) :
    Calls Tryd.prog 33 #[.pointer (some ⟨A, 0, none⟩), .agg #[.int .i64 3, .int .u8 c, .int .i64 n, dt]] w (PairPost base A P Q dv lv w) := by
  obtain ⟨da, dc, rfl⟩ := hd.shape
  have hr := h.2.2.2.2.2.2.1
  have h128 := h.2.2.2.2.1.2.1
  have H := Lib.hid h; clear h
  have HN := Lib.hid hn; clear hn
  clear hd
  go_enter Tryd.func33, Tryd.ntmps33
  go_wp2_with fail
  generalize hW : w.alloc _ = W
  have F0 : Fr No w W := by rw [← hW]; exact (Fr.refl _ _).alloc _
  have hBK : Blk W w.heap.size [.int .i64 3, .int .u8 c, .int .i64 n, .slice da ds.length dc] 66 := by rw [← hW]; exact Blk.new w _ _
  clear hW
  have HFP := Lib.hid (show ∀ q, PairFP A P Q dv lv q → q < w.heap.size from fun q hq => H.out.lt q hq)
  have HP := Lib.hid (H.out.no F0)
  have p0 : W.cell? ⟨A, 0, none⟩ = some (.pointer (some ⟨P, 0, none⟩)) := HP.out.2.2.2.1.cell 0
  have n0 : W.cell? ⟨w.heap.size, 2, none⟩ = some (.int .i64 n) := hBK.cell 2
  have HF0 := Lib.hid F0; clear F0
  have HBK := Lib.hid hBK; clear hBK
  obtain ⟨F, hF⟩ : ∃ F, F = decide (0 < r) := ⟨_, rfl⟩
  have HFF := Lib.hid hF
  clear hF
  have TKP := Lib.hid (show ∀ (W1 w1 : World) (e : Ending), Fr No W W1 → TakePost P xs r n W1 e w1 → ∃ v1, e = .returned (.tuple #[v1, .bool F]) ∧ Own w1 W1.heap.size v1 (takeL n xs r) ∧ ConAt w1 P (xs.drop (takeU n xs r)) (r - takeU n xs r) ∧ Fr (· = P) W1 w1 ∧ w1.cell? ⟨A, 0, none⟩ = some (.pointer (some ⟨P, 0, none⟩)) ∧ w1.cell? ⟨A, 1, none⟩ = some (.pointer (some ⟨Q, 0, none⟩)) ∧ w1.cell? ⟨w.heap.size, 2, none⟩ = some (.int .i64 n) from by
    intro W1 w1 e hf hp
    unfold TakePost at hp
    rw [← HFF.out] at hp
    obtain ⟨v1, he, ho1, hc1, hf1⟩ := hp
    have hb := (HP.out.no hf).2.2.2.1.fr hf1 HP.out.neAP
    exact ⟨v1, he, ho1, hc1, hf1, hb.cell 0, hb.cell 1, ((HBK.out.fr hf id).fr hf1 (fun e => by have := HFP.out P (.inr (.inl rfl)); omega)).cell 2⟩)
  go_region_held3 (fun w' => w'.cell? ⟨A, 0, none⟩ = some (.pointer (some ⟨P, 0, none⟩)) ∧ w'.cell? ⟨w.heap.size, 2, none⟩ = some (.int .i64 n))
    (first
      | go_keep
      | exact ⟨p0, n1⟩)
    (first
      | (go_at_call 25; refine (take_calls P xs r n _ (HP.out.no (Fr.refl No _).drew).2.2.2.2.1 HN.out.1 HN.out.2).mono ?_; intro e w1 hp; obtain ⟨v1, rfl, ho1, hc1, hf1, p0, p1, n1⟩ := TKP.out _ _ _ (Fr.refl No _).drew hp; have HO1 := Lib.hid ho1; have HC1 := Lib.hid hc1; have HF1 := Lib.hid hf1; clear hp ho1 hc1 hf1))
  rename_i hHeld
  clear hHeld
  have hFW1 : Fr No W W.drew := (Fr.refl No W).drew
  obtain ⟨W1, hW1⟩ : ∃ W1 : World, W1 = W.drew := ⟨_, rfl⟩
  rw [← hW1] at hFW1 HO1 HF1
  have HFW1 := Lib.hid hFW1
  have HP1 := Lib.hid (HP.out.no hFW1)
  clear hW1 hFW1 p0
  have hr1 := HP1.out.2.2.2.2.2.1.fr HF1.out (fun k hk e => by
    rcases hk with hk | hk | hk
    · exact HP1.out.nePQ (e.symm.trans hk)
    · exact row_ne_con HP1.out.2.2.2.2.2.1.2.2.1 HP1.out.2.2.2.2.1 (by decide) k hk e
    · exact row_ne_con HP1.out.2.2.2.2.2.1.2.2.2.1 HP1.out.2.2.2.2.1 (by decide) k hk e)
  have HR := Lib.hid hr1
  clear hr1
  have RTP := Lib.hid (show ∀ (W2 w2 : World) (e : Ending), Fr No w1 W2 → RefTakePost base Q dv lv (xs.take r) (xs.drop r) n W2 e w2 → ∃ v2, e = .returned (.tuple #[v2, .bool F]) ∧ BSl w2 v1 (takeL n xs r) ∧ BSl w2 v2 (takeL n xs r) ∧ (∃ dv', PairTo base A P Q dv lv W1 w2 P Q dv' lv (xs.drop (takeU n xs r)) (r - takeU n xs r)) ∧ w2.cell? ⟨A, 1, none⟩ = some (.pointer (some ⟨Q, 0, none⟩)) ∧ w2.cell? ⟨w.heap.size, 2, none⟩ = some (.int .i64 n) from by
    intro W2 w2 e hf hp
    unfold RefTakePost at hp
    obtain ⟨v2, dv', he, ho2, hr2, hbl2, _, hf2⟩ := hp
    rw [takeL_ref hr] at ho2
    have htl : (takeL n xs r).length ≤ 128 := by
      unfold takeL
      split
      · simp
      · simp; omega
    have hto := HP1.out.taken (n := n) (HC1.out.no hf) (HF1.out.trans hf (fun _ _ h => h.elim)) hr2 (fun k hk => (hbl2 k hk)) hf2
    refine ⟨v2, by rw [he, HFF.out, show (xs.take r).length = r by simp; omega], ((HO1.out.no hf).fr hf2 (fun k hk hh => ?_)).bsl (by omega), ho2.bsl (by omega), ⟨dv', hto⟩, hto.1.2.2.2.1.cell 1, ?_⟩
    · have := (HO1.out.lt k hk).1
      have := HP1.out.2.2.2.2.2.1.2.1.lt
      omega
    · exact (((HBK.out.fr HFW1.out id).fr hto.2.2 (fun hh => by have := HFP.out _ hh; omega))).cell 2)
  go_wp2_with fail
  go_region_held3 (fun w' => w'.cell? ⟨A, 1, none⟩ = some (.pointer (some ⟨Q, 0, none⟩)) ∧ w'.cell? ⟨w.heap.size, 2, none⟩ = some (.int .i64 n))
    (first
      | go_keep
      | exact ⟨p2, n2⟩)
    (first
      | (go_at_call 26; refine (reftake_calls base Q dv lv (xs.take r) (xs.drop r) n _ (HR.out.no (Fr.refl No _).drew) (by simp; omega) HN.out.1 HN.out.2).mono ?_; intro e w2 hp; obtain ⟨v2, rfl, hb1, hb2, ⟨dv', hto⟩, p2, n2⟩ := RTP.out _ _ _ (Fr.refl No _).drew hp; have b1 := Lib.hid hb1; have b2 := Lib.hid hb2; have FIN := Lib.hid hto; clear hp hb1 hb2 hto))
  rename_i hHeld
  clear hHeld
  have hFF : (F == F) = true := by simp
  go_wp2_with fail
  refine (bytes_calls _ _ _ _ w2 b1.out b2.out).mono ?_
  rw [decide_eq_true rfl]
  rintro e w3 ⟨rfl, m, rfl⟩
  have FI := Lib.hid (pairpost_mk ((FIN.out.pre (HF0.out.trans HFW1.out (fun _ _ h => h))).no ((Fr.refl No w2).drewN m)))
  go_wp2_with fail
  go_ret
  exact FI.out

set_option maxRecDepth 100000 in
set_option maxHeartbeats 3200000 in
theorem step4_calls (c n : Int) (dt : Value) (ds : List Int) (w : World) (h : PairAt w base A P Q dv lv xs r) (hn : I64 n) (hd : BSl w dt ds) :
    Calls Tryd.prog 33 #[.pointer (some ⟨A, 0, none⟩), .agg #[.int .i64 4, .int .u8 c, .int .i64 n, dt]] w (PairPost base A P Q dv lv w) := by
  obtain ⟨da, dc, rfl⟩ := hd.shape
  have hr := h.2.2.2.2.2.2.1
  have h128 := h.2.2.2.2.1.2.1
  have H := Lib.hid h; clear h
  have HN := Lib.hid hn; clear hn
  clear hd
  go_enter Tryd.func33, Tryd.ntmps33
  go_wp2_with fail
  generalize hW : w.alloc _ = W
  have F0 : Fr No w W := by rw [← hW]; exact (Fr.refl _ _).alloc _
  have hBK : Blk W w.heap.size [.int .i64 4, .int .u8 c, .int .i64 n, .slice da ds.length dc] 66 := by rw [← hW]; exact Blk.new w _ _
  clear hW
  have HP := Lib.hid (H.out.no F0)
  have p0 : W.cell? ⟨A, 0, none⟩ = some (.pointer (some ⟨P, 0, none⟩)) := HP.out.2.2.2.1.cell 0
  have n0 : W.cell? ⟨w.heap.size, 2, none⟩ = some (.int .i64 n) := hBK.cell 2
  have HF0 := Lib.hid F0; clear F0
  have HBK := Lib.hid hBK; clear hBK
  obtain ⟨F, hF⟩ : ∃ F, F = decide (0 < r) := ⟨_, rfl⟩
  have HFF := Lib.hid hF
  clear hF
  have TKP := Lib.hid (show ∀ (W1 w1 : World) (e : Ending), Fr No W W1 → PeekPost xs r n W1 e w1 → ∃ v1, e = .returned (.tuple #[v1, .bool F]) ∧ Own w1 W1.heap.size v1 (takeL n xs r) ∧ Fr No W1 w1 ∧ w1.cell? ⟨A, 0, none⟩ = some (.pointer (some ⟨P, 0, none⟩)) ∧ w1.cell? ⟨A, 1, none⟩ = some (.pointer (some ⟨Q, 0, none⟩)) ∧ w1.cell? ⟨w.heap.size, 2, none⟩ = some (.int .i64 n) from by
    intro W1 w1 e hf hp
    unfold PeekPost at hp
    rw [← HFF.out] at hp
    obtain ⟨v1, he, ho1, hf1⟩ := hp
    have hb := (HP.out.no hf).2.2.2.1.fr hf1 id
    exact ⟨v1, he, ho1, hf1, hb.cell 0, hb.cell 1, ((HBK.out.fr hf id).fr hf1 id).cell 2⟩)
  go_region_held3 (fun w' => w'.cell? ⟨A, 0, none⟩ = some (.pointer (some ⟨P, 0, none⟩)) ∧ w'.cell? ⟨w.heap.size, 2, none⟩ = some (.int .i64 n))
    (first
      | go_keep
      | exact ⟨p0, n1⟩)
    (first
      | (go_at_call 17; refine (peek_calls P xs r n _ (HP.out.no (Fr.refl No _).drew).2.2.2.2.1 HN.out.1 HN.out.2).mono ?_; intro e w1 hp; obtain ⟨v1, rfl, ho1, hf1, p0, p1, n1⟩ := TKP.out _ _ _ (Fr.refl No _).drew hp; have HO1 := Lib.hid ho1; have HF1 := Lib.hid hf1; clear hp ho1 hf1))
  rename_i hHeld
  clear hHeld
  have HF01 := Lib.hid ((Fr.refl No W).drew.trans HF1.out (fun _ _ h => h))
  have HR := Lib.hid (HP.out.no HF01.out)
  clear p0
  have RTP := Lib.hid (show ∀ (W2 w2 : World) (e : Ending), Fr No w1 W2 → (∃ v', e = .returned (.tuple #[v', .bool (decide (0 < (xs.take r).length))]) ∧ Own w2 W2.heap.size v' (refL n (xs.take r)) ∧ Below W2.heap.size W2 w2) → ∃ v2, e = .returned (.tuple #[v2, .bool F]) ∧ BSl w2 v1 (takeL n xs r) ∧ BSl w2 v2 (takeL n xs r) ∧ PairTo base A P Q dv lv W w2 P Q dv lv xs r ∧ w2.cell? ⟨A, 1, none⟩ = some (.pointer (some ⟨Q, 0, none⟩)) ∧ w2.cell? ⟨w.heap.size, 2, none⟩ = some (.int .i64 n) from by
    intro W2 w2 e hf hp
    obtain ⟨v2, he, ho2, hb2⟩ := hp
    rw [takeL_ref hr] at ho2
    have htl : (takeL n xs r).length ≤ 128 := by
      unfold takeL
      split
      · simp
      · simp; omega
    have hf3 := ((HF01.out.trans hf (fun _ _ h => h)).trans (Fr.of_below hb2) (fun _ _ h => h))
    have hto := PairTo.refl HP.out hf3
    exact ⟨v2, by rw [he, HFF.out, show (xs.take r).length = r by simp; omega], ((HO1.out.no hf).no (Fr.of_below hb2)).bsl (by omega), ho2.bsl (by omega), hto, hto.1.2.2.2.1.cell 1, (HBK.out.fr hf3 id).cell 2⟩)
  go_wp2_with fail
  go_region_held3 (fun w' => w'.cell? ⟨A, 1, none⟩ = some (.pointer (some ⟨Q, 0, none⟩)) ∧ w'.cell? ⟨w.heap.size, 2, none⟩ = some (.int .i64 n))
    (first
      | go_keep
      | exact ⟨p2, n2⟩)
    (first
      | (go_at_call 50; refine (refpeek_calls base Q dv lv (xs.take r) (xs.drop r) n _ (HR.out.no (Fr.refl No _).drew).2.2.2.2.2.1 (by simp; omega) HN.out.1 HN.out.2).mono ?_; intro e w2 hp; obtain ⟨v2, rfl, hb1, hb2, hto, p2, n2⟩ := RTP.out _ _ _ (Fr.refl No _).drew hp; have b1 := Lib.hid hb1; have b2 := Lib.hid hb2; have FIN := Lib.hid hto; clear hp hb1 hb2 hto))
  rename_i hHeld
  clear hHeld
  have hFF : (F == F) = true := by simp
  go_wp2_with fail
  refine (bytes_calls _ _ _ _ w2 b1.out b2.out).mono ?_
  rw [decide_eq_true rfl]
  rintro e w3 ⟨rfl, m, rfl⟩
  have FI := Lib.hid (pairpost_mk ((FIN.out.pre HF0.out).no ((Fr.refl No w2).drewN m)))
  go_wp2_with fail
  go_ret
  exact FI.out
end
end Go.Proofs.YtollgpnaadgncaaDoor
