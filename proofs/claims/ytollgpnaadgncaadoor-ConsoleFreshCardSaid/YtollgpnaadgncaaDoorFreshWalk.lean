/- ConsoleFresh: the walk. No condition. -/
import Derived.Test.YtollgpnaadgncaaDoorFreshA
namespace Go.Proofs.YtollgpnaadgncaaDoor
open Go.RowKit

theorem two_sl (a b : Option Addr) (n c m d : Nat) : ∀ u ∈ [Value.slice a n c, .slice b m d], u.oneCell' = true := by intro u hu; simp at hu; rcases hu with rfl | rfl <;> rfl

theorem fresh_free {w0 wr w4 w6 : World} {A P Q r : Nat} {dv lv l1 l2 s1 s2 m1 : Value} {xs a b : List Int} {vs us : List Value} {ls : List (List Int)} (h : FreshAt w0 wr A P Q dv lv xs r vs us ls l1 vs l2 us) (hs1 : Own w4 wr.heap.size s1 a) (hs2 : Own w4 wr.heap.size s2 b)
    (hs12 : ∀ k, s1.ownBlock = some k → s2.ownBlock ≠ some k) (hb4 : Below wr.heap.size wr w4) (hf : Fr (fun k => l1.ownBlock = some k) w4 w6) (hown : w6.ownsRow w0.heap.size 22 1 m1 (vs.length + 2) (vs ++ [s1, s2])) (ha : a.length ≤ 400) (hb : b.length ≤ 400) (hN : vs.length ≤ 90) :
    Calls Tryd.prog 21 #[m1] w6 fun e w' => e = .returned (.bool true) ∧ PairAt w' w0.heap.size A P Q dv lv xs r ∧ Below w0.heap.size w0 w' := by
  have h9 := h.2.2.2.2.2.2.2.2
  have s0 := h9.size
  have s4 := hb4.size
  have s6 := hf.size
  have h4 := h.no (Fr.of_below hb4)
  have hl1 := h4.2.2.2.2.1
  have hoff := lrow_off hl1 h4.1
  have hl1lt := h.2.2.2.2.1.lt
  have hap : ∀ {b : Nat} {v : Value} {x : List Int}, Row 5 .u8 w4 b v x → ∀ k, v.ownBlock = some k → ¬ l1.ownBlock = some k := fun hr k hk hh => row_apart hl1 hr (by decide) k hh hk
  have hm4 : Many w4 w0.heap.size wr.heap.size vs ls := h.2.1.no (Fr.of_below hb4)
  have hm6 : Many w6 w0.heap.size wr.heap.size vs ls := hm4.fr hf (fun v hv k hk hh => by
    obtain ⟨j, hj⟩ := List.mem_iff_getElem?.1 hv
    exact hap (hm4.2.1 j v hj) k hk hh)
  have hm := hm6.snoc2 (C := w4.heap.size) (v1 := s1) (v2 := s2) (row_fr hs1.1 hf (hap hs1.1)) (row_fr hs2.1 hf (hap hs2.1)) s0 (fun k hk => hs1.lt k hk) (fun k hk => hs2.lt k hk) hs12 s4
  have hlist : vs ++ [s1] ++ [s2] = vs ++ [s1, s2] := by simp
  have hp6 : PairAt w6 w0.heap.size A P Q dv lv xs r := by
    have hp := h4.1
    exact ⟨hp.1, hp.2.1, hp.2.2.1, hp.2.2.2.1.fr hf (fun hh => hoff A hh (.inl rfl)), hp.2.2.2.2.1.fr hf (fun hh => hoff P hh (.inr (.inl rfl))), hp.2.2.2.2.2.1.fr hf (fun k hk hh => hoff k hh (.inr (.inr hk))), hp.2.2.2.2.2.2⟩
  refine (free_many (vs ++ [s1] ++ [s2]) (ls ++ [a] ++ [b]) m1 w0.heap.size w0.heap.size w4.heap.size w6 (by rw [hlist]; simpa using hown) hm (by omega) (by simp; omega) (fun x hx => ?_)).mono ?_
  · rcases List.mem_append.1 hx with hx | hx
    · rcases List.mem_append.1 hx with hx | hx
      · have := h.2.2.2.2.2.2.2.1 x hx; omega
      · rw [List.mem_singleton.1 hx]; omega
    · rw [List.mem_singleton.1 hx]; omega
  · rintro e w' ⟨he, hff⟩
    have hno : ∀ k, PairFP A P Q dv lv k → ¬ SBlk (vs ++ [s1] ++ [s2]) k := by
      rintro k hk ⟨v, hv, hvk⟩
      have hkl := h.1.lt k hk
      rcases List.mem_append.1 hv with hv | hv
      · rcases List.mem_append.1 hv with hv | hv
        · exact h.2.2.2.1 v (.inl hv) k hvk hk
        · rw [List.mem_singleton.1 hv] at hvk
          have := (hs1.lt k hvk).1; omega
      · rw [List.mem_singleton.1 hv] at hvk
        have := (hs2.lt k hvk).1; omega
    refine ⟨he, ⟨hp6.1, hp6.2.1, hp6.2.2.1, hp6.2.2.2.1.fr hff (hno A (.inl rfl)), hp6.2.2.2.2.1.fr hff (hno P (.inr (.inl rfl))), hp6.2.2.2.2.2.1.fr hff (fun k hk => hno k (.inr (.inr hk))), hp6.2.2.2.2.2.2⟩, ?_⟩
    have hb6 : Below w0.heap.size w0 w6 := Fr.below_of (h9.trans (hb4.mono s0)) hf (by omega) (fun k hk => (hl1.lt k hk).1)
    exact Fr.below_of hb6 hff hb6.size (fun k ⟨v, hv, hk⟩ => hm.low v hv k hk)

set_option maxRecDepth 100000 in
set_option maxHeartbeats 12800000 in
theorem fresh_walk (ss : List Int) (v : Value) (w : World) (h : BSl w v ss) (g : InB ss) (hk : KeysAt w) :
    Calls Tryd.prog 5 #[v] w fun e w' => e = .returned (.bool true) ∧ Below w.heap.size w w' := by
  obtain ⟨i34, hi34, hy0, hy1, hy2⟩ := info_parts info34
  have hlow := h.lowb
  obtain ⟨sa, sc, rfl⟩ := h.shape
  have hsl := h.len
  have HX := Lib.hid h; clear h
  have HG := Lib.hid g; clear g
  have HK := Lib.hid hk; clear hk
  have HLOW := Lib.hid hlow; clear hlow
  go_enter Tryd.func5, Tryd.ntmps5
  go_wp2_with fail
  refine (new_calls w).mono ?_
  rintro e w1 ⟨rfl, hc1, hb1⟩
  have HC1 := Lib.hid hc1
  have HB1 := Lib.hid hb1
  have hwl : w.heap.size < w1.heap.size := hc1.lt
  clear hc1 hb1
  go_wp2_with fail
  refine (refnew_calls w1).mono ?_
  rintro e w2 ⟨rfl, hr2, hb2⟩
  obtain ⟨w1q, hw1q⟩ : ∃ q, q = w1.heap.size := ⟨_, rfl⟩
  rw [← hw1q] at hr2 hwl ⊢
  have h1q : w1q ≤ w1.heap.size := by omega
  have hql : w1q < w2.heap.size := hr2.2.1.lt
  go_wp2_with fail
  generalize hW : w2.alloc _ = W
  have hFW : Fr No w2 W := by rw [← hW]; exact (Fr.refl No w2).alloc _
  have hBA : Blk W w2.heap.size [.pointer (some ⟨w.heap.size, 0, none⟩), .pointer (some ⟨w1q, 0, none⟩)] 53 := by rw [← hW, hw1q]; exact Blk.new w2 [.pointer (some ⟨w.heap.size, 0, none⟩), .pointer (some ⟨w1.heap.size, 0, none⟩)] _
  clear hW
  have HE := Lib.hid (show FreshAt w W w2.heap.size w.heap.size w1q (.slice none 0 0) (.slice none 0 0) [] 0 [] [] [] (.slice none 0 0) [] (.slice none 0 0) [] from by
    have h12 := Fr.of_below hb2
    have hs := HB1.out.size
    have hr3 := hr2.no hFW
    refine ⟨⟨by have := h12.size; omega, Nat.le_refl _, by omega, hBA, (HC1.out.no h12).no hFW, ⟨by have := hr3.1; omega, hr3.2.1, row_base hr3.2.2.1 (by omega), row_base hr3.2.2.2.1 (by omega), hr3.2.2.2.2⟩, OKX.new⟩, (Many.nil W _ _), (Many.nil W _ _), fun v hv => by simp at hv, World.ownsRow_nil _ _ _ _, World.ownsRow_nil _ _ _ _, fun k hk => by simp [Value.ownBlock] at hk, fun l hl => by simp at hl, (HB1.out.trans (hb2.mono hs)).trans (hFW.below.mono (Nat.le_trans hs h12.size))⟩)
  clear hBA hFW hr2 hb2 hw1q
  go_loopg [5, 6, 7] ss.length (fun g l10 l20 i wx => ∃ (l1 l2 : Value) (k : Nat) (dv lv : Value) (xs : List Int) (r : Nat) (vs us : List Value) (ls : List (List Int)), l1 = l10 ∧ l2 = l20 ∧ k ≤ ss.length ∧ g = ss.length - k ∧ i = .int .i64 k ∧ vs.length ≤ 90 ∧ FreshAt w wx w2.heap.size w.heap.size w1q dv lv xs r vs us ls l1 vs l2 us)
  case atStart => exact ⟨_, _, 0, _, _, [], 0, [], [], [], rfl, rfl, Nat.zero_le _, rfl, rfl, by simp, HE.out⟩
  case round =>
    obtain ⟨l1, l2, k, dv, lv, xs, r, vs, us, ls, rfl, rfl, hk, rfl, rfl, hvl, hat⟩ := hrel
    obtain ⟨N, hN⟩ : ∃ N, N = vs.length := ⟨_, rfl⟩
    have hNU : N = us.length := by rw [hN, hat.2.1.1, hat.2.2.1.1]
    obtain ⟨l1a, l1c, rfl, hl1c, _⟩ := row_shape hat.2.2.2.2.1
    obtain ⟨l2a, l2c, rfl, hl2c, _⟩ := row_shape hat.2.2.2.2.2.1
    rw [← hN] at hvl hat hl1c ⊢
    rw [← hNU] at hat hl2c ⊢
    have HNV := Lib.hid hN
    have HNU := Lib.hid hNU
    have HAT := Lib.hid hat
    have hszr := hat.2.2.2.2.2.2.2.2.size
    clear hN hNU hat
    by_cases hboth : k < ss.length ∧ N < 90
    · obtain ⟨hlt, h90⟩ := hboth
      obtain ⟨b1, o1, rfl, hc⟩ := bsl_cell HX.out k hlt
      have hbw : b1 < w.heap.size := HLOW.out (List.ne_nil_of_length_pos (by omega)) b1 rfl
      have hcx := (HAT.out.2.2.2.2.2.2.2.2.cell (p := ⟨b1, o1 + k, none⟩) hbw).trans hc
      obtain ⟨x, hx⟩ : ∃ x, x = ss[k] := ⟨_, rfl⟩
      have hxb : 0 ≤ x ∧ x ≤ 255 := by rw [hx]; exact HG.out _ (List.getElem_mem _)
      rw [← hx] at hcx hc
      clear hx
      by_cases hT : x = 255 ∧ k + 1 < ss.length
      · obtain ⟨rfl, hk1⟩ := hT
        obtain ⟨J, hJ⟩ : ∃ J, J = k + 1 := ⟨_, rfl⟩
        have hJi : (k : Int) + 1 = (J : Int) := by omega
        rw [← hJ] at hk1
        obtain ⟨b2, o2, he, hcj⟩ := bsl_cell HX.out J hk1
        cases he
        have hcJ := (HAT.out.2.2.2.2.2.2.2.2.cell (p := ⟨b1, o1 + J, none⟩) hbw).trans hcj
        obtain ⟨y, hy⟩ : ∃ y, y = ss[J] := ⟨_, rfl⟩
        have hyb : 0 ≤ y ∧ y ≤ 255 := by rw [hy]; exact HG.out _ (List.getElem_mem _)
        rw [← hy] at hcJ hcj
        have hwy : IntKind.i64.wrap (1 + y) = 1 + y := IntWalk.i64_in _ (by omega)
        have hwy2 : IntKind.i64.wrap y = y := IntWalk.i64_in _ (by omega)
        obtain ⟨F, hF⟩ : ∃ F, F = decide (0 < r) := ⟨_, rfl⟩
        have HFF := Lib.hid hF
        clear hF hy hJ hxb
        have TKP := Lib.hid (show ∀ (W1 w1 : World) (e : Ending), Fr No wr W1 → TakePost (w.heap.size) xs r (1 + y) W1 e w1 → ∃ va vL vc, e = .returned (.tuple #[.slice va vL vc, .bool F]) ∧ Own w1 W1.heap.size (.slice va vL vc) (takeL (1 + y) xs r) ∧ ConAt w1 (w.heap.size) (xs.drop (takeU (1 + y) xs r)) (r - takeU (1 + y) xs r) ∧ Fr (· = w.heap.size) W1 w1 ∧ w1.cell? ⟨w2.heap.size, 0, none⟩ = some (.pointer (some ⟨w.heap.size, 0, none⟩)) ∧ w1.cell? ⟨w2.heap.size, 1, none⟩ = some (.pointer (some ⟨w1q, 0, none⟩)) ∧ w1.cell? ⟨b1, o1 + J, none⟩ = some (.int .u8 y) from by
          intro W1 w1 e hf hp
          unfold TakePost at hp
          rw [← HFF.out] at hp
          obtain ⟨v1, he, ho1, hc1, hf1⟩ := hp
          obtain ⟨va, vc, rfl⟩ := ho1.shape
          have hb := (HAT.out.1.no hf).2.2.2.1.fr hf1 HAT.out.1.neAP
          exact ⟨va, _, vc, he, ho1, hc1, hf1, hb.cell 0, hb.cell 1, hf1.cell (hf.cell hcJ id) (fun (e : b1 = w.heap.size) => by omega)⟩)
        have HCJ := Lib.hid hcJ
        have p0 : wr.cell? ⟨w2.heap.size, 0, none⟩ = some (.pointer (some ⟨w.heap.size, 0, none⟩)) := HAT.out.1.2.2.2.1.cell 0
        go_wp2_with fail
        go_region_held3 (fun w' => w'.cell? ⟨w2.heap.size, 0, none⟩ = some (.pointer (some ⟨w.heap.size, 0, none⟩)) ∧ w'.cell? ⟨b1, o1 + J, none⟩ = some (.int .u8 y))
          (first
            | go_keep
            | exact ⟨p0, n1⟩)
          (first
            | (go_at_call 25; refine (take_calls (w.heap.size) xs r (1 + y) _ (HAT.out.1.no (Fr.refl No _).drew).2.2.2.2.1 (by omega) (by omega)).mono ?_; intro e w4 hp; obtain ⟨va, vL, vc, rfl, ho1, hc1, hf1, p0, p1, n1⟩ := TKP.out _ _ _ (Fr.refl No _).drew hp; have HO1 := Lib.hid ho1; have HC1 := Lib.hid hc1; have HF1 := Lib.hid hf1; clear hp ho1 hc1 hf1))
        rename_i hHeld
        clear hHeld
        obtain ⟨W1, hW1⟩ : ∃ W1 : World, W1 = wr.drew := ⟨_, rfl⟩
        have hFW1 : Fr No wr W1 := by rw [hW1]; exact (Fr.refl No wr).drew
        rw [← hW1] at HO1 HF1
        have HAT1 := Lib.hid (HAT.out.no hFW1)
        clear hW1 hFW1 p0
        have hr1 := HAT1.out.1.2.2.2.2.2.1.fr HF1.out (fun k hk e => by
          rcases hk with hk | hk | hk
          · exact HAT1.out.1.nePQ (e.symm.trans hk)
          · exact row_ne_con HAT1.out.1.2.2.2.2.2.1.2.2.1 HAT1.out.1.2.2.2.2.1 (by decide) k hk e
          · exact row_ne_con HAT1.out.1.2.2.2.2.2.1.2.2.2.1 HAT1.out.1.2.2.2.2.1 (by decide) k hk e)
        have HR := Lib.hid hr1
        clear hr1
        have RTP := Lib.hid (show ∀ (W2 w5 : World) (e : Ending), Fr No w4 W2 → RefTakePost (w.heap.size) w1q dv lv (xs.take r) (xs.drop r) (1 + y) W2 e w5 → ∃ ua uL uc dv' l, e = .returned (.tuple #[.slice ua uL uc, .bool F]) ∧ FreshAt w w5 w2.heap.size w.heap.size w1q dv' lv (xs.drop (takeU (1 + y) xs r)) (r - takeU (1 + y) xs r) (vs ++ [.slice va vL vc]) (us ++ [.slice ua uL uc]) (ls ++ [l]) (.slice l1a N l1c) vs (.slice l2a N l2c) us ∧ w5.cell? ⟨w2.heap.size, 1, none⟩ = some (.pointer (some ⟨w1q, 0, none⟩)) ∧ w5.cell? ⟨b1, o1 + J, none⟩ = some (.int .u8 y) from by
          intro W2 w5 e hf hp
          unfold RefTakePost at hp
          obtain ⟨v2, dv', he, ho2, hr2, hbl2, hsep, hf2⟩ := hp
          obtain ⟨ua, uc, rfl⟩ := ho2.shape
          have hsz := hf.size
          obtain ⟨l, hnew⟩ := HAT1.out.take (n := 1 + y) (HO1.out.no hf) (HC1.out.no hf) (HF1.out.trans hf (fun _ _ h => h.elim)) ho2 hr2 hbl2 hsep hf2
          have hQ := HAT1.out.1.2.2.1
          refine ⟨ua, _, uc, dv', l, ?_, hnew, hnew.1.2.2.2.1.cell 1, hf2.cell (hf.cell n1 id) (fun (e : b1 = w1q) => by omega)⟩
          have hrl := HAT1.out.1.2.2.2.2.2.2.1
          rw [he, HFF.out, show (xs.take r).length = r by simp; omega])
        go_wp2_with fail
        go_region_held3 (fun w' => w'.cell? ⟨w2.heap.size, 1, none⟩ = some (.pointer (some ⟨w1q, 0, none⟩)) ∧ w'.cell? ⟨b1, o1 + J, none⟩ = some (.int .u8 y))
          (first
            | go_keep
            | exact ⟨p2, n2⟩)
          (first
            | (go_at_call 26; refine (reftake_calls (w.heap.size) w1q dv lv (xs.take r) (xs.drop r) (1 + y) _ (HR.out.no (Fr.refl No _).drew) (by have := HAT1.out.1.2.2.2.2.1.2.1; rw [List.length_take]; omega) (by omega) (by omega)).mono ?_; intro e w5 hp; obtain ⟨ua, uL, uc, dv2, l, rfl, hnew, p2, n2⟩ := RTP.out _ _ _ (Fr.refl No _).drew hp; obtain ⟨lv2, hlv2⟩ : ∃ z, z = lv := ⟨_, rfl⟩; rw [← hlv2] at hnew; have HNEW := Lib.hid hnew; clear hp hnew hlv2))
        rename_i hHeld
        clear hHeld p1 p2 n1 n2
        have hFF : (F != F) = false := by simp
        have hr1 := HNEW.out.2.2.2.2.1
        unfold LRow at hr1
        rw [← HNV.out] at hr1
        have HR1 := Lib.hid hr1
        have hsz5 := HNEW.out.2.2.2.2.2.2.2.2.size
        clear hr1
        go_wp2_with (at_builtin; refine wpList_append_one rfl _ _ 45 rfl w.heap.size 22 i34 (.slice none 0 0) 24 Tryd.underlying45 hi34 hy0 hy1 hy2 rfl (.slice l1a N l1c) N vs rfl (HR1.out.alloc _) _ _ (.slice va vL vc) rfl ?cell rfl ?h63 ?hby ?hba ?_)
        case cell => exact (Blk.new _ [Value.slice va vL vc] 22).cell 0
        case h63 => unfold maxLen; omega
        case hby => omega
        case hba => simp; omega
        intro m1 w6 hown hf hn
        have hg1 := HNEW.out.grow1 (by rw [← HNV.out]; exact hown) (((Fr.refl _ _).alloc _).trans hf (fun _ _ h => h)) (fun q hq => by
          rcases hn q hq with h1 | h1
          · exact .inl h1
          · have h2 : w5.heap.size + 1 ≤ q := by simpa using h1
            exact .inr (by omega))
        have HG1 := Lib.hid hg1
        clear hg1 hown hf hn
        have hr2 := HG1.out.2.2.2.2.2.1
        unfold LRow at hr2
        rw [← HNU.out] at hr2
        have HR2 := Lib.hid hr2
        have hsz6 := HG1.out.2.2.2.2.2.2.2.2.size
        clear hr2
        go_wp2_with (at_builtin; refine wpList_append_one rfl _ _ 45 rfl w.heap.size 22 i34 (.slice none 0 0) 24 Tryd.underlying45 hi34 hy0 hy1 hy2 rfl (.slice l2a N l2c) N us rfl (HR2.out.alloc _) _ _ (.slice ua uL uc) rfl ?cell2 rfl ?h632 ?hby2 ?hba2 ?_)
        case cell2 => exact (Blk.new _ [Value.slice ua uL uc] 22).cell 0
        case h632 => unfold maxLen; omega
        case hby2 => omega
        case hba2 => simp; omega
        intro m2 w7 hown hf hn
        have hg2 := HG1.out.grow2 (by rw [← HNU.out]; exact hown) (((Fr.refl _ _).alloc _).trans hf (fun _ _ h => h)) (fun q hq => by
          rcases hn q hq with h1 | h1
          · exact .inl h1
          · have h2 : w6.heap.size + 1 ≤ q := by simpa using h1
            exact .inr (by omega))
        have HG2 := Lib.hid hg2
        have HLV := Lib.hid (show (vs ++ [Value.slice va vL vc]).length ≤ 90 by rw [List.length_append, ← HNV.out]; simp; omega)
        clear hg2 hown hf hn
        go_wp2_with fail
        go_roundg (ss.length - (J + 1))
        case measure => omega
        case rel => exact ⟨m1, m2, J + 1, dv2, lv2, _, _, _, _, _, rfl, rfl, by omega, rfl, by go_num, HLV.out, HG2.out⟩
      · have HXB := Lib.hid hxb
        obtain ⟨F, hF⟩ : ∃ F, F = typF x xs := ⟨_, rfl⟩
        have HFF := Lib.hid hF
        have hcJ := hcx
        clear hF
        by_cases hx255 : x = 255
        case' pos =>
          have hge : ¬ k + 1 < ss.length := fun h => hT ⟨hx255, h⟩
          have tb : (x == 255) = true := by simp [hx255]
        case' neg =>
          have hge : True := trivial
          have tb : (x == 255) = false := by simp [hx255]
        all_goals
          clear hT hx255
          have TKP := Lib.hid (show ∀ (W1 w1 : World) (e : Ending), Fr No wr W1 → TypePost (w.heap.size) xs r x W1 e w1 → ∃ va vL vc, e = .returned (.tuple #[.slice va vL vc, .bool F]) ∧ Own w1 W1.heap.size (.slice va vL vc) (typE x xs r) ∧ ConAt w1 (w.heap.size) (typX x xs r) (typN x xs r) ∧ Fr (· = w.heap.size) W1 w1 ∧ w1.cell? ⟨w2.heap.size, 0, none⟩ = some (.pointer (some ⟨w.heap.size, 0, none⟩)) ∧ w1.cell? ⟨w2.heap.size, 1, none⟩ = some (.pointer (some ⟨w1q, 0, none⟩)) ∧ w1.cell? ⟨b1, o1 + k, none⟩ = some (.int .u8 x) from by
            intro W1 w1 e hf hp
            unfold TypePost at hp
            rw [← HFF.out] at hp
            obtain ⟨v1, he, ho1, hc1, hf1⟩ := hp
            obtain ⟨va, vc, rfl⟩ := ho1.shape
            have hb := (HAT.out.1.no hf).2.2.2.1.fr hf1 HAT.out.1.neAP
            exact ⟨va, _, vc, he, ho1, hc1, hf1, hb.cell 0, hb.cell 1, hf1.cell (hf.cell hcJ id) (fun (e : b1 = w.heap.size) => by omega)⟩)
          have HCJ := Lib.hid hcJ
          have p0 : wr.cell? ⟨w2.heap.size, 0, none⟩ = some (.pointer (some ⟨w.heap.size, 0, none⟩)) := HAT.out.1.2.2.2.1.cell 0
          go_wp2_with fail
          go_region_held3 (fun w' => w'.cell? ⟨w2.heap.size, 0, none⟩ = some (.pointer (some ⟨w.heap.size, 0, none⟩)) ∧ w'.cell? ⟨b1, o1 + k, none⟩ = some (.int .u8 x))
            (first
              | go_keep
              | exact ⟨p0, n1⟩)
            (first
              | (go_at_call 23; refine (type_calls (w.heap.size) xs r x _ (HAT.out.1.no (Fr.refl No _).drew).2.2.2.2.1 ((HK.out.no (Fr.of_below HAT.out.2.2.2.2.2.2.2.2)).no (Fr.refl No _).drew) hxb.1 hxb.2).mono ?_; intro e w4 hp; obtain ⟨va, vL, vc, rfl, ho1, hc1, hf1, p0, p1, n1⟩ := TKP.out _ _ _ (Fr.refl No _).drew hp; have HO1 := Lib.hid ho1; have HC1 := Lib.hid hc1; have HF1 := Lib.hid hf1; clear hp ho1 hc1 hf1))
          rename_i hHeld
          clear hHeld
          obtain ⟨W1, hW1⟩ : ∃ W1 : World, W1 = wr.drew := ⟨_, rfl⟩
          have hFW1 : Fr No wr W1 := by rw [hW1]; exact (Fr.refl No wr).drew
          rw [← hW1] at HO1 HF1
          have HAT1 := Lib.hid (HAT.out.no hFW1)
          clear hW1 hFW1 p0
          have hr1 := HAT1.out.1.2.2.2.2.2.1.fr HF1.out (fun k hk e => by
            rcases hk with hk | hk | hk
            · exact HAT1.out.1.nePQ (e.symm.trans hk)
            · exact row_ne_con HAT1.out.1.2.2.2.2.2.1.2.2.1 HAT1.out.1.2.2.2.2.1 (by decide) k hk e
            · exact row_ne_con HAT1.out.1.2.2.2.2.2.1.2.2.2.1 HAT1.out.1.2.2.2.2.1 (by decide) k hk e)
          have HR := Lib.hid hr1
          clear hr1
          have RTP := Lib.hid (show ∀ (W2 w5 : World) (e : Ending), Fr No w4 W2 → RefTypePost (w.heap.size) w1q dv lv (xs.take r) (xs.drop r) x W2 e w5 → ∃ ua uL uc dv' lv' l, e = .returned (.tuple #[.slice ua uL uc, .bool F]) ∧ FreshAt w w5 w2.heap.size w.heap.size w1q dv' lv' (typX x xs r) (typN x xs r) (vs ++ [.slice va vL vc]) (us ++ [.slice ua uL uc]) (ls ++ [l]) (.slice l1a N l1c) vs (.slice l2a N l2c) us ∧ w5.cell? ⟨w2.heap.size, 1, none⟩ = some (.pointer (some ⟨w1q, 0, none⟩)) ∧ w5.cell? ⟨b1, o1 + k, none⟩ = some (.int .u8 x) from by
            intro W2 w5 e hf hp
            unfold RefTypePost at hp
            obtain ⟨v2, dv', lv', he, ho2, hr2, hbl2, hsep, hf2⟩ := hp
            obtain ⟨ua, uc, rfl⟩ := ho2.shape
            obtain ⟨l, hnew⟩ := HAT1.out.type HXB.out (HO1.out.no hf) (HC1.out.no hf) (HF1.out.trans hf (fun _ _ h => h.elim)) ho2 hr2 hbl2 hsep hf2
            have hQ := HAT1.out.1.2.2.1
            have hlvb := HAT1.out.1.2.2.2.2.2.1.2.2.2.1.lt
            refine ⟨ua, _, uc, dv', lv', l, ?_, hnew, hnew.1.2.2.2.1.cell 1, hf2.cell (hf.cell n1 id) (fun e => by
              rcases e with e | e
              · have e : b1 = w1q := e
                omega
              · have := (hlvb _ e).1
                have : w.heap.size ≤ b1 := this
                omega)⟩
            rw [he, HFF.out, List.take_append_drop])
          go_wp2_with fail
          go_region_held3 (fun w' => w'.cell? ⟨w2.heap.size, 1, none⟩ = some (.pointer (some ⟨w1q, 0, none⟩)) ∧ w'.cell? ⟨b1, o1 + k, none⟩ = some (.int .u8 x))
            (first
              | go_keep
              | exact ⟨p2, n2⟩)
            (first
              | (go_at_call 27; refine (reftype_calls (w.heap.size) w1q dv lv (xs.take r) (xs.drop r) x _ (HR.out.no (Fr.refl No _).drew) (by have := HAT1.out.1.2.2.2.2.1.2.1; rw [List.length_take, List.length_drop]; omega)).mono ?_; intro e w5 hp; obtain ⟨ua, uL, uc, dv2, lv2, l, rfl, hnew, p2, n2⟩ := RTP.out _ _ _ (Fr.refl No _).drew hp; have HNEW := Lib.hid hnew; clear hp hnew))
          rename_i hHeld
          clear hHeld p1 p2 n1 n2
          have hFF : (F != F) = false := by simp
          have hr1 := HNEW.out.2.2.2.2.1
          unfold LRow at hr1
          rw [← HNV.out] at hr1
          have HR1 := Lib.hid hr1
          have hsz5 := HNEW.out.2.2.2.2.2.2.2.2.size
          clear hr1
          go_wp2_with (at_builtin; refine wpList_append_one rfl _ _ 45 rfl w.heap.size 22 i34 (.slice none 0 0) 24 Tryd.underlying45 hi34 hy0 hy1 hy2 rfl (.slice l1a N l1c) N vs rfl (HR1.out.alloc _) _ _ (.slice va vL vc) rfl ?cell rfl ?h63 ?hby ?hba ?_)
          case cell => exact (Blk.new _ [Value.slice va vL vc] 22).cell 0
          case h63 => unfold maxLen; omega
          case hby => omega
          case hba => simp; omega
          intro m1 w6 hown hf hn
          have hg1 := HNEW.out.grow1 (by rw [← HNV.out]; exact hown) (((Fr.refl _ _).alloc _).trans hf (fun _ _ h => h)) (fun q hq => by
            rcases hn q hq with h1 | h1
            · exact .inl h1
            · have h2 : w5.heap.size + 1 ≤ q := by simpa using h1
              exact .inr (by omega))
          have HG1 := Lib.hid hg1
          clear hg1 hown hf hn
          have hr2 := HG1.out.2.2.2.2.2.1
          unfold LRow at hr2
          rw [← HNU.out] at hr2
          have HR2 := Lib.hid hr2
          have hsz6 := HG1.out.2.2.2.2.2.2.2.2.size
          clear hr2
          go_wp2_with (at_builtin; refine wpList_append_one rfl _ _ 45 rfl w.heap.size 22 i34 (.slice none 0 0) 24 Tryd.underlying45 hi34 hy0 hy1 hy2 rfl (.slice l2a N l2c) N us rfl (HR2.out.alloc _) _ _ (.slice ua uL uc) rfl ?cell2 rfl ?h632 ?hby2 ?hba2 ?_)
          case cell2 => exact (Blk.new _ [Value.slice ua uL uc] 22).cell 0
          case h632 => unfold maxLen; omega
          case hby2 => omega
          case hba2 => simp; omega
          intro m2 w7 hown hf hn
          have hg2 := HG1.out.grow2 (by rw [← HNU.out]; exact hown) (((Fr.refl _ _).alloc _).trans hf (fun _ _ h => h)) (fun q hq => by
            rcases hn q hq with h1 | h1
            · exact .inl h1
            · have h2 : w6.heap.size + 1 ≤ q := by simpa using h1
              exact .inr (by omega))
          have HG2 := Lib.hid hg2
          have HLV := Lib.hid (show (vs ++ [Value.slice va vL vc]).length ≤ 90 by rw [List.length_append, ← HNV.out]; simp; omega)
          clear hg2 hown hf hn
          go_wp2_with fail
          go_roundg (ss.length - (k + 1))
          case measure => omega
          case rel => exact ⟨m1, m2, k + 1, dv2, lv2, _, _, _, _, _, rfl, rfl, by omega, rfl, by go_num, HLV.out, HG2.out⟩
    · by_cases hA : k < ss.length
      case' pos => have hB : ¬ N < 90 := fun h => hboth ⟨hA, h⟩
      case' neg => have hB : True := trivial
      all_goals
        clear hboth
        have p0 : wr.cell? ⟨w2.heap.size, 0, none⟩ = some (.pointer (some ⟨w.heap.size, 0, none⟩)) := HAT.out.1.2.2.2.1.cell 0
        go_wp2_with fail
        refine (state_calls (w.heap.size) xs r wr HAT.out.1.2.2.2.2.1).mono ?_
        intro e w4 hp
        unfold StatePost at hp
        obtain ⟨s1, s2, rfl, hs1, hs2, hs12, hb4⟩ := hp
        have h128 := HAT.out.1.2.2.2.2.1.2.1
        obtain ⟨T1, hT1⟩ : ∃ T, T = xs.take r := ⟨_, rfl⟩
        obtain ⟨T2, hT2⟩ : ∃ T, T = xs.drop r := ⟨_, rfl⟩
        have hT1l : T1.length ≤ 128 := by rw [hT1, List.length_take]; omega
        have hT2l : T2.length ≤ 128 := by rw [hT2, List.length_drop]; omega
        rw [← hT1] at hs1
        rw [← hT2] at hs2
        have HT12 := Lib.hid (And.intro hT1 hT2)
        clear hT1 hT2
        obtain ⟨s1a, s1c, rfl⟩ := hs1.shape
        obtain ⟨s2a, s2c, rfl⟩ := hs2.shape
        have HS1 := Lib.hid hs1
        have HS2 := Lib.hid hs2
        have HS12 := Lib.hid hs12
        have HB4 := Lib.hid hb4
        have hsz4 := hb4.size
        clear hs1 hs2 hs12 hb4 p0
        go_wp2_with fail
        generalize hW5 : w4.alloc _ = W5
        have F5 : Fr No w4 W5 := by rw [← hW5]; exact (Fr.refl No w4).alloc _
        have hBX : Blk W5 w4.heap.size [.slice s1a T1.length s1c, .slice s2a T2.length s2c] 24 := by rw [← hW5]; exact Blk.new w4 _ _
        clear hW5
        have HF5 := Lib.hid F5
        have HBX := Lib.hid hBX
        have HAT5 := Lib.hid (HAT.out.no ((Fr.of_below HB4.out).trans F5 (fun _ _ h => h)))
        have x0 : W5.cell? ⟨w4.heap.size, 0, none⟩ = some (.slice s1a T1.length s1c) := hBX.cell 0
        have x1 : W5.cell? ⟨w4.heap.size, 1, none⟩ = some (.slice s2a T2.length s2c) := hBX.cell 1
        have p1 : W5.cell? ⟨w2.heap.size, 1, none⟩ = some (.pointer (some ⟨w1q, 0, none⟩)) := HAT5.out.1.2.2.2.1.cell 1
        have B1 := Lib.hid ((HS1.out.no F5).bsl (by omega))
        have B2 := Lib.hid ((HS2.out.no F5).bsl (by omega))
        clear F5 hBX
        have KX := Lib.hid (show ∀ W', Fr No W5 W' → W'.cell? ⟨w4.heap.size, 0, none⟩ = some (.slice s1a T1.length s1c) ∧ W'.cell? ⟨w4.heap.size, 1, none⟩ = some (.slice s2a T2.length s2c) ∧ W'.cell? ⟨w2.heap.size, 1, none⟩ = some (.pointer (some ⟨w1q, 0, none⟩)) from fun W' hf => ⟨(HBX.out.fr hf id).cell 0, (HBX.out.fr hf id).cell 1, (HAT5.out.1.no hf).2.2.2.1.cell 1⟩)
        go_region_held3 (fun w' => w'.cell? ⟨w4.heap.size, 0, none⟩ = some (.slice s1a T1.length s1c) ∧ w'.cell? ⟨w4.heap.size, 1, none⟩ = some (.slice s2a T2.length s2c) ∧ w'.cell? ⟨w2.heap.size, 1, none⟩ = some (.pointer (some ⟨w1q, 0, none⟩)))
          (first
            | go_keep
            | exact k7
            | exact k6)
          (first
            | (go_at_call 18; refine (states_calls T1 T2 _ _ _ _ _ (B1.out.no HF6.out) (B2.out.no HF6.out) U1.out U2.out).mono ?_; rintro e w7 ⟨rfl, hf7⟩; have HF7 := Lib.hid (HF6.out.trans hf7 (fun _ _ h => h)); have k7 := KX.out _ HF7.out; clear hf7)
            | (go_at_call 19; refine (pairstate2 _ _ _ _ _ _ xs r _ (HAT5.out.1.no (Fr.refl No _).drew)).mono ?_; intro e w6 hp; unfold StatePost at hp; rw [← HT12.out.1, ← HT12.out.2] at hp; obtain ⟨u1, u2, rfl, hu1, hu2, _, hb6⟩ := hp; obtain ⟨u1a, u1c, rfl⟩ := hu1.shape; obtain ⟨u2a, u2c, rfl⟩ := hu2.shape; have HF6 := Lib.hid ((Fr.refl No W5).drew.trans (Fr.of_below hb6) (fun _ _ h => h)); have U1 := Lib.hid (hu1.bsl (by omega)); have U2 := Lib.hid (hu2.bsl (by omega)); have k6 := KX.out _ HF6.out; clear hb6 hu1 hu2))
        rename_i hHeld
        clear hHeld k6 x0 x1 p1 k7
        go_wp2_with fail
        go_loopg [17] N (fun g i wx => ∃ j : Nat, j ≤ N ∧ g = N - j ∧ i = .int .i64 j ∧ Fr No w7 wx)
        case atStart => exact ⟨0, Nat.zero_le _, rfl, rfl, Fr.refl _ _⟩
        case round =>
          obtain ⟨j, hj, rfl, rfl, hfz⟩ := hrel
          have HFZ := Lib.hid (HF7.out.trans hfz (fun _ _ h => h))
          have HF7Z := Lib.hid hfz
          clear hfz
          have HATZ := Lib.hid (HAT5.out.no HFZ.out)
          by_cases hjN : j < N
          · have hjv : j < vs.length := by have := HNV.out; omega
            have hju : j < us.length := by have := HNU.out; omega
            obtain ⟨lj, hlj, hrv⟩ := HATZ.out.2.1.get j hjv
            obtain ⟨lj', hlj', hru⟩ := HATZ.out.2.2.1.get j hju
            obtain rfl : lj = lj' := Option.some.inj (hlj.symm.trans hlj')
            have hljl : lj.length ≤ 400 := HATZ.out.2.2.2.2.2.2.2.1 lj (List.mem_of_getElem? hlj)
            have hR1 := HATZ.out.2.2.2.2.1
            have hR2 := HATZ.out.2.2.2.2.2.1
            unfold LRow at hR1 hR2
            rw [← HNV.out] at hR1
            rw [← HNU.out] at hR2
            obtain ⟨g1, rfl, _, _, hc1, _⟩ := row_at hR1 j vs[j] (List.getElem?_eq_getElem hjv)
            obtain ⟨g2, rfl, _, _, hc2, _⟩ := row_at hR2 j us[j] (List.getElem?_eq_getElem hju)
            obtain ⟨va, vc, hva, _⟩ := row_shape hrv
            obtain ⟨ua, uc, hua, _⟩ := row_shape hru
            rw [hva] at hc1 hrv
            rw [hua] at hc2 hru
            have V1 := Lib.hid (BSl.of_own hrv (by omega))
            have V2 := Lib.hid (BSl.of_own hru (by omega))
            clear hva hua hrv hru hR1 hR2 hlj hlj'
            go_wp2_with fail
            go_region_held3 (fun w' => w'.cell? ⟨g1, j, none⟩ = some (.slice va lj.length vc) ∧ w'.cell? ⟨g2, j, none⟩ = some (.slice ua lj.length uc))
              (first
                | go_keep)
              (first
                | (go_at_call 20; refine (bytes_calls lj lj _ _ _ (V1.out.no (Fr.refl No _).drew) (V2.out.no (Fr.refl No _).drew)).mono ?_; rw [decide_eq_true rfl]; rintro e w8 ⟨rfl, n8, rfl⟩))
            rename_i hHeld
            clear hHeld hc1 hc2
            go_wp2_with fail
            go_roundg (N - (j + 1))
            case measure => omega
            case rel => exact ⟨j + 1, by omega, rfl, by go_num, HF7Z.out.drewN _⟩
          · obtain ⟨x0, x1, _⟩ := KX.out _ HFZ.out
            have hR1 := HATZ.out.2.2.2.2.1
            unfold LRow at hR1
            rw [← HNV.out] at hR1
            have HR1 := Lib.hid hR1
            have hszZ := HATZ.out.2.2.2.2.2.2.2.2.size
            clear hR1
            go_wp2_with (at_builtin; refine wpList_append_own _ rfl _ _ 45 rfl w.heap.size 22 i34 (.slice none 0 0) 1 24 Tryd.underlying45 hi34 hy0 hy1 hy2 rfl (by decide) _ _ _ rfl (HR1.out.alloc _) _ 2 2 [.slice s1a T1.length s1c, .slice s2a T2.length s2c] rfl rfl (two_new _ _ _ _) (two_sl _ _ _ _ _ _) ?c3 ?c4 ?c5 ?_)
            case c3 => unfold maxLen; omega
            case c4 => omega
            case c5 => simp; omega
            intro m1 w9 hown hgrow hn'
            have hfg : Fr (fun k => (Value.slice l1a N l1c).ownBlock = some k) w4 w9 := ((((HF5.out.trans HFZ.out (fun _ _ h => h)).alloc _).mono (fun _ h => h.elim)).grown hgrow (fun k hk _ => hk))
            have hA9 := (HAT.out.no (Fr.of_below HB4.out))
            have hoff := lrow_off hA9.2.2.2.2.1 hA9.1
            have hb9 := hA9.1.2.2.2.1.fr hfg (fun hh => hoff _ hh (.inl rfl))
            have p0 : w9.cell? ⟨w2.heap.size, 0, none⟩ = some (.pointer (some ⟨w.heap.size, 0, none⟩)) := hb9.cell 0
            have p1 : w9.cell? ⟨w2.heap.size, 1, none⟩ = some (.pointer (some ⟨w1q, 0, none⟩)) := hb9.cell 1
            have HFREE := Lib.hid (fresh_free HAT.out HS1.out HS2.out HS12.out HB4.out hfg.drew (by rw [← HNV.out]; exact hown.drew) (by omega) (by omega) (by have := HNV.out; omega))
            clear hown hgrow hn' hfg x0 x1 hA9 hoff hb9
            go_wp2_with fail
            go_region_held3 (fun w' => w'.cell? ⟨w2.heap.size, 0, none⟩ = some (.pointer (some ⟨w.heap.size, 0, none⟩)) ∧ w'.cell? ⟨w2.heap.size, 1, none⟩ = some (.pointer (some ⟨w1q, 0, none⟩)))
              (first
                | go_keep
                | exact k13
                | exact k12
                | exact k11
                | exact k10)
              (first
                | (go_at_call 18; refine (states_calls T1 T2 _ _ _ _ _ (Y1.out.no HF12.out) (Y2.out.no HF12.out) Z1.out Z2.out).mono ?_; rintro e w13 ⟨rfl, hf13⟩; have HB13 := Lib.hid (Fr.below_of HB12.out hf13 HB12.out.size (fun _ h => h.elim)); have hb := (HP12.out.no hf13).2.2.2.1; have k13 : w13.cell? ⟨w2.heap.size, 0, none⟩ = some (.pointer (some ⟨w.heap.size, 0, none⟩)) ∧ w13.cell? ⟨w2.heap.size, 1, none⟩ = some (.pointer (some ⟨w1q, 0, none⟩)) := ⟨hb.cell 0, hb.cell 1⟩; clear hf13 hb)
                | (go_at_call 19; refine (pairstate2 _ _ _ _ _ _ xs r _ HP11.out).mono ?_; intro e w12 hp; unfold StatePost at hp; rw [← HT12.out.1, ← HT12.out.2] at hp; obtain ⟨z1, z2, rfl, hz1, hz2, _, hb12⟩ := hp; obtain ⟨z1a, z1c, rfl⟩ := hz1.shape; obtain ⟨z2a, z2c, rfl⟩ := hz2.shape; have HF12 := Lib.hid (Fr.of_below hb12); have HP12 := Lib.hid (HP11.out.no HF12.out); have HB12 := Lib.hid (HB11.out.trans (hb12.mono HB11.out.size)); have Z1 := Lib.hid (hz1.bsl (by omega)); have Z2 := Lib.hid (hz2.bsl (by omega)); have hb := HP12.out.2.2.2.1; have k12 : w12.cell? ⟨w2.heap.size, 0, none⟩ = some (.pointer (some ⟨w.heap.size, 0, none⟩)) ∧ w12.cell? ⟨w2.heap.size, 1, none⟩ = some (.pointer (some ⟨w1q, 0, none⟩)) := ⟨hb.cell 0, hb.cell 1⟩; clear hb12 hz1 hz2 hb)
                | (go_at_call 16; refine (state_calls (w.heap.size) xs r _ HP10.out.2.2.2.2.1).mono ?_; intro e w11 hp; unfold StatePost at hp; rw [← HT12.out.1, ← HT12.out.2] at hp; obtain ⟨y1, y2, rfl, hy1', hy2', _, hb11⟩ := hp; obtain ⟨y1a, y1c, rfl⟩ := hy1'.shape; obtain ⟨y2a, y2c, rfl⟩ := hy2'.shape; have HP11 := Lib.hid (HP10.out.no (Fr.of_below hb11)); have HB11 := Lib.hid (HB10.out.trans (hb11.mono HB10.out.size)); have Y1 := Lib.hid (hy1'.bsl (by omega)); have Y2 := Lib.hid (hy2'.bsl (by omega)); have hb := HP11.out.2.2.2.1; have k11 : w11.cell? ⟨w2.heap.size, 0, none⟩ = some (.pointer (some ⟨w.heap.size, 0, none⟩)) ∧ w11.cell? ⟨w2.heap.size, 1, none⟩ = some (.pointer (some ⟨w1q, 0, none⟩)) := ⟨hb.cell 0, hb.cell 1⟩; clear hb11 hy1' hy2' hb)
                | (go_at_call 21; refine HFREE.out.mono ?_; rintro e w10 ⟨rfl, hp10, hb10⟩; have HP10 := Lib.hid hp10; have HB10 := Lib.hid hb10; have hb := hp10.2.2.2.1; have k10 : w10.cell? ⟨w2.heap.size, 0, none⟩ = some (.pointer (some ⟨w.heap.size, 0, none⟩)) ∧ w10.cell? ⟨w2.heap.size, 1, none⟩ = some (.pointer (some ⟨w1q, 0, none⟩)) := ⟨hb.cell 0, hb.cell 1⟩; clear hp10 hb10 hb))
            rename_i hHeld
            clear hHeld
            go_wp2_with fail
            go_ret
            exact ⟨rfl, HB13.out⟩

end Go.Proofs.YtollgpnaadgncaaDoor
