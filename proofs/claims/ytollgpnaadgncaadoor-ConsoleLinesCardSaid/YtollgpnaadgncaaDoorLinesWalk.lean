/- ConsoleLines: the walk. No condition. -/
import Derived.Test.YtollgpnaadgncaaDoorLinesA
import Derived.Test.YtollgpnaadgncaaDoorConJ
import Derived.Deep.RegionHeld3
namespace Go.Proofs.YtollgpnaadgncaaDoor
open Go.RowKit

set_option maxRecDepth 100000 in
set_option maxHeartbeats 12800000 in
theorem lines_walk (ss : List Int) (v : Value) (w : World) (h : BSl w v ss) (g : InB ss) (hk : KeysAt w) :
    Calls Tryd.prog 6 #[v] w fun e w' => e = .returned (.bool true) ∧ Below w.heap.size w w' := by
  have hlow := h.lowb
  obtain ⟨sa, sc, rfl⟩ := h.shape
  have hsl := h.len
  have HX := Lib.hid h; clear h
  have HG := Lib.hid g; clear g
  have HK := Lib.hid hk; clear hk
  have HLOW := Lib.hid hlow; clear hlow
  go_enter Tryd.func6, Tryd.ntmps6
  go_wp2_with fail
  refine (new_calls w).mono ?_
  rintro e w1 ⟨rfl, hc1, hb1⟩
  have HC1 := Lib.hid hc1
  have HB1 := Lib.hid hb1
  clear hc1 hb1
  go_wp2_with fail
  generalize hW : w1.alloc _ = W
  have hFW : Fr No w1 W := by rw [← hW]; exact (Fr.refl No w1).alloc _
  have hBB : Blk W w1.heap.size [.slice none 0 0, .int .i64 ((0 : Nat) : Int), .slice none 0 0] 56 := by rw [← hW]; exact Blk.new w1 [.slice none 0 0, .int .i64 ((0 : Nat) : Int), .slice none 0 0] _
  clear hW
  obtain ⟨B, hB⟩ : ∃ B, B = w1.heap.size := ⟨_, rfl⟩
  have HE := Lib.hid (show LinesAt w W w.heap.size B (.slice none 0 0) (.slice none 0 0) [] 0 [] 0 from by
    have hs := HB1.out.size
    have hsW := hFW.size
    rw [← hB] at hBB
    exact ⟨HC1.out.no hFW, ⟨by omega, by omega, hBB, World.ownsRow_nil _ _ _ _, World.ownsRow_nil _ _ _ _, fun k hk => by simp [Value.ownBlock] at hk⟩, Nat.le_refl _, Nat.le_refl _, Nat.le_refl _, HB1.out.trans (hFW.below.mono hs)⟩)
  rw [← hB]
  have hBw : w.heap.size ≤ B := by rw [hB]; exact HB1.out.size
  clear hBB hFW hB
  go_loopg [5] ss.length (fun g i wx => ∃ (k : Nat) (dv lv : Value) (D : List Int) (G : Nat) (L : List Int), k ≤ ss.length ∧ g = ss.length - k ∧ i = .int .i64 k ∧ (k ≤ 2401 ∧ LinesAt w wx w.heap.size B dv lv D G L k))
  case atStart => exact ⟨0, _, _, [], 0, [], Nat.zero_le _, rfl, rfl, by omega, HE.out⟩
  case round =>
    obtain ⟨k, dv, lv, D, G, L, hk, rfl, rfl, hk24, hat⟩ := hrel
    have hGD := hat.2.2.1
    have hDk : D.length + L.length ≤ k := hat.2.2.2.1
    have HAT := Lib.hid hat
    clear hat
    by_cases hboth : k < ss.length ∧ k < 2400
    · obtain ⟨hlt, h24⟩ := hboth
      obtain ⟨b1, o1, rfl, hc⟩ := bsl_cell HX.out k hlt
      have hbw : b1 < w.heap.size := HLOW.out (List.ne_nil_of_length_pos (by omega)) b1 rfl
      have hcx := (HAT.out.2.2.2.2.2.cell (p := ⟨b1, o1 + k, none⟩) hbw).trans hc
      obtain ⟨x, hx⟩ : ∃ x, x = ss[k] := ⟨_, rfl⟩
      have hxb : 0 ≤ x ∧ x ≤ 255 := by rw [hx]; exact HG.out _ (List.getElem_mem _)
      rw [← hx] at hcx hc
      clear hx
      by_cases hT : x = 255 ∧ k + 1 < ss.length
      case' pos =>
        obtain ⟨rfl, hk1⟩ := hT
        obtain ⟨KK, hKK⟩ : ∃ KK, KK = k + 1 := ⟨_, rfl⟩
        have hJi : (k : Int) + 1 = (KK : Int) := by omega
        rw [← hKK] at hk1
        obtain ⟨b2, o2, he, hcj⟩ := bsl_cell HX.out KK hk1
        cases he
        have hcJ := (HAT.out.2.2.2.2.2.cell (p := ⟨b1, o1 + KK, none⟩) hbw).trans hcj
        obtain ⟨y, hy⟩ : ∃ y, y = ss[KK] := ⟨_, rfl⟩
        have hyb : 0 ≤ y ∧ y ≤ 255 := by rw [hy]; exact HG.out _ (List.getElem_mem _)
        rw [← hy] at hcJ hcj
        have hKb : KK ≤ 2400 := by omega
        have hDK : D.length + L.length ≤ KK + 1 := by omega
        have hKk : k ≤ KK := by omega
        obtain ⟨F, hF⟩ : ∃ F, F = decide (0 < (D.drop G).length) := ⟨_, rfl⟩
        have HFF := Lib.hid hF
        clear hF hy hKK hxb hc hcj
        go_wp2_with fail
        refine (peek_calls (w.heap.size) (D.drop G ++ L) (D.drop G).length (1 + y) wr HAT.out.1 (by omega) (by omega)).mono ?_
        intro e w4 hp
        unfold PeekPost at hp
        rw [← HFF.out] at hp
        obtain ⟨pv, rfl, hpo, hpf⟩ := hp
        have HPO := Lib.hid hpo
        have HPF := Lib.hid hpf
        have HA4 := Lib.hid (HAT.out.no hpf)
        clear hpo hpf
        go_wp2_with fail
        refine (take_calls (w.heap.size) (D.drop G ++ L) (D.drop G).length (1 + y) w4 HA4.out.1 (by omega) (by omega)).mono ?_
        intro e w5 hp
        unfold TakePost at hp
        rw [← HFF.out] at hp
        obtain ⟨tv, rfl, hto, htc, htf⟩ := hp
        have h128 := HAT.out.1.2.1
        have htl : (takeL (1 + y) (D.drop G ++ L) (D.drop G).length).length ≤ 128 := by
          unfold takeL
          split
          · simp
          · rw [List.length_take]; omega
        have HTO := Lib.hid hto
        have HTC := Lib.hid htc
        have HTF := Lib.hid htf
        have P1 := Lib.hid ((HPO.out.fr htf (fun q hq e => by
          have h1 := (HPO.out.lt q hq).1
          have h2 := HAT.out.1.lt
          omega)).bsl (by omega))
        have P2 := Lib.hid (hto.bsl (by omega))
        have HTL := Lib.hid htl
        have hFF : (F != F) = false := by simp
        clear hto htc htf htl h128
        go_wp2_with fail
        refine (bytes_calls _ _ _ _ w5 P1.out P2.out).mono ?_
        rw [decide_eq_true rfl]
        rintro e w6 ⟨rfl, n6, rfl⟩
        have hbk5 := HA4.out.2.1.fr HTF.out (fun q hq => HA4.out.off q hq)
        have hgv := bkgiven_calls w.heap.size B dv lv tv D G L (1 + y) (w5.drewN n6) (hbk5.no ((Fr.refl No w5).drewN n6)) hGD (by omega) (by omega) (by omega) ((HTO.out.fr ((Fr.refl No w5).drewN n6) (fun _ _ => id)).bsl (Nat.le_trans HTL.out (by omega))) (fun q hq e => by
          have h1 := (HTO.out.lt q hq).1
          have h2 := HA4.out.2.1.2.2.1.lt
          omega)
        rw [← HFF.out] at hgv
        have HGV := Lib.hid hgv
        clear hgv hbk5
        go_wp2_with fail
        refine HGV.out.mono ?_
        intro e w8 hp
        unfold GivenPost at hp
        obtain ⟨rfl, hb8, hf8⟩ := hp
        obtain ⟨U, hU⟩ : ∃ U, U = takeU (1 + y) (D.drop G ++ L) (D.drop G).length := ⟨_, rfl⟩
        have hUr : U ≤ (D.drop G).length := by rw [hU]; exact takeU_le _ (by rw [List.length_append]; omega)
        rw [← hU] at hb8
        have htc8 := HTC.out
        rw [← hU] at htc8
        obtain ⟨G2, hG2⟩ : ∃ G2, G2 = G + U := ⟨_, rfl⟩
        have hla := (HA4.out.given hUr htc8 HTF.out ((Fr.refl No w5).drewN n6) hb8 hf8).up (show k ≤ KK + 1 by omega)
        rw [← hG2] at hla
        have HLA := Lib.hid hla
        obtain ⟨D2, hD2⟩ : ∃ D2, D2 = D := ⟨_, rfl⟩
        obtain ⟨L2, hL2⟩ : ∃ L2, L2 = L := ⟨_, rfl⟩
        obtain ⟨dv2, hdv2⟩ : ∃ z, z = dv := ⟨_, rfl⟩
        obtain ⟨lv2, hlv2⟩ : ∃ z, z = lv := ⟨_, rfl⟩
        rw [← hD2, ← hL2, ← hdv2, ← hlv2] at HLA
        have hKs : KK < ss.length := hk1
        clear hla htc8 hb8 hf8 hU hG2 hUr hFF hJi hcJ hcx hD2 hL2 hdv2 hlv2
        go_upto_region 17 with fail
      case' neg =>
        obtain ⟨KK, rfl⟩ : ∃ KK, KK = k := ⟨k, rfl⟩
        have hge : x = 255 → ¬ KK + 1 < ss.length := fun h h2 => hT ⟨h, h2⟩
        have HTY := Lib.hid (type_calls (w.heap.size) (D.drop G ++ L) (D.drop G).length x wr HAT.out.1 (HK.out.no (Fr.of_below HAT.out.2.2.2.2.2)) hxb.1 hxb.2)
        clear hT hc
        by_cases hx255 : x = 255
        case' pos =>
          have hge2 : ¬ KK + 1 < ss.length := hge hx255
          have tb : (x == 255) = true := by simp [hx255]
        case' neg =>
          have hge2 : True := trivial
          have tb : (x == 255) = false := by simp [hx255]
        all_goals
          clear hge hx255
          go_wp2_with fail
          refine HTY.out.mono ?_
          intro e w4 hp
          unfold TypePost at hp
          obtain ⟨ev, rfl, _, htc, htf⟩ := hp
          have h128 := HAT.out.1.2.1
          rw [List.length_append] at h128
          have hbk4 := HAT.out.2.1.fr htf (fun q hq => HAT.out.off q hq)
          have HTC := Lib.hid htc
          have HTF := Lib.hid htf
          have HBT := Lib.hid (typed_calls w.heap.size B dv lv D G L x w4 hbk4 hGD (by omega) h128)
          have hcx := htf.cell hcx (fun (e : b1 = w.heap.size) => by omega)
          clear htc htf h128 hbk4
          go_wp2_with fail
          refine HBT.out.mono ?_
          intro e w8 hp
          unfold TypedPost at hp
          obtain ⟨dv2, lv2, rfl, hb8, hf8⟩ := hp
          have hla := (HAT.out.typed HTC.out HTF.out hb8 hf8)
          obtain ⟨D2, hD2⟩ : ∃ D2, D2 = bkD x D G L := ⟨_, rfl⟩
          obtain ⟨L2, hL2⟩ : ∃ L2, L2 = bkL x D G L := ⟨_, rfl⟩
          obtain ⟨G2, hG2⟩ : ∃ G2, G2 = G := ⟨_, rfl⟩
          rw [← hD2, ← hL2] at hla
          have HLA := Lib.hid hla
          rw [← hG2] at HLA
          have hKb : KK ≤ 2400 := by omega
          have hKs : KK < ss.length := by omega
          clear hla hb8 hf8 hD2 hL2 hG2 hcx tb hge2
          have hKk : KK ≤ KK := Nat.le_refl _
          go_upto_region 17 with fail
      all_goals
        have h128 := HLA.out.1.2.1
        rw [List.length_append] at h128
        have hGD2 := HLA.out.2.2.1
        have hm2 := HLA.out.2.2.2.1
        go_wp2_with fail
        refine (state_calls (w.heap.size) (D2.drop G2 ++ L2) (D2.drop G2).length w8 HLA.out.1).mono ?_
        intro e w9 hp
        unfold StatePost at hp
        rw [List.take_left, List.drop_left] at hp
        obtain ⟨T1, hT1⟩ : ∃ T, T = D2.drop G2 := ⟨_, rfl⟩
        have hTl : T1.length = D2.length - G2 := by rw [hT1]; exact List.length_drop
        rw [← hT1] at hp h128
        have hTa : T1.length ≤ D2.length - G2 := by omega
        have hTb : D2.length - G2 ≤ T1.length := by omega
        have HTLE := Lib.hid hTl
        clear hTl
        obtain ⟨s1, s2, rfl, hs1, hs2, _, hb9⟩ := hp
        obtain ⟨s1a, s1c, rfl⟩ := hs1.shape
        obtain ⟨s2a, s2c, rfl⟩ := hs2.shape
        have HS1 := Lib.hid hs1
        have HS2 := Lib.hid hs2
        have HB9 := Lib.hid hb9
        have HT1 := Lib.hid hT1
        clear hs1 hs2 hb9 hT1
        go_wp2_with fail
        generalize hW10 : w9.alloc _ = W10
        have F10 : Fr No w9 W10 := by rw [← hW10]; exact (Fr.refl No w9).alloc _
        have hBX : Blk W10 w9.heap.size [.slice s1a T1.length s1c, .slice s2a L2.length s2c] 24 := by rw [← hW10]; exact Blk.new w9 _ _
        clear hW10
        have HL10 := Lib.hid (HLA.out.no ((Fr.of_below HB9.out).trans F10 (fun _ _ h => h)))
        have HBX := Lib.hid hBX
        have S1 := Lib.hid ((HS1.out.fr F10 (fun _ _ => id)).bsl (by omega))
        have S2 := Lib.hid ((HS2.out.fr F10 (fun _ _ => id)).bsl (by omega))
        clear hBX F10
        obtain ⟨da, dc, rfl, hdc, _⟩ := row_shape HL10.out.2.1.2.2.2.1
        obtain ⟨la, lc, rfl, hlc, _⟩ := row_shape HL10.out.2.1.2.2.2.2.1
        have KX := Lib.hid (show ∀ W', Fr No W10 W' → W'.cell? ⟨w9.heap.size, 0, none⟩ = some (.slice s1a T1.length s1c) ∧ W'.cell? ⟨w9.heap.size, 1, none⟩ = some (.slice s2a L2.length s2c) ∧ W'.cell? ⟨B, 0, none⟩ = some (.slice da D2.length dc) ∧ W'.cell? ⟨B, 1, none⟩ = some (.int .i64 G2) ∧ W'.cell? ⟨B, 2, none⟩ = some (.slice la L2.length lc) from fun W' hf =>
          ⟨(HBX.out.fr hf id).cell 0, (HBX.out.fr hf id).cell 1, (HL10.out.no hf).2.1.2.2.1.cell 0, (HL10.out.no hf).2.1.2.2.1.cell 1, (HL10.out.no hf).2.1.2.2.1.cell 2⟩)
        have hbsd := BSl.of_own HL10.out.2.1.2.2.2.1 (by omega)
        have hbsl := BSl.of_own HL10.out.2.1.2.2.2.2.1 (by omega)
        have HBL := Lib.hid hbsl
        obtain ⟨F2, hF2⟩ : ∃ F, F = decide (0 < T1.length) := ⟨_, rfl⟩
        have RDY := Lib.hid (show ∀ W', Fr No W10 W' → Calls Tryd.prog 30 #[.pointer (some ⟨w.heap.size, 0, none⟩)] W' (fun e w' => e = .returned (.bool F2) ∧ W' = w') from fun W' hf => by
          have := ready_calls (w.heap.size) _ _ W' (HL10.out.no hf).1
          rwa [← HT1.out, ← hF2] at this)
        have hF3 : decide (G2 < D2.length) = F2 := by rw [hF2, HTLE.out]; congr 1; simp; omega
        have hF4 : decide ((G2 : Int) < (D2.length : Int)) = F2 := by rw [← hF3]; simp
        have hF5 : (F2 != F2) = false := by simp
        have hsum : IntKind.i64.wrap ((T1.length : Int) + L2.length) = (T1.length : Int) + L2.length := IntWalk.i64_in _ (by omega)
        have hlt1 : decide ((128 : Int) < (T1.length : Int) + L2.length) = false := by simp; omega
        have hlt2 : ¬ (128 : Int) < (T1.length : Int) + L2.length := by omega
        have hGb : G2 ≤ 100000 := by omega
        by_cases hz : dc = G2
        case' pos =>
          have HT0 := Lib.hid (show T1 = [] from List.eq_nil_of_length_eq_zero (by omega))
          replace hz := hz.symm
          subst hz
          clear hbsd hbsl hF2
          obtain ⟨x0, x1, c0, c1, c2⟩ := KX.out _ (Fr.refl No W10)
          go_region_held3 (fun w' => w'.cell? ⟨w9.heap.size, 0, none⟩ = some (.slice s1a T1.length s1c) ∧ w'.cell? ⟨w9.heap.size, 1, none⟩ = some (.slice s2a L2.length s2c) ∧ w'.cell? ⟨B, 0, none⟩ = some (.slice da D2.length G2) ∧ w'.cell? ⟨B, 1, none⟩ = some (.int .i64 G2) ∧ w'.cell? ⟨B, 2, none⟩ = some (.slice la L2.length lc))
            (first
              | go_keep)
            (first
              | (go_at_call 30; refine (RDY.out _ (Fr.refl No _).drew).mono ?_; rintro e w' ⟨rfl, rfl⟩)
              | (go_at_call 20; have hh := TKB.out; refine (bytes_calls L2 L2 _ _ _ (S2.out.no (by first | exact (Fr.refl No W10).drewN _ | exact ((Fr.refl No W10).drew).drewN _)) (HBL.out.no (by first | exact (Fr.refl No W10).drewN _ | exact ((Fr.refl No W10).drew).drewN _))).mono ?_; rw [decide_eq_true rfl]; rintro e wB ⟨rfl, n2, rfl⟩)
              | (go_at_call 20; refine (bytes_calls T1 T1 _ _ _ (S1.out.no (Fr.refl No _).drew) (by rw [HT0.out]; exact bsl_nil_of _ _ _ _ (by omega) (by omega))).mono ?_; rw [decide_eq_true rfl]; rintro e wA ⟨rfl, n1, rfl⟩; have TKB := Lib.hid True.intro))
        case' neg =>
          have hrest : BSl W10 (.slice (da.map (fun x => x.add G2)) (D2.length - G2) (dc - G2)) T1 := by
            have := hbsd.from G2 hGD2
            rwa [← HT1.out] at this
          have hz2 : ¬ G2 = dc := fun h => hz h.symm
          have HRE := Lib.hid hrest
          clear hrest hbsd hbsl hF2
          obtain ⟨x0, x1, c0, c1, c2⟩ := KX.out _ (Fr.refl No W10)
          go_region_held3 (fun w' => w'.cell? ⟨w9.heap.size, 0, none⟩ = some (.slice s1a T1.length s1c) ∧ w'.cell? ⟨w9.heap.size, 1, none⟩ = some (.slice s2a L2.length s2c) ∧ w'.cell? ⟨B, 0, none⟩ = some (.slice da D2.length dc) ∧ w'.cell? ⟨B, 1, none⟩ = some (.int .i64 G2) ∧ w'.cell? ⟨B, 2, none⟩ = some (.slice la L2.length lc))
            (first
              | go_keep)
            (first
              | (go_at_call 30; refine (RDY.out _ (Fr.refl No _).drew).mono ?_; rintro e w' ⟨rfl, rfl⟩)
              | (go_at_call 20; have hh := TKB.out; refine (bytes_calls L2 L2 _ _ _ (S2.out.no (by first | exact (Fr.refl No W10).drewN _ | exact ((Fr.refl No W10).drew).drewN _)) (HBL.out.no (by first | exact (Fr.refl No W10).drewN _ | exact ((Fr.refl No W10).drew).drewN _))).mono ?_; rw [decide_eq_true rfl]; rintro e wB ⟨rfl, n2, rfl⟩)
              | (go_at_call 20; refine (bytes_calls T1 T1 _ _ _ (S1.out.no (Fr.refl No _).drew) (HRE.out.no (Fr.refl No _).drew)).mono ?_; rw [decide_eq_true rfl]; rintro e wA ⟨rfl, n1, rfl⟩; have TKB := Lib.hid True.intro))
        all_goals
          rename_i hHeld
          clear hHeld x0 x1 c0 c1 c2 hF3 hF4 hF5 hsum hlt1 hlt2
          have HEND := Lib.hid (fun n => HL10.out.no ((Fr.refl No W10).drewN n))
          go_wp2_with fail
          go_roundg (ss.length - (KK + 1))
          case measure => omega
          case rel => exact ⟨KK + 1, _, _, D2, G2, L2, by omega, rfl, by go_num, by omega, HEND.out _⟩
    · by_cases hA : k < ss.length
      case' pos => have hB2 : ¬ k < 2400 := fun h => hboth ⟨hA, h⟩
      case' neg => have hB2 : True := trivial
      all_goals
        clear hboth
        have FIN := Lib.hid HAT.out.2.2.2.2.2
        go_wp2_with fail
        go_ret
        exact ⟨rfl, FIN.out⟩

end Go.Proofs.YtollgpnaadgncaaDoor
