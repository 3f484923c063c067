/- ConsoleFroms: the walk. No condition. -/
import Derived.Test.YtollgpnaadgncaaDoorPairF
import Derived.Test.YtollgpnaadgncaaDoorMany
namespace Go.Proofs.YtollgpnaadgncaaDoor
open Go.RowKit

set_option maxRecDepth 100000 in
set_option maxHeartbeats 6400000 in
theorem froms_walk (d l : List Int) (v1 v2 : Value) (w : World) (h1 : BSl w v1 d) (h2 : BSl w v2 l) (g1 : InB d) (g2 : InB l) (hk : KeysAt w) :
    Calls Tryd.prog 3 #[.agg #[v1, v2]] w fun e w' => e = .returned (.bool true) ∧ Below w.heap.size w w' := by
  have hdl := h1.len
  have hll := h2.len
  obtain ⟨a1, c1, rfl⟩ := h1.shape
  obtain ⟨a2, c2, rfl⟩ := h2.shape
  have H1 := Lib.hid h1; clear h1
  have H2 := Lib.hid h2; clear h2
  have G1 := Lib.hid g1; clear g1
  have G2 := Lib.hid g2; clear g2
  have HK := Lib.hid hk; clear hk
  go_enter Tryd.func3, Tryd.ntmps3
  go_wp2_with fail
  generalize hW : w.alloc _ = W
  have F0 : Fr No w W := by rw [← hW]; exact (Fr.refl _ _).alloc _
  have hBK : Blk W w.heap.size [.slice a1 d.length c1, .slice a2 l.length c2] 24 := by rw [← hW]; exact Blk.new w _ _
  clear hW
  have HF0 := Lib.hid F0; clear F0
  have HBK := Lib.hid hBK; clear hBK
  refine (lend_calls d _ W (H1.out.no HF0.out)).mono ?_
  rintro e w1 ⟨va, rfl, hla, hb1⟩
  obtain ⟨A1, hA1, rfl, hA1b⟩ := hla
  have HLA := Lib.hid (show Lent w1 W.heap.size (.slice (some ⟨A1, 0, none⟩) d.length (d.length + 64)) d from ⟨A1, hA1, rfl, hA1b⟩)
  have HF1 := Lib.hid (HF0.out.trans (Fr.of_below hb1) (fun _ _ h => h))
  have hbk1 := HBK.out.fr (Fr.of_below hb1) id
  have s1 : w1.cell? ⟨w.heap.size, 1, none⟩ = some (.slice a2 l.length c2) := hbk1.cell 1
  have HBK1 := Lib.hid hbk1
  have hA1l := hA1b.lt
  have hS1 := hb1.size
  clear hb1 hbk1 hA1b
  go_wp2_with fail
  refine (lend_calls l _ w1 (H2.out.no HF1.out)).mono ?_
  rintro e w2 ⟨vb, rfl, hlb, hb2⟩
  obtain ⟨A2, hA2, rfl, hA2b⟩ := hlb
  have HLB := Lib.hid (show Lent w2 w1.heap.size (.slice (some ⟨A2, 0, none⟩) l.length (l.length + 64)) l from ⟨A2, hA2, rfl, hA2b⟩)
  have HLA2 := Lib.hid (HLA.out.fr (Fr.of_below hb2) (fun _ _ => id))
  have HF2 := Lib.hid (HF1.out.trans (Fr.of_below hb2) (fun _ _ h => h))
  have HBK2 := Lib.hid (HBK1.out.fr (Fr.of_below hb2) id)
  have hA2l := hA2b.lt
  have hS2 := hb2.size
  clear hb2 hA2b s1
  go_wp2_with fail
  refine (from_calls d l _ _ w2 (HLA2.out.bsl hdl) (HLB.out.bsl hll) G1.out G2.out (HK.out.no HF2.out)).mono ?_
  intro e w3 hp
  unfold FromPost at hp
  rcases hp with ⟨hok, P, rfl, hP, hC, hB⟩ | ⟨hno, i, rfl, hF, hB⟩
  · have HF3 := Lib.hid (HF2.out.trans (Fr.of_below hB) (fun _ _ h => h))
    have hb3 := HBK2.out.fr (Fr.of_below hB) id
    have s0 : w3.cell? ⟨w.heap.size, 0, none⟩ = some (.slice a1 d.length c1) := hb3.cell 0
    have s1 : w3.cell? ⟨w.heap.size, 1, none⟩ = some (.slice a2 l.length c2) := hb3.cell 1
    have HBK3 := Lib.hid hb3
    have HLA3 := Lib.hid (HLA2.out.fr (Fr.of_below hB) (fun _ _ => id))
    have HLB3 := Lib.hid (HLB.out.fr (Fr.of_below hB) (fun _ _ => id))
    have HOK := Lib.hid hok
    have HC3 := Lib.hid hC
    have hS3 := hB.size
    have hPl3 := hC.lt
    clear hB hb3 hok hC
    go_wp2_with fail
    refine (reffrom_calls d l _ _ w3 (H1.out.no HF3.out) (H2.out.no HF3.out)).mono ?_
    intro e w4 hp
    unfold RefFromPost at hp
    rcases hp with ⟨_, Q, dv, lv, rfl, hr, hQ, hb4⟩ | ⟨hno, _⟩
    case inr => exact absurd HOK.out hno
    have HF4 := Lib.hid (HF3.out.trans (Fr.of_below hb4) (fun _ _ h => h))
    have hbk4 := HBK3.out.fr (Fr.of_below hb4) id
    have s0 : w4.cell? ⟨w.heap.size, 0, none⟩ = some (.slice a1 d.length c1) := hbk4.cell 0
    have s1 : w4.cell? ⟨w.heap.size, 1, none⟩ = some (.slice a2 l.length c2) := hbk4.cell 1
    have HLA4 := Lib.hid (HLA3.out.fr (Fr.of_below hb4) (fun _ _ => id))
    have HLB4 := Lib.hid (HLB3.out.fr (Fr.of_below hb4) (fun _ _ => id))
    have HC4 := Lib.hid (HC3.out.no (Fr.of_below hb4))
    have HR4 := Lib.hid hr
    have hS4 := hb4.size
    have hQl4 := hr.2.1.lt
    clear hb4 hbk4 hr
    go_wp2_with fail
    refine (kept_calls d _ _ _ w4 HLA4.out (H1.out.no HF4.out)).mono ?_
    rintro e w5 ⟨rfl, n, rfl⟩
    go_wp2_with fail
    refine (kept_calls l _ _ _ (w4.drewN n) (HLB4.out.fr ((Fr.refl No w4).drewN n) (fun _ _ => id)) ((H2.out.no HF4.out).no ((Fr.refl No w4).drewN n))).mono ?_
    rintro e w5 ⟨rfl, m, rfl⟩
    have hF4V : Fr No w4 ((w4.drewN n).drewN m) := ((Fr.refl No w4).drewN n).drewN m
    have hV0 : ((w4.drewN n).drewN m).heap.size = w4.heap.size := rfl
    generalize hV : (w4.drewN n).drewN m = V at hF4V hV0
    have HF5 := Lib.hid (HF4.out.trans hF4V (fun _ _ h => h))
    have HLA5 := Lib.hid (HLA4.out.fr hF4V (fun _ _ => id))
    have HLB5 := Lib.hid (HLB4.out.fr hF4V (fun _ _ => id))
    have HC5 := Lib.hid (HC4.out.no hF4V)
    have HR5 := Lib.hid (HR4.out.no hF4V)
    have HV0 := Lib.hid hV0
    clear hV hF4V hV0 s0 s1
    go_wp2_with fail
    refine (state_calls P _ _ V HC5.out).mono ?_
    intro e w6 hp
    unfold StatePost at hp
    rw [List.take_left, List.drop_left] at hp
    obtain ⟨x1, x2, rfl, hx1, hx2, hx12, hb6⟩ := hp
    obtain ⟨xa, xc, rfl⟩ := hx1.shape
    obtain ⟨ya, yc, rfl⟩ := hx2.shape
    have hS6 := hb6.size
    have HX1 := Lib.hid hx1
    have HX2 := Lib.hid hx2
    have HX12 := Lib.hid hx12
    have HF6 := Lib.hid (Fr.of_below hb6)
    clear hx1 hx2 hx12 hb6
    go_wp2_with fail
    generalize hW6 : w6.alloc _ = W6
    have F6 : Fr No w6 W6 := by rw [← hW6]; exact (Fr.refl No w6).alloc _
    have hK1 : Blk W6 w6.heap.size [.slice xa d.length xc, .slice ya l.length yc] 24 := by rw [← hW6]; exact Blk.new w6 _ _
    clear hW6
    have hS6b := hK1.lt
    have HK1 := Lib.hid hK1
    have HF6b := Lib.hid (HF6.out.trans F6 (fun _ _ h => h))
    have HC6 := Lib.hid (HC5.out.no HF6b.out)
    have HM1 := Lib.hid (And.intro (HX1.out.no F6) (HX2.out.no F6))
    clear F6 hK1
    refine (state_calls P _ _ W6 HC6.out).mono ?_
    intro e w7 hp
    unfold StatePost at hp
    rw [List.take_left, List.drop_left] at hp
    obtain ⟨x3, x4, rfl, hx3, hx4, hx34, hb7⟩ := hp
    obtain ⟨xa2, xc2, rfl⟩ := hx3.shape
    obtain ⟨ya2, yc2, rfl⟩ := hx4.shape
    have hS7 := hb7.size
    have HX3 := Lib.hid hx3
    have HX4 := Lib.hid hx4
    have HX34 := Lib.hid hx34
    have HF7 := Lib.hid (Fr.of_below hb7)
    clear hx3 hx4 hx34 hb7
    go_wp2_with fail
    generalize hW7 : w7.alloc _ = W7
    have F7 : Fr No w7 W7 := by rw [← hW7]; exact (Fr.refl No w7).alloc _
    have hK2 : Blk W7 w7.heap.size [.slice xa2 d.length xc2, .slice ya2 l.length yc2] 24 := by rw [← hW7]; exact Blk.new w7 _ _
    clear hW7
    have hS7b := hK2.lt
    have HK2 := Lib.hid hK2
    have HF7b := Lib.hid (HF7.out.trans F7 (fun _ _ h => h))
    have HC7 := Lib.hid (HC6.out.no HF7b.out)
    have HM2 := Lib.hid (And.intro (HX3.out.no F7) (HX4.out.no F7))
    clear F7 hK2
    refine (peek_calls P _ _ 200 W7 HC7.out (by omega) (by omega)).mono ?_
    intro e w8 hp
    unfold PeekPost at hp
    obtain ⟨p1, rfl, hp1, hf8⟩ := hp
    obtain ⟨T, hT⟩ : ∃ T, T = takeL 200 (d ++ l) d.length := ⟨_, rfl⟩
    rw [← hT] at hp1
    obtain ⟨pa, pc, rfl⟩ := hp1.shape
    have hTl : T.length ≤ 128 := by
      have h128 := HC7.out.2.1
      rw [hT]; unfold takeL
      split
      · simp
      · rw [List.length_take]; omega
    have HT := Lib.hid hT
    have hS8 := hf8.size
    have HP1 := Lib.hid hp1
    have HF8 := Lib.hid hf8
    have HC8 := Lib.hid (HC7.out.no hf8)
    clear hp1 hf8 hT
    obtain ⟨pf, hpf⟩ : ∃ b, b = decide (0 < d.length) := ⟨_, rfl⟩
    rw [← hpf]
    clear hpf
    go_wp2_with fail
    refine (peek_calls P _ _ 200 w8 HC8.out (by omega) (by omega)).mono ?_
    intro e w9 hp
    unfold PeekPost at hp
    obtain ⟨p2, rfl, hp2, hf9⟩ := hp
    rw [← HT.out] at hp2
    obtain ⟨pa2, pc2, rfl⟩ := hp2.shape
    have hS9 := hf9.size
    have HP2 := Lib.hid hp2
    have HF9 := Lib.hid hf9
    clear hp2 hf9
    obtain ⟨pf2, hpf2⟩ : ∃ b, b = decide (0 < d.length) := ⟨_, rfl⟩
    rw [← hpf2]
    clear hpf2
    have HG := Lib.hid ((HF7b.out.trans HF8.out (fun _ _ h => h)).trans HF9.out (fun _ _ h => h))
    have HG6 := Lib.hid (HF6b.out.trans HG.out (fun _ _ h => h))
    have HR9 := Lib.hid (HR5.out.no HG6.out)
    have HBX1 := Lib.hid (HK1.out.fr HG.out id)
    have HBX2 := Lib.hid (HK2.out.fr (HF8.out.trans HF9.out (fun _ _ h => h)) id)
    have e10 : w9.cell? ⟨w6.heap.size, 0, none⟩ = some (.slice xa d.length xc) := HBX1.out.cell 0
    have e11 : w9.cell? ⟨w6.heap.size, 1, none⟩ = some (.slice ya l.length yc) := HBX1.out.cell 1
    have e20 : w9.cell? ⟨w7.heap.size, 0, none⟩ = some (.slice xa2 d.length xc2) := HBX2.out.cell 0
    have e21 : w9.cell? ⟨w7.heap.size, 1, none⟩ = some (.slice ya2 l.length yc2) := HBX2.out.cell 1
    have hdl8 : d.length + l.length ≤ 128 := HOK.out.1
    have BB := Lib.hid (show ∀ W', Fr No w9 W' → (BSl W' (.slice xa d.length xc) d ∧ BSl W' (.slice ya l.length yc) l) ∧ (BSl W' (.slice xa2 d.length xc2) d ∧ BSl W' (.slice ya2 l.length yc2) l) ∧ (BSl W' (.slice pa T.length pc) T ∧ BSl W' (.slice pa2 T.length pc2) T) from fun W' hf =>
      ⟨⟨((HM1.out.1.no HG.out).no hf).bsl (by omega), ((HM1.out.2.no HG.out).no hf).bsl (by omega)⟩, ⟨((HM2.out.1.no (HF8.out.trans HF9.out (fun _ _ h => h))).no hf).bsl (by omega), ((HM2.out.2.no (HF8.out.trans HF9.out (fun _ _ h => h))).no hf).bsl (by omega)⟩, ((HP1.out.no HF9.out).no hf).bsl (by omega), (HP2.out.no hf).bsl (by omega)⟩)
    have KK := Lib.hid (show ∀ W', Fr No w9 W' → W'.cell? ⟨w6.heap.size, 0, none⟩ = some (.slice xa d.length xc) ∧ W'.cell? ⟨w6.heap.size, 1, none⟩ = some (.slice ya l.length yc) ∧ W'.cell? ⟨w7.heap.size, 0, none⟩ = some (.slice xa2 d.length xc2) ∧ W'.cell? ⟨w7.heap.size, 1, none⟩ = some (.slice ya2 l.length yc2) from fun W' hf =>
      ⟨(HBX1.out.fr hf id).cell 0, (HBX1.out.fr hf id).cell 1, (HBX2.out.fr hf id).cell 0, (HBX2.out.fr hf id).cell 1⟩)
    have RS := Lib.hid (show ∀ W', Fr No w9 W' → Calls Tryd.prog 19 #[.pointer (some ⟨Q, 0, none⟩)] W' (fun e w' => ∃ u1 u2, e = .returned (.agg #[u1, u2]) ∧ BSl w' u1 d ∧ BSl w' u2 l ∧ Fr No w9 w') from fun W' hf =>
      (refstate_calls _ Q dv lv d l W' (HR9.out.no hf) (by omega)).mono (fun e w' hp => by
        unfold StatePost at hp
        rw [List.take_left, List.drop_left] at hp
        obtain ⟨u1, u2, he, h1, h2, _, hb⟩ := hp
        exact ⟨u1, u2, he, h1.bsl (by omega), h2.bsl (by omega), hf.trans (Fr.of_below hb) (fun _ _ h => h)⟩))
    go_wp2_with fail
    go_region_held3 (fun w' => w'.cell? ⟨w6.heap.size, 0, none⟩ = some (.slice xa d.length xc) ∧ w'.cell? ⟨w6.heap.size, 1, none⟩ = some (.slice ya l.length yc) ∧ w'.cell? ⟨w7.heap.size, 0, none⟩ = some (.slice xa2 d.length xc2) ∧ w'.cell? ⟨w7.heap.size, 1, none⟩ = some (.slice ya2 l.length yc2))
      (first
        | exact kE
        | exact kD
        | exact kC
        | exact kB
        | exact kA
        | go_keep)
      (first
        | (go_at_call 20; refine (bytes_calls T T _ _ _ (BB.out _ HFD.out).2.2.1 (BB.out _ HFD.out).2.2.2).mono ?_; rw [decide_eq_true rfl]; rintro e wE ⟨rfl, nE, rfl⟩; have HFE := Lib.hid (HFD.out.drewN nE); have kE := KK.out _ HFE.out)
        | (go_at_call 18; have hh := TKC.out; refine (states_calls d l _ _ _ _ _ (BB.out _ HFC.out).2.1.1 (BB.out _ HFC.out).2.1.2 UC1.out UC2.out).mono ?_; rintro e wD ⟨rfl, hfD⟩; have HFD := Lib.hid (HFC.out.trans hfD (fun _ _ h => h)); have kD := KK.out _ HFD.out; clear hfD hh)
        | (go_at_call 18; refine (states_calls d l _ _ _ _ _ (BB.out _ HFA.out).1.1 (BB.out _ HFA.out).1.2 UA1.out UA2.out).mono ?_; rintro e wB ⟨rfl, hfB⟩; have HFB := Lib.hid (HFA.out.trans hfB (fun _ _ h => h)); have kB := KK.out _ HFB.out; have TKB := Lib.hid True.intro; clear hfB)
        | (go_at_call 19; have hh := TKB.out; refine (RS.out _ HFB.out).mono ?_; rintro e wC ⟨r3, r4, rfl, h3, h4, hfC⟩; obtain ⟨ra3, rc3, rfl⟩ := h3.shape; obtain ⟨ra4, rc4, rfl⟩ := h4.shape; have HFC := Lib.hid hfC; have UC1 := Lib.hid h3; have UC2 := Lib.hid h4; have kC := KK.out _ HFC.out; have TKC := Lib.hid True.intro; clear h3 h4 hfC hh)
        | (go_at_call 19; refine (RS.out _ (Fr.refl No _).drew).mono ?_; rintro e wA ⟨r1, r2, rfl, h1, h2, hfA⟩; obtain ⟨ra1, rc1, rfl⟩ := h1.shape; obtain ⟨ra2, rc2, rfl⟩ := h2.shape; have HFA := Lib.hid hfA; have UA1 := Lib.hid h1; have UA2 := Lib.hid h2; have kA := KK.out _ HFA.out; clear h1 h2 hfA))
    rename_i hHeld
    clear hHeld kA kB kC kD
    obtain ⟨e10, e11, e20, e21⟩ := kE
    go_wp2_with fail
    clear e10 e11 e20 e21
    have hV := HV0.out
    have G8 := Lib.hid (HF8.out.trans HF9.out (fun _ _ h => h))
    have F49 := Lib.hid (HG6.out.trans HFE.out (fun _ _ h => h))
    have t1 := (HLA5.out.fr F49.out (fun _ _ => id)).row hdl
    have t2 := (HLB5.out.fr F49.out (fun _ _ => id)).row hll
    have t3 := ((HM1.out.1.no HG.out).no HFE.out).1
    have t4 := ((HM1.out.2.no HG.out).no HFE.out).1
    have t5 := ((HM2.out.1.no G8.out).no HFE.out).1
    have t6 := ((HM2.out.2.no G8.out).no HFE.out).1
    have t7 := ((HP1.out.no HF9.out).no HFE.out).1
    have t8 := (HP2.out.no HFE.out).1
    have u3 := fun k hk => (HX1.out.lt k hk).2
    have u4 := fun k hk => (HX2.out.lt k hk).2
    have u5 := fun k hk => (HX3.out.lt k hk).2
    have u6 := fun k hk => (HX4.out.lt k hk).2
    have u7 := fun k hk => (HP1.out.lt k hk).2
    have u8 := fun k hk => (HP2.out.lt k hk).2
    have o3 : w2.heap.size ≤ V.heap.size := by omega
    have o10 : W.heap.size ≤ (wD.drewN nE).heap.size := by have := HFE.out.size; omega
    have hl1 : ∀ k, (Value.slice (some ⟨A1, 0, none⟩) d.length (d.length + 64)).ownBlock = some k → k < w1.heap.size := fun k hk => by have h : A1 = k := Option.some.inj hk; omega
    have hl2 : ∀ k, (Value.slice (some ⟨A2, 0, none⟩) l.length (l.length + 64)).ownBlock = some k → k < w2.heap.size := fun k hk => by have h : A2 = k := Option.some.inj hk; omega
    have hxx : ∀ x ∈ [d, l, d, l, d, l, T, T], x.length ≤ 100000000000 := by
      have e1 : d.length ≤ 100000000000 := by omega
      have e2 : l.length ≤ 100000000000 := by omega
      have e3 : T.length ≤ 100000000000 := by omega
      simp only [List.forall_mem_cons]
      exact ⟨e1, e2, e1, e2, e1, e2, e3, e3, fun x hx => by cases hx⟩
    have hFREE := free_eight (wD.drewN nE) _ _ _ _ _ _ _ _ d l d l d l T T W.heap.size w1.heap.size w2.heap.size V.heap.size w6.heap.size W6.heap.size w7.heap.size W7.heap.size w8.heap.size w9.heap.size
      t1 t2 t3 t4 t5 t6 t7 t8 hl1 hl2 u3 u4 u5 u6 u7 u8 HX12.out HX34.out hS1 hS2 o3 hS6 (Nat.le_of_lt hS6b) hS7 (Nat.le_of_lt hS7b) hS8 hS9 o10 hxx
    clear t1 t2 t3 t4 t5 t6 t7 t8 hl1 hl2 u3 u4 u5 u6 u7 u8 hxx o3 o10
    have HFREE := Lib.hid hFREE
    have F5E := Lib.hid (HF5.out.trans F49.out (fun _ _ h => h))
    have HCE := Lib.hid (HC5.out.no F49.out)
    have HRE := Lib.hid (HR5.out.no F49.out)
    have hRfp : ∀ k, RefFP Q dv lv k → w3.heap.size ≤ k ∧ k < w4.heap.size := by
      rintro k (rfl | hk | hk)
      · exact ⟨hQ, hQl4⟩
      · exact HR4.out.2.2.1.lt k hk
      · exact HR4.out.2.2.2.1.lt k hk
    have HRFP := Lib.hid hRfp
    have hlowW : w.heap.size ≤ W.heap.size := HF0.out.size
    clear hFREE hRfp hV
    refine HFREE.out.mono ?_
    rintro e w10 ⟨rfl, hf10⟩
    have hV := HV0.out
    have HC10 := Lib.hid (HCE.out.fr hf10 (fun hh => by have := hh.2; omega))
    have HR10 := Lib.hid (HRE.out.fr hf10 (fun k hk hh => by have := hh.2; have := HRFP.out k hk; omega))
    have HB10 := Lib.hid (Fr.below_of F5E.out.below hf10 F5E.out.size (fun k hk => Nat.le_trans hlowW hk.1))
    clear hf10 hV
    go_wp2_with fail
    refine (state_calls P _ _ w10 HC10.out).mono ?_
    intro e w11 hp
    unfold StatePost at hp
    rw [List.take_left, List.drop_left] at hp
    obtain ⟨z1, z2, rfl, hz1', hz2', _, hb11⟩ := hp
    have B1 := Lib.hid (hz1'.bsl (by omega))
    have B2 := Lib.hid (hz2'.bsl (by omega))
    have HR11 := Lib.hid (HR10.out.no (Fr.of_below hb11))
    have HB11 := Lib.hid (HB10.out.trans (hb11.mono HB10.out.size))
    clear hz1' hz2' hb11
    go_wp2_with fail
    refine (refstate_calls _ Q dv lv d l w11 HR11.out (by omega)).mono ?_
    intro e w12 hp
    unfold StatePost at hp
    rw [List.take_left, List.drop_left] at hp
    obtain ⟨z3, z4, rfl, hz3', hz4', _, hb12⟩ := hp
    have B3 := Lib.hid (hz3'.bsl (by omega))
    have B4 := Lib.hid (hz4'.bsl (by omega))
    have C1 := Lib.hid (B1.out.no (Fr.of_below hb12))
    have C2 := Lib.hid (B2.out.no (Fr.of_below hb12))
    have HB12 := Lib.hid (HB11.out.trans (hb12.mono HB11.out.size))
    clear hz3' hz4' hb12
    go_wp2_with fail
    refine (states_calls d l _ _ _ _ w12 C1.out C2.out B3.out B4.out).mono ?_
    rintro e w13 ⟨rfl, hf13⟩
    have FIN := Lib.hid (Fr.below_of HB12.out hf13 HB12.out.size (fun _ h => h.elim))
    clear hf13
    go_wp2_with fail
    go_ret
    exact ⟨rfl, FIN.out⟩
  · have HF3 := Lib.hid (HF2.out.trans (Fr.of_below hB) (fun _ _ h => h))
    have hb3 := HBK2.out.fr (Fr.of_below hB) id
    have s0 : w3.cell? ⟨w.heap.size, 0, none⟩ = some (.slice a1 d.length c1) := hb3.cell 0
    have s1 : w3.cell? ⟨w.heap.size, 1, none⟩ = some (.slice a2 l.length c2) := hb3.cell 1
    have HBK3 := Lib.hid hb3
    have HLA3 := Lib.hid (HLA2.out.fr (Fr.of_below hB) (fun _ _ => id))
    have HLB3 := Lib.hid (HLB.out.fr (Fr.of_below hB) (fun _ _ => id))
    have HNO := Lib.hid hno
    have HFA := Lib.hid hF
    clear hB hb3 hno hF
    go_wp2_with fail
    refine (reffrom_calls d l _ _ w3 (H1.out.no HF3.out) (H2.out.no HF3.out)).mono ?_
    intro e w4 hp
    unfold RefFromPost at hp
    rcases hp with ⟨hok, _⟩ | ⟨_, rfl, hb4⟩
    case inl => exact absurd hok HNO.out
    have HF4 := Lib.hid (HF3.out.trans (Fr.of_below hb4) (fun _ _ h => h))
    have HFA4 := Lib.hid (HFA.out.fr (Fr.of_below hb4) (fun _ h => h.elim))
    have hbk4 := HBK3.out.fr (Fr.of_below hb4) id
    have s0 : w4.cell? ⟨w.heap.size, 0, none⟩ = some (.slice a1 d.length c1) := hbk4.cell 0
    have s1 : w4.cell? ⟨w.heap.size, 1, none⟩ = some (.slice a2 l.length c2) := hbk4.cell 1
    have HLA4 := Lib.hid (HLA3.out.fr (Fr.of_below hb4) (fun _ _ => id))
    have HLB4 := Lib.hid (HLB3.out.fr (Fr.of_below hb4) (fun _ _ => id))
    clear hb4 hbk4
    go_wp2_with fail
    refine (kept_calls d _ _ _ w4 HLA4.out (H1.out.no HF4.out)).mono ?_
    rintro e w5 ⟨rfl, n, rfl⟩
    go_wp2_with fail
    refine (kept_calls l _ _ _ (w4.drewN n) (HLB4.out.fr ((Fr.refl No w4).drewN n) (fun _ _ => id)) ((H2.out.no HF4.out).no ((Fr.refl No w4).drewN n))).mono ?_
    rintro e w5 ⟨rfl, m, rfl⟩
    generalize hV : (w4.drewN n).drewN m = V
    have HF5 := Lib.hid (show Fr No w V from by rw [← hV]; exact (HF4.out.drewN n).drewN m)
    have HFA5 := Lib.hid (show FaultAt V _ _ _ _ from by rw [← hV]; exact HFA4.out.fr (((Fr.refl No w4).drewN n).drewN m) (fun _ h => h.elim))
    clear hV
    go_wp2_with fail
    refine (newfault_calls _ _ _ V).mono ?_
    rintro e w6 ⟨lk, rfl, hlk, hb6⟩
    have HF6 := Lib.hid (HF5.out.trans (Fr.of_below hb6) (fun _ _ h => h))
    have HFA6 := Lib.hid (HFA5.out.fr (Fr.of_below hb6) (fun _ h => h.elim))
    have HLK := Lib.hid hlk
    clear hlk hb6
    go_wp2_with fail
    refine (isfault_calls _ _ _ _ _ _ w6 HFA6.out HLK.out (by decide)).mono ?_
    rintro e w7 ⟨rfl, hf7⟩
    have FIN := Lib.hid (HF6.out.trans hf7 (fun _ _ h => h)).below
    clear hf7
    go_wp2_with fail
    go_ret
    exact ⟨rfl, FIN.out⟩

end Go.Proofs.YtollgpnaadgncaaDoor
