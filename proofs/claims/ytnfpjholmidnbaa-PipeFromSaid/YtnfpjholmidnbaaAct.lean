/- hartixlaw10.act: one act on a pipe and on its reference: true. No condition. -/
import Derived.Test.YtnfpjholmidnbaaTrio
import Derived.Test.YtnfpjholmidnbaaJoinsLaw
import Derived.Deep.DeepCutAuto
namespace Go.Proofs.Ytnfpjholmidnbaa
open Go.RowKit

theorem nil_eq (w : World) : (binOp .eql 34 (.slice none 0 0) (.slice none 0 0)).run Try.prog w = .ok (.bool true) w := by kernel_rfl

theorem slot4 {w : World} {g : Nat} {a0 a1 a2 a3 : Value} {t : TypeId} (h : Blk w g [a0, a1, a2, a3] t) : w.cell? ⟨g, 0, none⟩ = some a0 ∧ w.cell? ⟨g, 1, none⟩ = some a1 ∧ w.cell? ⟨g, 2, none⟩ = some a2 ∧ w.cell? ⟨g, 3, none⟩ = some a3 :=
  ⟨h.cell 0, h.cell 1, h.cell 2, h.cell 3⟩

/-- a slice that came in lies below -/
theorem BSl.low {S : Nat → Prop} {w w' : World} {v : Value} {xs : List Int} {base : Nat} (h : BSl w v xs) (hl : xs ≠ [] → ∀ k, v.ownBlock = some k → k < base) (hf : Fr S w w') (hS : ∀ k, S k → base ≤ k) : BSl w' v xs := by
  by_cases he : xs = []
  · obtain ⟨a, c, rfl⟩ := h.shape
    have hc := h.capmax
    subst he
    exact bsl_nil_of _ _ _ _ rfl hc
  · exact h.fr hf (fun k hk hs => by have := hl he k hk; have := hS k hs; omega)

theorem slots2 {w : World} {g g' : Nat} {a0 a1 a2 a3 a4 b0 b1 b2 b3 b4 : Value} {t t' : TypeId} (h : Blk w g [a0, a1, a2, a3, a4] t) (h' : Blk w g' [b0, b1, b2, b3, b4] t') :
    w.cell? ⟨g, 0, none⟩ = some a0 ∧ w.cell? ⟨g, 1, none⟩ = some a1 ∧ w.cell? ⟨g, 2, none⟩ = some a2 ∧ w.cell? ⟨g, 3, none⟩ = some a3 ∧ w.cell? ⟨g, 4, none⟩ = some a4 ∧
      w.cell? ⟨g', 0, none⟩ = some b0 ∧ w.cell? ⟨g', 1, none⟩ = some b1 ∧ w.cell? ⟨g', 2, none⟩ = some b2 ∧ w.cell? ⟨g', 3, none⟩ = some b3 ∧ w.cell? ⟨g', 4, none⟩ = some b4 :=
  ⟨h.cell 0, h.cell 1, h.cell 2, h.cell 3, h.cell 4, h'.cell 0, h'.cell 1, h'.cell 2, h'.cell 3, h'.cell 4⟩

set_option maxRecDepth 100000 in
set_option maxHeartbeats 6400000 in
theorem act_calls (base P Q B : Nat) (bv kv wv : Value) (ks ws : List Value) (Y : Nat → List Int) (q : List Int) (rd wt : Int) (sr sw : Bool) (n : Nat) (kd wh N : Int) (dv : Value) (data : List Int) (w : World)
    (h : Trio w base P Q B bv kv wv ks ws Y q rd wt sr sw n) (hd : BSl w dv data) (hdl : data ≠ [] → ∀ k, dv.ownBlock = some k → k < base) (hN : I64 N) (hn : ((n + 2) / 2 + 1) * 24 ≤ 140737488355328) (hn2 : n + 2 ≤ 4611686018427387904) :
    Calls Try.prog 13 #[.pointer (some ⟨P, 0, none⟩), .pointer (some ⟨Q, 0, none⟩), .agg #[.int .i64 kd, .int .i64 wh, dv, .int .i64 N], .pointer (some ⟨B, 0, none⟩)] w (ActPost base P Q B bv kv wv ks ws n w) := by
  obtain ⟨da, dc, rfl⟩ := hd.shape
  have hr := h.pipe.1
  have hq512 := h.pipe.bound
  have HD := Lib.hid hd; clear hd
  have HDL := Lib.hid hdl; clear hdl
  have HN := Lib.hid hN; clear hN
  go_enter Try.func13, Try.ntmps13
  go_upto_region 2 with fail
  generalize hW : w.alloc _ = W
  have F0 : Fr No w W := by rw [← hW]; exact (Fr.refl _ _).alloc _
  have HS : Blk W w.heap.size [.int .i64 kd, .int .i64 wh, .slice da data.length dc, .int .i64 N] 36 := by rw [← hW]; exact Blk.new w _ _
  clear hW
  have hSl := HS.lt
  have h0 := h.no F0
  have hPl : P < w.heap.size := h.pipe.lt
  have hQl : Q < w.heap.size := h.ref.2.1.lt
  have hbw : base ≤ w.heap.size := h.ref.1
  have H := Lib.hid h; clear h
  have H0 := Lib.hid h0; clear h0
  have HF0 := Lib.hid F0; clear F0
  obtain ⟨s0, s1, s2, s3⟩ := slot4 HS
  have HSB := Lib.hid HS; clear HS
  have hSP : w.heap.size ≠ P := by omega
  have hSQ : w.heap.size ≠ Q := by omega
  have hSR : ¬ RefFP Q bv w.heap.size := fun hh => by have := H.out.ref.lt _ hh; omega
  have HSR := Lib.hid hSR; clear hSR
  by_cases h1 : kd = 1
  · subst h1
    go_wp2_with fail
    refine (lend_calls data _ W (HD.out.no HF0.out)).mono ?_
    rintro e w1 ⟨v1, rfl, hlent, hb1⟩
    obtain ⟨⟨la, lc, rfl⟩, hd1, hoff1⟩ := lent_facts hlent HD.out.len
    have F1 := Fr.of_below hb1
    have hS1 := HSB.out.fr F1 id
    obtain ⟨a0, a1, a2, a3⟩ := slot4 hS1
    have HS1 := Lib.hid hS1; clear hS1
    have HP1 := Lib.hid (H0.out.pipe.fr F1 id)
    have HR1 := Lib.hid (H0.out.ref.fr F1 (fun _ _ => id))
    have FF1 := Lib.hid (HF0.out.trans F1 (fun _ _ h => h))
    have HD1 := Lib.hid hd1; clear hd1
    have HO1 := Lib.hid (hoff1 P (by omega))
    have HLE := Lib.hid hlent
    have hW1 : W.heap.size ≤ w1.heap.size := F1.size
    clear hoff1 hlent hb1 F1 s0 s1 s2 s3
    go_wp2_with fail
    refine (put_calls P q data rd wt sr sw _ w1 HP1.out HD1.out HO1.out).mono ?_
    obtain ⟨k, hk⟩ : ∃ k, k = putK data q sr := ⟨_, rfl⟩
    obtain ⟨how, hhow⟩ : ∃ h, h = putHow data q sr := ⟨_, rfl⟩
    rw [← hk, ← hhow]
    have HK := Lib.hid hk; clear hk
    have HH := Lib.hid hhow; clear hhow
    rintro e w2 ⟨rfl, hP2, hf2⟩
    have hS2 := HS1.out.fr hf2 hSP
    obtain ⟨b0, b1, b2, b3⟩ := slot4 hS2
    have HS2 := Lib.hid hS2; clear hS2
    have HR2 := Lib.hid (HR1.out.fr hf2 (fun x hx hh => H.out.pr (hh ▸ hx)))
    have HP2 := Lib.hid hP2; clear hP2
    have HF2 := Lib.hid ((FF1.out.mono (S' := fun x => x = P ∨ RefFP Q bv x) (fun _ h => h.elim)).trans (hf2.mono (S' := fun x => x = P ∨ RefFP Q bv x) (fun x hx => .inl hx)) (fun _ _ h => h))
    have HLE2 := Lib.hid (HLE.out.fr hf2 (fun x hx hh => HO1.out (hh ▸ hx)))
    have hlowS : ∀ x, (x = P ∨ RefFP Q bv x) → base ≤ x := by
      rintro x (rfl | rfl | hx)
      · exact H.out.low.1
      · exact H.out.low.2.1
      · exact (H.out.ref.2.2.lt x hx).1
    have HLS := Lib.hid hlowS; clear hlowS
    have HD2 := Lib.hid (HD.out.low HDL.out HF2.out HLS.out)
    have hW2 : w1.heap.size ≤ w2.heap.size := hf2.size
    clear hf2 a0 a1 a2 a3
    go_wp2_with fail
    refine (refput_calls base Q bv _ q data rd wt (!sr) (!sw) w2 HR2.out HD2.out (fun hne x hx hh => by have := HDL.out hne x hx; have := HLS.out x (.inr hh); omega) (fun x hne hx => by have := HDL.out hne x hx; omega) hq512 ⟨hr.2.2.1, hr.2.2.2⟩).mono ?_
    intro e w3 hpost
    unfold PutPost at hpost
    rw [Bool.not_not, ← HK.out, ← HH.out] at hpost
    obtain ⟨bv', rfl, hR3, hbv3, hf3⟩ := hpost
    have hS3 := HS2.out.fr hf3 (fun hh => HSR.out hh)
    obtain ⟨a0, a1, a2, a3⟩ := slot4 hS3
    have HP3 := Lib.hid (HP2.out.fr hf3 H.out.pr)
    have HR3 := Lib.hid hR3; clear hR3
    have HBV := Lib.hid hbv3; clear hbv3
    have HLE3 := Lib.hid (HLE2.out.fr hf3 (fun x hx hh => by
      obtain ⟨g, hg, e, _⟩ := HLE2.out
      cases e; cases hx
      have h7 : g < w.heap.size := H.out.ref.lt _ hh
      omega))
    have HF3 := Lib.hid (HF2.out.trans (hf3.mono (S' := fun x => x = P ∨ RefFP Q bv x) (fun x hx => .inr hx)) (fun _ _ h => h))
    have HD3 := Lib.hid (HD.out.low HDL.out HF3.out HLS.out)
    have hW3 : w2.heap.size ≤ w3.heap.size := hf3.size
    clear hf3 hS3 b0 b1 b2 b3
    have hz1 : ((k : Int) != (k : Int)) = false := by simp
    have hz2 : (how != how) = false := by simp
    go_wp2_with fail
    refine (kept_calls data _ _ _ w3 HLE3.out HD3.out).mono ?_
    rintro e w4 ⟨rfl, nn, rfl⟩
    have FD := (Fr.refl No w3).drewN nn
    have HP4 := Lib.hid (HP3.out.fr FD id)
    have HR4 := Lib.hid (HR3.out.fr FD (fun _ _ => id))
    have HF4 := Lib.hid (HF3.out.trans (FD.mono (fun _ h => h.elim)) (fun _ _ h => h))
    obtain ⟨G, hG, hve, hGb⟩ := HLE3.out.fr FD (fun _ _ => id)
    obtain ⟨rfl, rfl⟩ : la = some ⟨G, 0, none⟩ ∧ lc = data.length + 64 := by simpa using hve
    have hG1 : G < w1.heap.size := by
      obtain ⟨g, hg, e, hb⟩ := HLE.out
      cases e
      exact hb.lt
    have HGB := Lib.hid (show ∃ cs, Blk (w3.drewN nn) G cs 5 ∧ cs.length = data.length + 64 from ⟨_, hGb, by simp [marks]⟩)
    generalize hw4 : w3.drewN nn = w4 at *
    have hs4 : w4.heap.size = w3.heap.size := by rw [← hw4]; rfl
    have hdlen := HD.out.len
    clear hGb hve FD a0 a1 a2 a3 hw4
    go_wp2_with fail
    go_loopg [14] data.length (fun g s wx => (∃ j : Nat, j ≤ data.length ∧ g = data.length - j ∧ s = .int .i64 j) ∧ Fr (· = G) w4 wx ∧ ∃ cs, Blk wx G cs 5 ∧ cs.length = data.length + 64)
    case atStart => exact ⟨⟨0, Nat.zero_le _, rfl, rfl⟩, Fr.refl _ _, HGB.out⟩
    case round =>
      obtain ⟨⟨j, hj, rfl, rfl⟩, hfr, cs, hcs, hcl⟩ := hrel
      by_cases hlt : j < data.length
      · obtain ⟨u0, hc0⟩ : ∃ u, wr.cell? ⟨G, j, none⟩ = some u := ⟨_, (hcs.cell j).trans (List.getElem?_eq_getElem (by omega))⟩
        have hf0 := hcs.free j
        have HNX := Lib.hid (show Fr (· = G) w4 (wr.setCell ⟨G, j, none⟩ (.int .u8 85)) ∧ ∃ cs, Blk (wr.setCell ⟨G, j, none⟩ (.int .u8 85)) G cs 5 ∧ cs.length = data.length + 64 from
          ⟨hfr.setCell (p := ⟨G, j, none⟩) (fun _ => rfl) _, _, hcs.set j _, by simpa using hcl⟩)
        clear hfr hcs hcl
        go_wp2_with fail
        go_roundg (data.length - (j + 1))
        case measure => omega
        case rel => exact ⟨⟨j + 1, by omega, rfl, by go_num⟩, HNX.out⟩
      · have he : j = data.length := by omega
        subst he
        have hGlow : ¬ RefFP Q bv' G := by
          rintro (hh | hh)
          · omega
          · rcases HBV.out G hh with h5 | h5
            · have := H.out.ref.lt G (.inr h5); omega
            · omega
        have FIN := Lib.hid (act_pair H.out (HP4.out.fr hfr (fun hh => by omega)) (HR4.out.fr hfr (fun x hx hh => hGlow (hh ▸ hx))) (fun x hx => by
          rcases HBV.out x hx with h5 | h5
          · exact .inl h5
          · exact .inr (by omega)) (HF4.out.trans (hfr.mono (S' := fun x => x = G) (fun _ h => h)) (fun x hx hh => by omega)))
        clear hfr hcs hcl
        go_wp2_with fail
        go_ret
        exact FIN.out
  · by_cases h3 : kd = 3
    · subst h3
      go_wp2_with fail
      refine (shut_calls P q rd wt sr sw _ W H0.out.pipe).mono ?_
      rintro e w1 ⟨rfl, hP1, hf1⟩
      have hS1 := HSB.out.fr hf1 hSP
      obtain ⟨a0, a1, a2, a3⟩ := slot4 hS1
      have HP1 := Lib.hid hP1; clear hP1
      have HR1 := Lib.hid (H0.out.ref.fr hf1 (fun x hx hh => H.out.pr (hh ▸ hx)))
      have HF1 := Lib.hid ((HF0.out.mono (S' := fun x => x = P ∨ RefFP Q bv x) (fun _ h => h.elim)).trans (hf1.mono (S' := fun x => x = P ∨ RefFP Q bv x) (fun x hx => .inl hx)) (fun _ _ h => h))
      clear hf1 hS1 s0 s1 s2 s3
      go_wp2_with fail
      refine (refshut_calls base Q bv q rd wt (!sr) (!sw) _ w1 HR1.out).mono ?_
      rintro e w2 ⟨rfl, hR2, hf2⟩
      have hnPQ : ¬ P = Q := fun hh => H.out.pr (.inl hh)
      have FIN := Lib.hid (act_pair H.out (HP1.out.fr hf2 hnPQ) (by
        have := hR2
        simpa [Bool.not_or] using this) (fun x hx => .inl hx) (HF1.out.trans (hf2.mono (S' := fun x => x = P ∨ RefFP Q bv x) (fun x hx => .inr (.inl hx))) (fun _ _ h => h)))
      clear hR2 hf2
      go_wp2_with fail
      go_ret
      exact FIN.out
    · by_cases h2 : kd = 2
      · subst h2
        go_wp2_with fail
        refine (take_calls P q rd wt sr sw N W H0.out.pipe HN.out.1 HN.out.2).mono ?_
        obtain ⟨K, hK⟩ : ∃ K, K = takeK N q := ⟨_, rfl⟩
        obtain ⟨how, hhow⟩ : ∃ h, h = takeHow N q sw := ⟨_, rfl⟩
        obtain ⟨T, hT⟩ : ∃ T, T = q.take K := ⟨_, rfl⟩
        have hTl : T.length ≤ 512 := by rw [hT]; simp; omega
        rw [← hK, ← hhow, ← hT]
        have HK := Lib.hid hK; clear hK
        have HH := Lib.hid hhow; clear hhow
        have HT := Lib.hid hT; clear hT
        rintro e w1 ⟨v1, rfl, hown1, hP1, hf1⟩
        obtain ⟨a1, b1, rfl⟩ := hown1.shape
        have hS1 := HSB.out.fr hf1 hSP
        obtain ⟨c0, c1, c2, c3⟩ := slot4 hS1
        have HP1 := Lib.hid hP1; clear hP1
        have HR1 := Lib.hid (H0.out.ref.fr hf1 (fun x hx hh => H.out.pr (hh ▸ hx)))
        have HF1 := Lib.hid ((HF0.out.mono (S' := fun x => x = P ∨ RefFP Q bv x) (fun _ h => h.elim)).trans (hf1.mono (S' := fun x => x = P ∨ RefFP Q bv x) (fun x hx => .inl hx)) (fun _ _ h => h))
        have HO1 := Lib.hid hown1; clear hown1
        have hW1 : W.heap.size ≤ w1.heap.size := hf1.size
        clear hf1 hS1 s0 s1 s2 s3
        go_wp2_with fail
        refine (reftake_calls base Q bv q rd wt (!sr) (!sw) N w1 HR1.out hq512 ⟨hr.1, hr.2.1⟩ HN.out.1 HN.out.2).mono ?_
        intro e w2 hpost
        unfold TakePost at hpost
        rw [Bool.not_not, ← HK.out, ← HH.out, ← HT.out] at hpost
        obtain ⟨v2, bv', rfl, hown2, hR2, hbv, hf2⟩ := hpost
        obtain ⟨a2, b2, rfl⟩ := hown2.shape
        have hnPQ : ¬ P = Q := fun hh => H.out.pr (.inl hh)
        have HF2 := Lib.hid (HF1.out.trans (hf2.mono (S' := fun x => x = P ∨ RefFP Q bv x) (fun x hx => .inr (.inl hx))) (fun _ _ h => h))
        have HTR := Lib.hid (trio_pair H.out (HP1.out.fr hf2 hnPQ) hR2 (fun x hx => by
          rcases hbv x hx with h5 | h5
          · exact .inl h5
          · exact .inr (by omega)) HF2.out)
        have HO2 := Lib.hid (HO1.out.fr hf2 (fun x hx hh => by have := (HO1.out.lt x hx).1; omega))
        have HN1 := Lib.hid (show ∀ x, (Value.slice a1 T.length b1).ownBlock = some x → ¬ RefFP Q bv' x from fun x hx hh => by
          have h5 := HO1.out.lt x hx
          rcases hh with h6 | h6
          · omega
          · rcases hbv x h6 with h7 | h7
            · have := H.out.ref.lt x (.inr h7); omega
            · omega)
        have HB2 := Lib.hid (hown2.bsl (by omega))
        have HBV2 := Lib.hid (show ∀ x, bv'.ownBlock = some x → bv.ownBlock = some x ∨ w.heap.size ≤ x from fun x hx => by
          rcases hbv x hx with h5 | h5
          · exact .inl h5
          · exact .inr (by omega))
        have hbase2 : base ≤ W.heap.size := by omega
        clear hown2 hR2 hbv hf2 c0 c1 c2 c3
        have hz1 : (how == how) = true := by simp
        go_wp2_with fail
        refine (bytes_calls T T _ _ w2 (HO2.out.bsl (by omega)) HB2.out).mono ?_
        rintro e w3 ⟨rfl, nn, rfl⟩
        rw [show decide (T = T) = true from decide_eq_true rfl]
        have FD := (Fr.refl No w2).drewN nn
        have HTR3 := Lib.hid (HTR.out.no FD)
        have HO3 := Lib.hid ((HO2.out.fr FD (fun _ _ => id)).base hbase2)
        have HF3 := Lib.hid (HF2.out.trans (FD.mono (fun _ h => h.elim)) (fun _ _ h => h))
        have HOL := Lib.hid (show ∀ x, (Value.slice a1 T.length b1).ownBlock = some x → w.heap.size ≤ x from fun x hx => by have := (HO1.out.lt x hx).1; omega)
        clear FD
        generalize w2.drewN nn = w3 at *
        have fin : ∀ w4, ShelfPost base B kv wv ks ws n (.slice a1 T.length b1) w3 (.returned (.bool true)) w4 → ActPost base P Q B bv kv wv ks ws n w (.returned (.bool true)) w4 := fun w4 hp => by
          obtain ⟨kv', wv', ks', ws', Y', ht, hfp, hf⟩ := trio_put HTR3.out HO3.out.1 HN1.out hp
          have hsz := HF3.out.size
          unfold ActPost
          refine ⟨bv', kv', wv', ks', ws', Y', _, _, _, _, _, n + 1, rfl, ht, by omega, HBV2.out, fun x hx => ?_, (HF3.out.mono (S' := fun k => k = P ∨ RefFP Q bv k ∨ ShFP B kv wv ks ws k) (fun x hx => hx.elim .inl (fun h => .inr (.inl h)))).trans hf (fun x hx hh => ?_)⟩
          · rcases hfp x hx with h5 | h5 | h5
            · exact .inl h5
            · exact .inr (HOL.out x h5)
            · exact .inr (by omega)
          · rcases hh with h5 | h5
            · exact .inr (.inr h5)
            · have := HOL.out x h5; omega
        have FIN := Lib.hid fin; clear fin
        have hLO := shelf_row_off HTR3.out.shelf HO3.out.1 (fun x hx hh => by have := HOL.out x hx; have := H.out.shelf.lt x (.inr (.inr (.inr hh))); omega)
        have HLO := Lib.hid hLO; clear hLO
        have hnb : (n / 2 + 1) * 24 ≤ 140737488355328 := by omega
        by_cases hTe : T = []
        · have hnil := HO3.out.2 hTe
          subst hTe
          obtain ⟨rfl, rfl⟩ : a1 = none ∧ b1 = 0 := by simpa using hnil
          clear hnil
          have hne := nil_eq
          go_wp2_with fail
          refine (shelfput_calls base B kv wv ks ws Y n _ [] w3 HTR3.out.shelf HO3.out.1 hTl HLO.out hnb (by omega)).mono ?_
          intro e w4 hp
          have he : e = .returned (.bool true) := by unfold ShelfPost at hp; obtain ⟨_, _, _, _, _, he, _⟩ := hp; exact he
          subst he
          have FI := Lib.hid (FIN.out w4 hp)
          clear hp
          go_wp2_with fail
          go_ret
          exact FI.out
        · have hTp : 0 < T.length := List.length_pos_iff.2 hTe
          go_wp2_with fail
          refine (shelfput_calls base B kv wv ks ws Y n _ T w3 HTR3.out.shelf HO3.out.1 hTl HLO.out hnb (by omega)).mono ?_
          intro e w4 hp
          have he : e = .returned (.bool true) := by unfold ShelfPost at hp; obtain ⟨_, _, _, _, _, he, _⟩ := hp; exact he
          subst he
          have FI := Lib.hid (FIN.out w4 hp)
          clear hp
          go_wp2_with fail
          go_ret
          exact FI.out
      · by_cases h4 : kd = 4
        · subst h4
          go_wp2_with fail
          refine (state_calls P q rd wt sr sw W H0.out.pipe).mono ?_
          rintro e w1 ⟨v1, rfl, hown1, hb1⟩
          obtain ⟨a1, b1, rfl⟩ := hown1.shape
          have F1 := Fr.of_below hb1
          have HT1 := Lib.hid (H0.out.no F1)
          have HO1 := Lib.hid hown1
          have hW1 : W.heap.size ≤ w1.heap.size := F1.size
          have HF1 := Lib.hid (HF0.out.trans F1 (fun _ _ h => h))
          clear hown1 hb1 F1
          go_wp2_with fail
          generalize hU : w1.alloc _ = U1
          have FU1 : Fr No w1 U1 := by rw [← hU]; exact (Fr.refl _ _).alloc _
          have HX1 : Blk U1 w1.heap.size [.slice a1 q.length b1, .int .u32 rd, .int .u32 wt, .bool (!sr), .bool (!sw)] 41 := by rw [← hU]; exact Blk.new w1 _ _
          clear hU
          refine (state_calls P q rd wt sr sw U1 ((HT1.out.no FU1).pipe)).mono ?_
          rintro e w2 ⟨v2, rfl, hown2, hb2⟩
          obtain ⟨a2, b2, rfl⟩ := hown2.shape
          have F2 := Fr.of_below hb2
          have hX2 := HX1.fr F2 id
          have HT2 := Lib.hid ((HT1.out.no FU1).no F2)
          have HO2 := Lib.hid hown2
          have HOx2 := Lib.hid ((HO1.out.fr FU1 (fun _ _ => id)).fr F2 (fun _ _ => id))
          have hW2 : U1.heap.size ≤ w2.heap.size := F2.size
          have hW12 : w1.heap.size < U1.heap.size := HX1.lt
          have HF2 := Lib.hid ((HF1.out.trans FU1 (fun _ _ h => h)).trans F2 (fun _ _ h => h))
          clear hown2 hb2 F2 HX1 FU1
          have HX2 := Lib.hid hX2; clear hX2
          go_wp2_with fail
          generalize hU : w2.alloc _ = U2
          have FU2 : Fr No w2 U2 := by rw [← hU]; exact (Fr.refl _ _).alloc _
          have hY : Blk U2 w2.heap.size [.slice a2 q.length b2, .int .u32 rd, .int .u32 wt, .bool (!sr), .bool (!sw)] 41 := by rw [← hU]; exact Blk.new w2 _ _
          clear hU
          have hX := HX2.out.fr FU2 id
          have HT3 := Lib.hid (HT2.out.no FU2)
          have HOx := Lib.hid (HOx2.out.fr FU2 (fun _ _ => id))
          have HOy := Lib.hid (HO2.out.fr FU2 (fun _ _ => id))
          have HF3 := Lib.hid (HF2.out.trans FU2 (fun _ _ h => h))
          have hW3 : w2.heap.size < U2.heap.size := hY.lt
          have k0 := slots2 hX hY
          have HX := Lib.hid hX; clear hX
          have HY := Lib.hid hY; clear hY
          clear FU2
          have hbU : base ≤ W.heap.size := by omega
          have HRX := Lib.hid (HOx.out.base hbU)
          have HRY := Lib.hid (HOy.out.base (show base ≤ U1.heap.size by omega))
          have hxl : ∀ x, (Value.slice a1 q.length b1).ownBlock = some x → W.heap.size ≤ x ∧ x < w1.heap.size := fun x hx => HO1.out.lt x hx
          have hyl : ∀ x, (Value.slice a2 q.length b2).ownBlock = some x → U1.heap.size ≤ x ∧ x < w2.heap.size := fun x hx => HO2.out.lt x hx
          have hsl : ∀ x, ShFP B kv wv ks ws x → x < w.heap.size := H.out.shelf.lt
          have hrl : ∀ x, RefFP Q bv x → x < w.heap.size := H.out.ref.lt
          have HLX := Lib.hid (show ∀ x, (Value.slice a1 q.length b1).ownBlock = some x → ¬ ShFP B kv wv ks ws x from fun x hx hh => by have := hxl x hx; have := hsl x hh; omega)
          have HXR := Lib.hid (show ∀ x, (Value.slice a1 q.length b1).ownBlock = some x → ¬ RefFP Q bv x from fun x hx hh => by have := hxl x hx; have := hrl x hh; omega)
          have HYR := Lib.hid (show ∀ x, (Value.slice a2 q.length b2).ownBlock = some x → ¬ RefFP Q bv x from fun x hx hh => by have := hyl x hx; have := hrl x hh; omega)
          have HXN := Lib.hid (show ¬ (ShFP B kv wv ks ws w1.heap.size ∨ (Value.slice a1 q.length b1).ownBlock = some w1.heap.size) from fun hh => by
            rcases hh with h5 | h5
            · have := hsl _ h5; omega
            · have := hxl _ h5; omega)
          have HYN := Lib.hid (show ¬ (ShFP B kv wv ks ws w2.heap.size ∨ (Value.slice a1 q.length b1).ownBlock = some w2.heap.size) from fun hh => by
            rcases hh with h5 | h5
            · have := hsl _ h5; omega
            · have := hxl _ h5; omega)
          have HYO := Lib.hid (show ∀ x, (Value.slice a2 q.length b2).ownBlock = some x → ¬ (ShFP B kv wv ks ws x ∨ (Value.slice a1 q.length b1).ownBlock = some x) from fun x hx hh => by
            have := hyl x hx
            rcases hh with h5 | h5
            · have := hsl _ h5; omega
            · have := hxl _ h5; omega)
          have HLYof := Lib.hid (show ∀ (w6 : World) (kv' wv' : Value) (ks' ws' : List Value), (∀ k, ShFP B kv' wv' ks' ws' k → ShFP B kv wv ks ws k ∨ (Value.slice a1 q.length b1).ownBlock = some k ∨ w6.heap.size ≤ k) → U2.heap.size ≤ w6.heap.size →
              ∀ x, (Value.slice a2 q.length b2).ownBlock = some x → ¬ ShFP B kv' wv' ks' ws' x from fun w6 kv' wv' ks' ws' hfp hs x hx hh => by
            have := hyl x hx
            rcases hfp x hh with h5 | h5 | h5
            · have := hsl _ h5; omega
            · have := hxl _ h5; omega
            · omega)
          have HXNof := Lib.hid (show ∀ (w6 : World) (kv' wv' : Value) (ks' ws' : List Value), (∀ k, ShFP B kv' wv' ks' ws' k → ShFP B kv wv ks ws k ∨ (Value.slice a1 q.length b1).ownBlock = some k ∨ w6.heap.size ≤ k) → U2.heap.size ≤ w6.heap.size →
              ¬ (ShFP B kv' wv' ks' ws' w1.heap.size ∨ (Value.slice a2 q.length b2).ownBlock = some w1.heap.size) from fun w6 kv' wv' ks' ws' hfp hs hh => by
            rcases hh with h4 | h4
            · rcases hfp _ h4 with h5 | h5 | h5
              · have := hsl _ h5; omega
              · have := hxl _ h5; omega
              · omega
            · have := hyl _ h4; omega)
          have HYNof := Lib.hid (show ∀ (w6 : World) (kv' wv' : Value) (ks' ws' : List Value), (∀ k, ShFP B kv' wv' ks' ws' k → ShFP B kv wv ks ws k ∨ (Value.slice a1 q.length b1).ownBlock = some k ∨ w6.heap.size ≤ k) → U2.heap.size ≤ w6.heap.size →
              ¬ (ShFP B kv' wv' ks' ws' w2.heap.size ∨ (Value.slice a2 q.length b2).ownBlock = some w2.heap.size) from fun w6 kv' wv' ks' ws' hfp hs hh => by
            rcases hh with h4 | h4
            · rcases hfp _ h4 with h5 | h5 | h5
              · have := hsl _ h5; omega
              · have := hxl _ h5; omega
              · omega
            · have := hyl _ h4; omega)
          by_cases hqe : q = []
          · have hnx := HOx.out.2 hqe
            have hny := HOy.out.2 hqe
            subst hqe
            obtain ⟨rfl, rfl⟩ : a1 = none ∧ b1 = 0 := by simpa using hnx
            obtain ⟨rfl, rfl⟩ : a2 = none ∧ b2 = 0 := by simpa using hny
            have hne := nil_eq
            clear hnx hny k0
            have k0 := slots2 HX.out HY.out
            simp only [List.length_nil] at k0
            first
              | (go_region_held3 (fun w' => w'.cell? ⟨w1.heap.size, 0, none⟩ = some (.slice none 0 0) ∧ w'.cell? ⟨w1.heap.size, 1, none⟩ = some (.int .u32 rd) ∧ w'.cell? ⟨w1.heap.size, 2, none⟩ = some (.int .u32 wt) ∧ w'.cell? ⟨w1.heap.size, 3, none⟩ = some (.bool (!sr)) ∧ w'.cell? ⟨w1.heap.size, 4, none⟩ = some (.bool (!sw)) ∧ w'.cell? ⟨w2.heap.size, 0, none⟩ = some (.slice none 0 0) ∧ w'.cell? ⟨w2.heap.size, 1, none⟩ = some (.int .u32 rd) ∧ w'.cell? ⟨w2.heap.size, 2, none⟩ = some (.int .u32 wt) ∧ w'.cell? ⟨w2.heap.size, 3, none⟩ = some (.bool (!sr)) ∧ w'.cell? ⟨w2.heap.size, 4, none⟩ = some (.bool (!sw)))
                  (first
                    | go_keep
                    | exact k8
                    | exact k7
                    | exact k6
                    | exact k5
                    | exact k4
                    | exact k3)
                  (first
                    | (go_at_call 33; have hh := HPUT.out; refine (shelfput_calls base B kv' wv' ks' ws' Y' (n + 1) _ [] w7 HT7.out.shelf HRY7.out hq512 HLY.out (by omega) (by omega)).mono ?_; intro e w8 hp; have he : e = .returned (.bool true) := (by unfold ShelfPost at hp; obtain ⟨_, _, _, _, _, he, _⟩ := hp; exact he); subst he; obtain ⟨kv8, wv8, ks8, ws8, Y8, ht8, hfp8, hf8⟩ := trio_put HT7.out HRY7.out HYR.out hp; have HT8 := Lib.hid ht8; have HFP8 := Lib.hid hfp8; have HF8 := Lib.hid hf8; have k8 := slots2 (HX7.out.fr hf8 HXN8.out) (HY7.out.fr hf8 HYN8.out); clear hp ht8 hfp8 hf8 hh)
                    | (go_at_call 33; refine (shelfput_calls base B kv wv ks ws Y n _ [] w6 (HT3.out.no HG6.out).shelf (HRX.out.fr HG6.out (fun _ _ => id)).1 hq512 HLX.out (by omega) (by omega)).mono ?_; intro e w7 hp; have he : e = .returned (.bool true) := (by unfold ShelfPost at hp; obtain ⟨_, _, _, _, _, he, _⟩ := hp; exact he); subst he; obtain ⟨kv', wv', ks', ws', Y', ht7, hfp7, hf7⟩ := trio_put (HT3.out.no HG6.out) (HRX.out.fr HG6.out (fun _ _ => id)).1 HXR.out hp; have HT7 := Lib.hid ht7; have HFP7 := Lib.hid hfp7; have HF7 := Lib.hid hf7; have hx7 := (HX.out.fr HG6.out id).fr hf7 HXN.out; have hy7 := (HY.out.fr HG6.out id).fr hf7 HYN.out; have k7 := slots2 hx7 hy7; have HX7 := Lib.hid hx7; have HY7 := Lib.hid hy7; have HRY7 := Lib.hid ((HRY.out.fr HG6.out (fun _ _ => id)).fr hf7 HYO.out).1; have HLY := Lib.hid (HLYof.out _ _ _ _ _ hfp7 HG6.out.size); have HXN8 := Lib.hid (HXNof.out _ _ _ _ _ hfp7 HG6.out.size); have HYN8 := Lib.hid (HYNof.out _ _ _ _ _ hfp7 HG6.out.size); have HPUT := Lib.hid True.intro; clear hp ht7 hfp7 hf7 hx7 hy7)
                    | (go_at_call 16; have hh := HSAME.out; refine (refstate_calls base Q bv [] rd wt (!sr) (!sw) _ (HT3.out.no HG4.out).ref (by omega)).mono ?_; rintro e w5 ⟨v5, rfl, hown5, hb5⟩; obtain ⟨a5, b5, rfl⟩ := hown5.shape; have hf5 : Fr No U2 w5 := HG4.out.trans (Fr.of_below hb5) (fun _ _ h => h); have HG5 := Lib.hid hf5; have HB5 := Lib.hid (hown5.bsl (by omega)); have k5 := slots2 (HX.out.fr hf5 id) (HY.out.fr hf5 id); have HREF2 := Lib.hid True.intro; clear hown5 hb5 hf5 hh)
                    | (go_at_call 16; refine (refstate_calls base Q bv [] rd wt (!sr) (!sw) _ (HT3.out.no (Fr.refl No U2).drew).ref (by omega)).mono ?_; rintro e w3 ⟨v3, rfl, hown3, hb3⟩; obtain ⟨a3, b3, rfl⟩ := hown3.shape; have hf3 : Fr No U2 w3 := (Fr.refl No U2).drew.trans (Fr.of_below hb3) (fun _ _ h => h); have HG3 := Lib.hid hf3; have HB3 := Lib.hid (hown3.bsl (by omega)); have k3 := slots2 (HX.out.fr hf3 id) (HY.out.fr hf3 id); clear hown3 hb3 hf3)
                    | (go_at_call 14; have hh := HREF2.out; refine (same_calls [] _ _ rd wt _ _ w5 ((HRY.out.bsl (by omega)).no HG5.out) HB5.out).mono ?_; rintro e w6 ⟨rfl, hf6⟩; have hg6 : Fr No U2 w6 := HG5.out.trans hf6 (fun _ _ h => h); have HG6 := Lib.hid hg6; have k6 := slots2 (HX.out.fr hg6 id) (HY.out.fr hg6 id); clear hf6 hg6 hh)
                    | (go_at_call 14; refine (same_calls [] _ _ rd wt _ _ w3 ((HRX.out.bsl (by omega)).no HG3.out) HB3.out).mono ?_; rintro e w4 ⟨rfl, hf4⟩; have hg4 : Fr No U2 w4 := HG3.out.trans hf4 (fun _ _ h => h); have HG4 := Lib.hid hg4; have k4 := slots2 (HX.out.fr hg4 id) (HY.out.fr hg4 id); have HSAME := Lib.hid True.intro; clear hf4 hg4)))
              | fail
            rename_i hHeld
            clear hHeld
            have FIN := Lib.hid (show ActPost base P Q B bv kv wv ks ws n w (.returned (.bool true)) w8 from by
              have g6 := HG6.out.size
              have g7 := HF7.out.size
              have g3 := HF3.out.size
              have z7 : ∀ k, ShFP B kv' wv' ks' ws' k → ShFP B kv wv ks ws k ∨ w.heap.size ≤ k := fun k hk => by
                rcases HFP7.out k hk with h5 | h5 | h5
                · exact .inl h5
                · have := hxl k h5; exact .inr (by omega)
                · exact .inr (by omega)
              unfold ActPost
              refine ⟨bv, kv8, wv8, ks8, ws8, Y8, [], rd, wt, sr, sw, n + 1 + 1, rfl, HT8.out, by omega, fun x hx => .inl hx, fun x hx => ?_, ((((HF3.out.trans HG6.out (fun _ _ h => h)).mono (S' := fun k => k = P ∨ RefFP Q bv k ∨ ShFP B kv wv ks ws k) (fun _ h => h.elim)).trans HF7.out (fun x hx hh => ?_)).trans HF8.out (fun x hx hh => ?_))⟩
              · rcases HFP8.out x hx with h5 | h5 | h5
                · exact z7 x h5
                · have := hyl x h5; exact .inr (by omega)
                · exact .inr (by omega)
              · rcases hh with h5 | h5
                · exact .inr (.inr h5)
                · have := hxl x h5; omega
              · rcases hh with h5 | h5
                · rcases z7 x h5 with h6 | h6
                  · exact .inr (.inr h6)
                  · omega
                · have := hyl x h5; omega)
            go_wp2_with fail
            go_ret
            exact FIN.out
          · have hqp : 0 < q.length := List.length_pos_iff.2 hqe
            have hq8 : decide ((0 : Int) < (q.length : Int)) = true := by simp; omega
            have hq9 : decide ((q.length : Int) > 0) = true := by simp; omega
            refine wp_region_held_drew (S := (fun w' => w'.cell? ⟨w1.heap.size, 0, none⟩ = some (.slice a1 q.length b1) ∧ w'.cell? ⟨w1.heap.size, 1, none⟩ = some (.int .u32 rd) ∧ w'.cell? ⟨w1.heap.size, 2, none⟩ = some (.int .u32 wt) ∧ w'.cell? ⟨w1.heap.size, 3, none⟩ = some (.bool (!sr)) ∧ w'.cell? ⟨w1.heap.size, 4, none⟩ = some (.bool (!sw)) ∧ w'.cell? ⟨w2.heap.size, 0, none⟩ = some (.slice a2 q.length b2) ∧ w'.cell? ⟨w2.heap.size, 1, none⟩ = some (.int .u32 rd) ∧ w'.cell? ⟨w2.heap.size, 2, none⟩ = some (.int .u32 wt) ∧ w'.cell? ⟨w2.heap.size, 3, none⟩ = some (.bool (!sr)) ∧ w'.cell? ⟨w2.heap.size, 4, none⟩ = some (.bool (!sw)))) (by kernel_rfl) ?_ (fun hHeld => ?_)
            · (try dsimp only); go_keep
            refine wpAnyH_take (i := 0) (oi := ({ dst := some 121, op := Op.load 41 (Operand.tmp 19), type := 41, pos := "law.go:80", after := #[], guard := none } : Oper)) (v := ?_) rfl (by kernel_rfl) (by kernel_rfl) (by kernel_rfl) (fun _ _ _ h => h) (Or.inl ⟨by rfl, ?_⟩) (by assumption) ?_
            rotate_left
            · (intro w hSw; (try dsimp only at hSw); go_simp <;> with_reducible rfl)
            (try simp only [Act.put, List.setIfInBounds_toArray, List.set_cons_zero, List.set_cons_succ])
            refine wpAnyH_take (i := 1) (oi := ({ dst := some 122, op := Op.move (Operand.tmp 1), type := 27, pos := "law.go:80", after := #[], guard := none } : Oper)) (v := ?_) rfl (by kernel_rfl) (by kernel_rfl) (by kernel_rfl) (fun _ _ _ h => h) (Or.inl ⟨by rfl, ?_⟩) (by assumption) ?_
            rotate_left
            · (intro w hSw; (try dsimp only at hSw); go_simp <;> with_reducible rfl)
            (try simp only [Act.put, List.setIfInBounds_toArray, List.set_cons_zero, List.set_cons_succ])
            refine wpAnyH_ready (rs := [2]) (by kernel_rfl) (by simp) ?_
            refine AllReadyH.cons (o := ({ dst := some 123, op := Op.call { callee := Callee.value (Operand.func 16), args := #[Operand.tmp 122], argTypes := #[27] }, type := 41, pos := "law.go:80", after := #[{ on := 1, ground := Ground.data }], guard := none } : Oper)) rfl (fun K hK => ?_) AllReadyH.nil
            go_simp
            (go_at_call 16; refine (refstate_calls base Q bv q rd wt (!sr) (!sw) _ (HT3.out.no (Fr.refl No U2).drew).ref (by omega)).mono ?_; rintro e w3 ⟨v3, rfl, hown3, hb3⟩; obtain ⟨a3, b3, rfl⟩ := hown3.shape; have hf3 : Fr No U2 w3 := (Fr.refl No U2).drew.trans (Fr.of_below hb3) (fun _ _ h => h); have HG3 := Lib.hid hf3; have HB3 := Lib.hid (hown3.bsl (by omega)); have k3 := slots2 (HX.out.fr hf3 id) (HY.out.fr hf3 id); clear hown3 hb3 hf3)
            (try go_wp2_with fail)
            clear hHeld
            refine hK.out _ _ ?_ (fun hHeld => ?_)
            · (try dsimp only); exact k3
            clear hK K
            (try simp only [Act.put, List.setIfInBounds_toArray, List.set_cons_zero, List.set_cons_succ])
            refine wpAnyH_ready (rs := [3]) (by kernel_rfl) (by simp) ?_
            refine AllReadyH.cons (o := ({ dst := some 124, op := Op.call { callee := Callee.value (Operand.func 14), args := #[Operand.tmp 121, Operand.tmp 123], argTypes := #[41, 41] }, type := 4, pos := "law.go:80", after := #[{ on := 0, ground := Ground.data }, { on := 2, ground := Ground.data }, { on := 2, ground := Ground.chain }], guard := none } : Oper)) rfl (fun K hK => ?_) AllReadyH.nil
            go_simp
            (go_at_call 14; refine (same_calls q _ _ rd wt _ _ w3 ((HRX.out.bsl (by omega)).no HG3.out) HB3.out).mono ?_; rintro e w4 ⟨rfl, hf4⟩; have hg4 : Fr No U2 w4 := HG3.out.trans hf4 (fun _ _ h => h); have HG4 := Lib.hid hg4; have k4 := slots2 (HX.out.fr hg4 id) (HY.out.fr hg4 id); clear hf4 hg4)
            (try go_wp2_with fail)
            clear hHeld
            refine hK.out _ _ ?_ (fun hHeld => ?_)
            · (try dsimp only); exact k4
            clear hK K
            (try simp only [Act.put, List.setIfInBounds_toArray, List.set_cons_zero, List.set_cons_succ])
            refine wpAnyH_take (i := 4) (oi := ({ dst := some 125, op := Op.move (Operand.tmp 124), type := 4, pos := "law.go:80", after := #[{ on := 3, ground := Ground.data }, { on := 3, ground := Ground.chain }], guard := none } : Oper)) (v := ?_) rfl (by kernel_rfl) (by kernel_rfl) (by kernel_rfl) (fun _ _ _ h => h) (Or.inl ⟨by rfl, ?_⟩) (by assumption) ?_
            rotate_left
            · (intro w hSw; (try dsimp only at hSw); go_simp <;> with_reducible rfl)
            (try simp only [Act.put, List.setIfInBounds_toArray, List.set_cons_zero, List.set_cons_succ])
            refine wpAnyH_take (i := 5) (oi := ({ dst := some 126, op := Op.load 41 (Operand.tmp 20), type := 41, pos := "law.go:80", after := #[{ on := 4, ground := Ground.guard }], guard := some (4, true) } : Oper)) (v := ?_) rfl (by kernel_rfl) (by kernel_rfl) (by kernel_rfl) (fun _ _ _ h => h) (Or.inl ⟨by rfl, ?_⟩) (by assumption) ?_
            rotate_left
            · (intro w hSw; (try dsimp only at hSw); go_simp <;> with_reducible rfl)
            (try simp only [Act.put, List.setIfInBounds_toArray, List.set_cons_zero, List.set_cons_succ])
            refine wpAnyH_take (i := 6) (oi := ({ dst := some 127, op := Op.move (Operand.tmp 1), type := 27, pos := "law.go:80", after := #[{ on := 4, ground := Ground.guard }], guard := some (4, true) } : Oper)) (v := ?_) rfl (by kernel_rfl) (by kernel_rfl) (by kernel_rfl) (fun _ _ _ h => h) (Or.inl ⟨by rfl, ?_⟩) (by assumption) ?_
            rotate_left
            · (intro w hSw; (try dsimp only at hSw); go_simp <;> with_reducible rfl)
            (try simp only [Act.put, List.setIfInBounds_toArray, List.set_cons_zero, List.set_cons_succ])
            refine wpAnyH_ready (rs := [7]) (by kernel_rfl) (by simp) ?_
            refine AllReadyH.cons (o := ({ dst := some 128, op := Op.call { callee := Callee.value (Operand.func 16), args := #[Operand.tmp 127], argTypes := #[27] }, type := 41, pos := "law.go:80", after := #[{ on := 6, ground := Ground.data }, { on := 4, ground := Ground.chain }, { on := 4, ground := Ground.guard }], guard := some (4, true) } : Oper)) rfl (fun K hK => ?_) AllReadyH.nil
            go_simp
            (go_at_call 16; refine (refstate_calls base Q bv q rd wt (!sr) (!sw) _ (HT3.out.no HG4.out).ref (by omega)).mono ?_; rintro e w5 ⟨v5, rfl, hown5, hb5⟩; obtain ⟨a5, b5, rfl⟩ := hown5.shape; have hf5 : Fr No U2 w5 := HG4.out.trans (Fr.of_below hb5) (fun _ _ h => h); have HG5 := Lib.hid hf5; have HB5 := Lib.hid (hown5.bsl (by omega)); have k5 := slots2 (HX.out.fr hf5 id) (HY.out.fr hf5 id); clear hown5 hb5 hf5)
            (try go_wp2_with fail)
            clear hHeld
            refine hK.out _ _ ?_ (fun hHeld => ?_)
            · (try dsimp only); exact k5
            clear hK K
            (try simp only [Act.put, List.setIfInBounds_toArray, List.set_cons_zero, List.set_cons_succ])
            refine wpAnyH_ready (rs := [8]) (by kernel_rfl) (by simp) ?_
            refine AllReadyH.cons (o := ({ dst := some 129, op := Op.call { callee := Callee.value (Operand.func 14), args := #[Operand.tmp 126, Operand.tmp 128], argTypes := #[41, 41] }, type := 4, pos := "law.go:80", after := #[{ on := 5, ground := Ground.data }, { on := 7, ground := Ground.data }, { on := 7, ground := Ground.chain }, { on := 4, ground := Ground.guard }], guard := some (4, true) } : Oper)) rfl (fun K hK => ?_) AllReadyH.nil
            go_simp
            (go_at_call 14; refine (same_calls q _ _ rd wt _ _ w5 ((HRY.out.bsl (by omega)).no HG5.out) HB5.out).mono ?_; rintro e w6 ⟨rfl, hf6⟩; have hg6 : Fr No U2 w6 := HG5.out.trans hf6 (fun _ _ h => h); have HG6 := Lib.hid hg6; have k6 := slots2 (HX.out.fr hg6 id) (HY.out.fr hg6 id); clear hf6 hg6)
            (try go_wp2_with fail)
            clear hHeld
            refine hK.out _ _ ?_ (fun hHeld => ?_)
            · (try dsimp only); exact k6
            clear hK K
            (try simp only [Act.put, List.setIfInBounds_toArray, List.set_cons_zero, List.set_cons_succ])
            refine wpAnyH_take (i := 9) (oi := ({ dst := some 130, op := Op.pick (Operand.tmp 125) (Operand.tmp 129) (Operand.const (Value.bool false)), type := 4, pos := "law.go:80", after := #[{ on := 4, ground := Ground.data }, { on := 8, ground := Ground.data }], guard := none } : Oper)) (v := ?_) rfl (by kernel_rfl) (by kernel_rfl) (by kernel_rfl) (fun _ _ _ h => h) (Or.inl ⟨by rfl, ?_⟩) (by assumption) ?_
            rotate_left
            · (intro w hSw; (try dsimp only at hSw); go_simp <;> with_reducible rfl)
            (try simp only [Act.put, List.setIfInBounds_toArray, List.set_cons_zero, List.set_cons_succ])
            refine wpAnyH_take (i := 10) (oi := ({ dst := some 131, op := Op.move (Operand.tmp 130), type := 4, pos := "law.go:80", after := #[{ on := 9, ground := Ground.data }, { on := 8, ground := Ground.chain }], guard := none } : Oper)) (v := ?_) rfl (by kernel_rfl) (by kernel_rfl) (by kernel_rfl) (fun _ _ _ h => h) (Or.inl ⟨by rfl, ?_⟩) (by assumption) ?_
            rotate_left
            · (intro w hSw; (try dsimp only at hSw); go_simp <;> with_reducible rfl)
            (try simp only [Act.put, List.setIfInBounds_toArray, List.set_cons_zero, List.set_cons_succ])
            refine wpAnyH_take (i := 11) (oi := ({ dst := some 132, op := Op.fieldAddr 41 (Operand.tmp 19) 0, type := 0, pos := "law.go:80", after := #[{ on := 10, ground := Ground.guard }], guard := some (10, true) } : Oper)) (v := ?_) rfl (by kernel_rfl) (by kernel_rfl) (by kernel_rfl) (fun _ _ _ h => h) (Or.inl ⟨by rfl, ?_⟩) (by assumption) ?_
            rotate_left
            · (intro w hSw; (try dsimp only at hSw); go_simp <;> with_reducible rfl)
            (try simp only [Act.put, List.setIfInBounds_toArray, List.set_cons_zero, List.set_cons_succ])
            refine wpAnyH_take (i := 12) (oi := ({ dst := some 133, op := Op.load 34 (Operand.tmp 132), type := 34, pos := "law.go:80", after := #[{ on := 11, ground := Ground.data }, { on := 10, ground := Ground.guard }], guard := some (10, true) } : Oper)) (v := ?_) rfl (by kernel_rfl) (by kernel_rfl) (by kernel_rfl) (fun _ _ _ h => h) (Or.inl ⟨by rfl, ?_⟩) (by assumption) ?_
            rotate_left
            · (intro w hSw; (try dsimp only at hSw); go_simp <;> with_reducible rfl)
            (try simp only [Act.put, List.setIfInBounds_toArray, List.set_cons_zero, List.set_cons_succ])
            refine wpAnyH_take (i := 13) (oi := ({ dst := some 134, op := Op.call { callee := Callee.builtin Builtin.len, args := #[Operand.tmp 133], argTypes := #[34] }, type := 3, pos := "law.go:80", after := #[{ on := 12, ground := Ground.data }, { on := 10, ground := Ground.guard }], guard := some (10, true) } : Oper)) (v := ?_) rfl (by kernel_rfl) (by kernel_rfl) (by kernel_rfl) (fun _ _ _ h => h) (Or.inl ⟨by rfl, ?_⟩) (by assumption) ?_
            rotate_left
            · (intro w hSw; (try dsimp only at hSw); go_simp <;> with_reducible rfl)
            (try simp only [Act.put, List.setIfInBounds_toArray, List.set_cons_zero, List.set_cons_succ])
            refine wpAnyH_take (i := 14) (oi := ({ dst := some 135, op := Op.binOp BinOp.gtr 3 (Operand.tmp 134) (Operand.const (Value.int IntKind.i64 0)) 3, type := 4, pos := "law.go:80", after := #[{ on := 13, ground := Ground.data }, { on := 10, ground := Ground.guard }], guard := some (10, true) } : Oper)) (v := ?_) rfl (by kernel_rfl) (by kernel_rfl) (by kernel_rfl) (fun _ _ _ h => h) (Or.inl ⟨by rfl, ?_⟩) (by assumption) ?_
            rotate_left
            · (intro w hSw; (try dsimp only at hSw); go_simp <;> with_reducible rfl)
            (try simp only [Act.put, List.setIfInBounds_toArray, List.set_cons_zero, List.set_cons_succ])
            refine wpAnyH_take (i := 15) (oi := ({ dst := some 136, op := Op.move (Operand.tmp 135), type := 4, pos := "law.go:80", after := #[{ on := 14, ground := Ground.data }, { on := 10, ground := Ground.chain }, { on := 10, ground := Ground.guard }], guard := some (10, true) } : Oper)) (v := ?_) rfl (by kernel_rfl) (by kernel_rfl) (by kernel_rfl) (fun _ _ _ h => h) (Or.inl ⟨by rfl, ?_⟩) (by assumption) ?_
            rotate_left
            · (intro w hSw; (try dsimp only at hSw); go_simp <;> with_reducible rfl)
            (try simp only [Act.put, List.setIfInBounds_toArray, List.set_cons_zero, List.set_cons_succ])
            refine wpAnyH_take (i := 16) (oi := ({ dst := some 137, op := Op.fieldAddr 41 (Operand.tmp 19) 0, type := 0, pos := "law.go:80", after := #[{ on := 15, ground := Ground.guard }], guard := some (15, false) } : Oper)) (v := undef) rfl (by kernel_rfl) (by kernel_rfl) (by kernel_rfl) (fun _ _ _ h => h) (Or.inr ⟨by rfl, rfl⟩) (by assumption) ?_
            (try simp only [Act.put, List.setIfInBounds_toArray, List.set_cons_zero, List.set_cons_succ])
            refine wpAnyH_take (i := 17) (oi := ({ dst := some 138, op := Op.load 34 (Operand.tmp 137), type := 34, pos := "law.go:80", after := #[{ on := 16, ground := Ground.data }, { on := 15, ground := Ground.guard }], guard := some (15, false) } : Oper)) (v := undef) rfl (by kernel_rfl) (by kernel_rfl) (by kernel_rfl) (fun _ _ _ h => h) (Or.inr ⟨by rfl, rfl⟩) (by assumption) ?_
            (try simp only [Act.put, List.setIfInBounds_toArray, List.set_cons_zero, List.set_cons_succ])
            refine wpAnyH_take (i := 18) (oi := ({ dst := some 139, op := Op.binOp BinOp.eql 34 (Operand.tmp 138) (Operand.const (Value.slice none 0 0)) 34, type := 4, pos := "law.go:80", after := #[{ on := 17, ground := Ground.data }, { on := 15, ground := Ground.guard }], guard := some (15, false) } : Oper)) (v := undef) rfl (by kernel_rfl) (by kernel_rfl) (by kernel_rfl) (fun _ _ _ h => h) (Or.inr ⟨by rfl, rfl⟩) (by assumption) ?_
            (try simp only [Act.put, List.setIfInBounds_toArray, List.set_cons_zero, List.set_cons_succ])
            refine wpAnyH_take (i := 19) (oi := ({ dst := some 140, op := Op.pick (Operand.tmp 136) (Operand.const (Value.bool true)) (Operand.tmp 139), type := 4, pos := "law.go:80", after := #[{ on := 15, ground := Ground.data }, { on := 18, ground := Ground.data }, { on := 10, ground := Ground.guard }], guard := some (10, true) } : Oper)) (v := ?_) rfl (by kernel_rfl) (by kernel_rfl) (by kernel_rfl) (fun _ _ _ h => h) (Or.inl ⟨by rfl, ?_⟩) (by assumption) ?_
            rotate_left
            · (intro w hSw; (try dsimp only at hSw); go_simp <;> with_reducible rfl)
            (try simp only [Act.put, List.setIfInBounds_toArray, List.set_cons_zero, List.set_cons_succ])
            refine wpAnyH_take (i := 20) (oi := ({ dst := some 141, op := Op.pick (Operand.tmp 131) (Operand.tmp 140) (Operand.const (Value.bool false)), type := 4, pos := "law.go:80", after := #[{ on := 10, ground := Ground.data }, { on := 19, ground := Ground.data }], guard := none } : Oper)) (v := ?_) rfl (by kernel_rfl) (by kernel_rfl) (by kernel_rfl) (fun _ _ _ h => h) (Or.inl ⟨by rfl, ?_⟩) (by assumption) ?_
            rotate_left
            · (intro w hSw; (try dsimp only at hSw); go_simp <;> with_reducible rfl)
            (try simp only [Act.put, List.setIfInBounds_toArray, List.set_cons_zero, List.set_cons_succ])
            refine wpAnyH_take (i := 21) (oi := ({ dst := some 142, op := Op.move (Operand.tmp 141), type := 4, pos := "law.go:80", after := #[{ on := 20, ground := Ground.data }, { on := 15, ground := Ground.chain }], guard := none } : Oper)) (v := ?_) rfl (by kernel_rfl) (by kernel_rfl) (by kernel_rfl) (fun _ _ _ h => h) (Or.inl ⟨by rfl, ?_⟩) (by assumption) ?_
            rotate_left
            · (intro w hSw; (try dsimp only at hSw); go_simp <;> with_reducible rfl)
            (try simp only [Act.put, List.setIfInBounds_toArray, List.set_cons_zero, List.set_cons_succ])
            refine wpAnyH_take (i := 22) (oi := ({ dst := some 143, op := Op.move (Operand.tmp 3), type := 30, pos := "law.go:80", after := #[{ on := 21, ground := Ground.guard }], guard := some (21, true) } : Oper)) (v := ?_) rfl (by kernel_rfl) (by kernel_rfl) (by kernel_rfl) (fun _ _ _ h => h) (Or.inl ⟨by rfl, ?_⟩) (by assumption) ?_
            rotate_left
            · (intro w hSw; (try dsimp only at hSw); go_simp <;> with_reducible rfl)
            (try simp only [Act.put, List.setIfInBounds_toArray, List.set_cons_zero, List.set_cons_succ])
            refine wpAnyH_take (i := 23) (oi := ({ dst := some 144, op := Op.fieldAddr 41 (Operand.tmp 19) 0, type := 0, pos := "law.go:80", after := #[{ on := 21, ground := Ground.guard }], guard := some (21, true) } : Oper)) (v := ?_) rfl (by kernel_rfl) (by kernel_rfl) (by kernel_rfl) (fun _ _ _ h => h) (Or.inl ⟨by rfl, ?_⟩) (by assumption) ?_
            rotate_left
            · (intro w hSw; (try dsimp only at hSw); go_simp <;> with_reducible rfl)
            (try simp only [Act.put, List.setIfInBounds_toArray, List.set_cons_zero, List.set_cons_succ])
            refine wpAnyH_take (i := 24) (oi := ({ dst := some 145, op := Op.load 34 (Operand.tmp 144), type := 34, pos := "law.go:80", after := #[{ on := 23, ground := Ground.data }, { on := 21, ground := Ground.guard }], guard := some (21, true) } : Oper)) (v := ?_) rfl (by kernel_rfl) (by kernel_rfl) (by kernel_rfl) (fun _ _ _ h => h) (Or.inl ⟨by rfl, ?_⟩) (by assumption) ?_
            rotate_left
            · (intro w hSw; (try dsimp only at hSw); go_simp <;> with_reducible rfl)
            (try simp only [Act.put, List.setIfInBounds_toArray, List.set_cons_zero, List.set_cons_succ])
            refine wpAnyH_ready (rs := [25]) (by kernel_rfl) (by simp) ?_
            refine AllReadyH.cons (o := ({ dst := some 146, op := Op.call { callee := Callee.value (Operand.func 33), args := #[Operand.tmp 143, Operand.tmp 145], argTypes := #[30, 34] }, type := 4, pos := "law.go:80", after := #[{ on := 22, ground := Ground.data }, { on := 24, ground := Ground.data }, { on := 21, ground := Ground.chain }, { on := 21, ground := Ground.guard }], guard := some (21, true) } : Oper)) rfl (fun K hK => ?_) AllReadyH.nil
            go_simp
            (go_at_call 33; refine (shelfput_calls base B kv wv ks ws Y n _ q w6 (HT3.out.no HG6.out).shelf (HRX.out.fr HG6.out (fun _ _ => id)).1 hq512 HLX.out (by omega) (by omega)).mono ?_; intro e w7 hp; have he : e = .returned (.bool true) := (by unfold ShelfPost at hp; obtain ⟨_, _, _, _, _, he, _⟩ := hp; exact he); subst he; obtain ⟨kv', wv', ks', ws', Y', ht7, hfp7, hf7⟩ := trio_put (HT3.out.no HG6.out) (HRX.out.fr HG6.out (fun _ _ => id)).1 HXR.out hp; have HT7 := Lib.hid ht7; have HFP7 := Lib.hid hfp7; have HF7 := Lib.hid hf7; have hx7 := (HX.out.fr HG6.out id).fr hf7 HXN.out; have hy7 := (HY.out.fr HG6.out id).fr hf7 HYN.out; have k7 := slots2 hx7 hy7; have HX7 := Lib.hid hx7; have HY7 := Lib.hid hy7; have HRY7 := Lib.hid ((HRY.out.fr HG6.out (fun _ _ => id)).fr hf7 HYO.out).1; have HLY := Lib.hid (HLYof.out _ _ _ _ _ hfp7 HG6.out.size); have HXN8 := Lib.hid (HXNof.out _ _ _ _ _ hfp7 HG6.out.size); have HYN8 := Lib.hid (HYNof.out _ _ _ _ _ hfp7 HG6.out.size); clear hp ht7 hfp7 hf7 hx7 hy7)
            (try go_wp2_with fail)
            clear hHeld
            refine hK.out _ _ ?_ (fun hHeld => ?_)
            · (try dsimp only); exact k7
            clear hK K
            (try simp only [Act.put, List.setIfInBounds_toArray, List.set_cons_zero, List.set_cons_succ])
            refine wpAnyH_take (i := 26) (oi := ({ dst := some 147, op := Op.pick (Operand.tmp 142) (Operand.tmp 146) (Operand.const (Value.bool false)), type := 4, pos := "law.go:80", after := #[{ on := 21, ground := Ground.data }, { on := 25, ground := Ground.data }], guard := none } : Oper)) (v := ?_) rfl (by kernel_rfl) (by kernel_rfl) (by kernel_rfl) (fun _ _ _ h => h) (Or.inl ⟨by rfl, ?_⟩) (by assumption) ?_
            rotate_left
            · (intro w hSw; (try dsimp only at hSw); go_simp <;> with_reducible rfl)
            (try simp only [Act.put, List.setIfInBounds_toArray, List.set_cons_zero, List.set_cons_succ])
            refine wpAnyH_take (i := 27) (oi := ({ dst := some 148, op := Op.move (Operand.tmp 147), type := 4, pos := "law.go:80", after := #[{ on := 26, ground := Ground.data }, { on := 25, ground := Ground.chain }], guard := none } : Oper)) (v := ?_) rfl (by kernel_rfl) (by kernel_rfl) (by kernel_rfl) (fun _ _ _ h => h) (Or.inl ⟨by rfl, ?_⟩) (by assumption) ?_
            rotate_left
            · (intro w hSw; (try dsimp only at hSw); go_simp <;> with_reducible rfl)
            (try simp only [Act.put, List.setIfInBounds_toArray, List.set_cons_zero, List.set_cons_succ])
            refine wpAnyH_take (i := 28) (oi := ({ dst := some 149, op := Op.move (Operand.tmp 3), type := 30, pos := "law.go:80", after := #[{ on := 27, ground := Ground.guard }], guard := some (27, true) } : Oper)) (v := ?_) rfl (by kernel_rfl) (by kernel_rfl) (by kernel_rfl) (fun _ _ _ h => h) (Or.inl ⟨by rfl, ?_⟩) (by assumption) ?_
            rotate_left
            · (intro w hSw; (try dsimp only at hSw); go_simp <;> with_reducible rfl)
            (try simp only [Act.put, List.setIfInBounds_toArray, List.set_cons_zero, List.set_cons_succ])
            refine wpAnyH_take (i := 29) (oi := ({ dst := some 150, op := Op.fieldAddr 41 (Operand.tmp 20) 0, type := 0, pos := "law.go:80", after := #[{ on := 27, ground := Ground.guard }], guard := some (27, true) } : Oper)) (v := ?_) rfl (by kernel_rfl) (by kernel_rfl) (by kernel_rfl) (fun _ _ _ h => h) (Or.inl ⟨by rfl, ?_⟩) (by assumption) ?_
            rotate_left
            · (intro w hSw; (try dsimp only at hSw); go_simp <;> with_reducible rfl)
            (try simp only [Act.put, List.setIfInBounds_toArray, List.set_cons_zero, List.set_cons_succ])
            refine wpAnyH_take (i := 30) (oi := ({ dst := some 151, op := Op.load 34 (Operand.tmp 150), type := 34, pos := "law.go:80", after := #[{ on := 29, ground := Ground.data }, { on := 27, ground := Ground.guard }], guard := some (27, true) } : Oper)) (v := ?_) rfl (by kernel_rfl) (by kernel_rfl) (by kernel_rfl) (fun _ _ _ h => h) (Or.inl ⟨by rfl, ?_⟩) (by assumption) ?_
            rotate_left
            · (intro w hSw; (try dsimp only at hSw); go_simp <;> with_reducible rfl)
            (try simp only [Act.put, List.setIfInBounds_toArray, List.set_cons_zero, List.set_cons_succ])
            refine wpAnyH_ready (rs := [31]) (by kernel_rfl) (by simp) ?_
            refine AllReadyH.cons (o := ({ dst := some 152, op := Op.call { callee := Callee.value (Operand.func 33), args := #[Operand.tmp 149, Operand.tmp 151], argTypes := #[30, 34] }, type := 4, pos := "law.go:80", after := #[{ on := 28, ground := Ground.data }, { on := 30, ground := Ground.data }, { on := 27, ground := Ground.chain }, { on := 27, ground := Ground.guard }], guard := some (27, true) } : Oper)) rfl (fun K hK => ?_) AllReadyH.nil
            go_simp
            (go_at_call 33; refine (shelfput_calls base B kv' wv' ks' ws' Y' (n + 1) _ q w7 HT7.out.shelf HRY7.out hq512 HLY.out (by omega) (by omega)).mono ?_; intro e w8 hp; have he : e = .returned (.bool true) := (by unfold ShelfPost at hp; obtain ⟨_, _, _, _, _, he, _⟩ := hp; exact he); subst he; obtain ⟨kv8, wv8, ks8, ws8, Y8, ht8, hfp8, hf8⟩ := trio_put HT7.out HRY7.out HYR.out hp; have HT8 := Lib.hid ht8; have HFP8 := Lib.hid hfp8; have HF8 := Lib.hid hf8; have k8 := slots2 (HX7.out.fr hf8 HXN8.out) (HY7.out.fr hf8 HYN8.out); clear hp ht8 hfp8 hf8)
            (try go_wp2_with fail)
            clear hHeld
            refine hK.out _ _ ?_ (fun hHeld => ?_)
            · (try dsimp only); exact k8
            clear hK K
            (try simp only [Act.put, List.setIfInBounds_toArray, List.set_cons_zero, List.set_cons_succ])
            refine wpAnyH_take (i := 32) (oi := ({ dst := some 153, op := Op.pick (Operand.tmp 148) (Operand.tmp 152) (Operand.const (Value.bool false)), type := 4, pos := "law.go:80", after := #[{ on := 27, ground := Ground.data }, { on := 31, ground := Ground.data }], guard := none } : Oper)) (v := ?_) rfl (by kernel_rfl) (by kernel_rfl) (by kernel_rfl) (fun _ _ _ h => h) (Or.inl ⟨by rfl, ?_⟩) (by assumption) ?_
            rotate_left
            · (intro w hSw; (try dsimp only at hSw); go_simp <;> with_reducible rfl)
            (try simp only [Act.put, List.setIfInBounds_toArray, List.set_cons_zero, List.set_cons_succ])
            refine wpAnyH_take (i := 33) (oi := ({ dst := some 8, op := Op.assign (Operand.tmp 153), type := 4, pos := "law.go:80", after := #[{ on := 32, ground := Ground.data }, { on := 31, ground := Ground.chain }, { on := 0, ground := Ground.phase }, { on := 1, ground := Ground.phase }, { on := 2, ground := Ground.phase }, { on := 3, ground := Ground.phase }, { on := 4, ground := Ground.phase }, { on := 5, ground := Ground.phase }, { on := 6, ground := Ground.phase }, { on := 7, ground := Ground.phase }, { on := 8, ground := Ground.phase }, { on := 9, ground := Ground.phase }, { on := 10, ground := Ground.phase }, { on := 11, ground := Ground.phase }, { on := 12, ground := Ground.phase }, { on := 13, ground := Ground.phase }, { on := 14, ground := Ground.phase }, { on := 15, ground := Ground.phase }, { on := 16, ground := Ground.phase }, { on := 17, ground := Ground.phase }, { on := 18, ground := Ground.phase }, { on := 19, ground := Ground.phase }, { on := 20, ground := Ground.phase }, { on := 21, ground := Ground.phase }, { on := 22, ground := Ground.phase }, { on := 23, ground := Ground.phase }, { on := 24, ground := Ground.phase }, { on := 25, ground := Ground.phase }, { on := 26, ground := Ground.phase }, { on := 27, ground := Ground.phase }, { on := 28, ground := Ground.phase }, { on := 29, ground := Ground.phase }, { on := 30, ground := Ground.phase }, { on := 31, ground := Ground.phase }, { on := 32, ground := Ground.phase }], guard := none } : Oper)) (v := ?_) rfl (by kernel_rfl) (by kernel_rfl) (by kernel_rfl) (fun _ _ _ h => h) (Or.inl ⟨by rfl, ?_⟩) (by assumption) ?_
            rotate_left
            · (intro w hSw; (try dsimp only at hSw); go_simp <;> with_reducible rfl)
            (try simp only [Act.put, List.setIfInBounds_toArray, List.set_cons_zero, List.set_cons_succ])
            refine wpAnyH_done (by kernel_rfl) ?_ _
            clear hHeld
            have FIN := Lib.hid (show ActPost base P Q B bv kv wv ks ws n w (.returned (.bool true)) w8 from by
              have g6 := HG6.out.size
              have g7 := HF7.out.size
              have g3 := HF3.out.size
              have z7 : ∀ k, ShFP B kv' wv' ks' ws' k → ShFP B kv wv ks ws k ∨ w.heap.size ≤ k := fun k hk => by
                rcases HFP7.out k hk with h5 | h5 | h5
                · exact .inl h5
                · have := hxl k h5; exact .inr (by omega)
                · exact .inr (by omega)
              unfold ActPost
              refine ⟨bv, kv8, wv8, ks8, ws8, Y8, q, rd, wt, sr, sw, n + 1 + 1, rfl, HT8.out, by omega, fun x hx => .inl hx, fun x hx => ?_, ((((HF3.out.trans HG6.out (fun _ _ h => h)).mono (S' := fun k => k = P ∨ RefFP Q bv k ∨ ShFP B kv wv ks ws k) (fun _ h => h.elim)).trans HF7.out (fun x hx hh => ?_)).trans HF8.out (fun x hx hh => ?_))⟩
              · rcases HFP8.out x hx with h5 | h5 | h5
                · exact z7 x h5
                · have := hyl x h5; exact .inr (by omega)
                · exact .inr (by omega)
              · rcases hh with h5 | h5
                · exact .inr (.inr h5)
                · have := hxl x h5; omega
              · rcases hh with h5 | h5
                · rcases z7 x h5 with h6 | h6
                  · exact .inr (.inr h6)
                  · omega
                · have := hyl x h5; omega)
            go_wp2_with fail
            go_ret
            exact FIN.out
        · have e1 : (kd == 1) = false := by simp [h1]
          have e2 : (kd == 2) = false := by simp [h2]
          have e3 : (kd == 3) = false := by simp [h3]
          have e4 : (kd == 4) = false := by simp [h4]
          have FIN := Lib.hid (act_pair H.out H0.out.pipe H0.out.ref (fun x hx => .inl hx) (HF0.out.mono (fun _ h => h.elim)))
          go_wp2_with fail
          go_ret
          exact FIN.out

end Go.Proofs.Ytnfpjholmidnbaa
