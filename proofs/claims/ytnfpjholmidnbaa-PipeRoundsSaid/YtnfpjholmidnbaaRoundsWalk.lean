/- PipeRounds: the walk. No condition. -/
import Derived.Test.YtnfpjholmidnbaaJoinsLaw
import Derived.Deep.LoopGhost
namespace Go.Proofs.Ytnfpjholmidnbaa
open Go.RowKit

/-- two pipes that differ by 'by_' in their counts -/
def Apart (w0 : World) (P Q : Nat) (by_ : Int) (W : World) : Prop :=
  Below w0.heap.size w0 W ∧ ∃ ql r1 r2 s1 s2, PipeAt W P ql r1 r2 s1 s2 ∧ PipeAt W Q ql ((r1 + by_) % 4294967296) ((r2 + by_) % 4294967296) s1 s2

theorem sound_more {q : List Int} {rd wr by_ : Int} : Sound q ((rd + by_) % 4294967296) ((wr + by_) % 4294967296) ↔ Sound q rd wr := by
  unfold Sound
  rw [IntKind.wrap_u32, IntKind.wrap_u32]
  have : ((wr + by_) % 4294967296 - (rd + by_) % 4294967296) % 4294967296 = (wr - rd) % 4294967296 := by omega
  rw [this]

set_option maxRecDepth 100000 in
set_option maxHeartbeats 6400000 in
theorem rounds_walk (qs : List Int) (vs va : Value) (rd wr by_ : Int) (ar aw : Bool) (acts : List ActD) (w : World) (hq : BSl w vs qs) (ha : Acts w va acts)
    (hr : 0 ≤ rd ∧ rd < 4294967296 ∧ 0 ≤ wr ∧ wr < 4294967296) (hby : 0 ≤ by_ ∧ by_ < 4294967296) :
    Calls Try.prog 10 #[.agg #[vs, .int .u32 rd, .int .u32 wr, .bool ar, .bool aw], .int .u32 by_, va] w fun e w' => e = .returned (.bool true) ∧ Below w.heap.size w w' := by
  obtain ⟨so, sc, rfl⟩ := hq.shape
  have hlen := ha.len
  obtain ⟨ao, ac, rfl⟩ := ha.shape
  have HQ := Lib.hid hq; clear hq
  have HA := Lib.hid ha; clear ha
  go_enter Try.func10, Try.ntmps10
  go_wp2_with fail
  generalize hW : w.alloc _ = W
  have F0 : Fr No w W := by rw [← hW]; exact (Fr.refl _ _).alloc _
  have HS : Blk W w.heap.size [.slice so qs.length sc, .int .u32 rd, .int .u32 wr, .bool ar, .bool aw] 41 := by rw [← hW]; exact Blk.new w _ _
  clear hW
  refine (works_calls W).mono ?_
  rintro e w1 ⟨rfl, hb1⟩
  have F1 := Fr.of_below hb1
  have hS1 := HS.fr F1 id
  obtain ⟨⟨s0, s1, s2, s3, s4⟩, f0, f1, f2, f3, f4⟩ := slot5 hS1
  have hsl := hS1.lt
  have HS1 := Lib.hid hS1; clear hS1
  have FW := Lib.hid (F0.trans F1 (fun _ _ h => h))
  clear hb1 F1 F0 HS
  have hw1 : w.heap.size ≠ w1.heap.size := by omega
  go_wp2_with fail
  generalize hW : w1.alloc _ = W2
  have F0 : Fr No w1 W2 := by rw [← hW]; exact (Fr.refl _ _).alloc _
  have hT : Blk W2 w1.heap.size [.slice so qs.length sc, .int .u32 ((rd + by_) % 4294967296), .int .u32 ((wr + by_) % 4294967296), .bool ar, .bool aw] 41 := by rw [← hW]; exact Blk.new w1 _ _
  clear hW s0 s1 s2 s3 s4 f0 f1 f2 f3 f4
  have FW2 := Lib.hid (FW.out.trans F0 (fun _ _ h => h))
  have hTl := hT.lt
  have HT := Lib.hid hT; clear hT F0
  by_cases hs : Sound qs rd wr
  · have HS2 := Lib.hid (sound_more (by_ := by_) |>.2 hs)
    have HS := Lib.hid hs; clear hs
    refine (from_calls qs _ rd wr ar aw W2 (HQ.out.no FW2.out) hr HS.out).mono ?_
    rintro e w3 ⟨P, rfl, hp1, hP, hb3⟩
    obtain ⟨⟨s0, s1, s2, s3, s4⟩, _⟩ := slot5 (HT.out.fr (Fr.of_below hb3) id)
    have FW3 := Lib.hid (FW2.out.trans (Fr.of_below hb3) (fun _ _ h => h))
    have HP := Lib.hid hP; clear hP hb3
    go_wp2_with fail
    refine (from_calls qs _ ((rd + by_) % 4294967296) ((wr + by_) % 4294967296) ar aw w3 (HQ.out.no FW3.out) (by omega) HS2.out).mono ?_
    rintro e w4 ⟨Q, rfl, hq1, hQ, hb4⟩
    have hPl := HP.out.lt
    have hne : P ≠ Q := by omega
    have hwP : w.heap.size ≤ P := Nat.le_trans FW2.out.size hp1
    have hwQ : w.heap.size ≤ Q := Nat.le_trans FW3.out.size hq1
    have HI := Lib.hid (show Apart w P Q by_ w4 from ⟨(FW3.out.trans (Fr.of_below hb4) (fun _ _ h => h)).below, _, _, _, _, _, HP.out.fr (Fr.of_below hb4) id, hQ⟩)
    clear hQ hb4 s0 s1 s2 s3 s4
    go_wp2_with fail
    go_loopg [12] acts.length (fun g i wx => ∃ k : Nat, k ≤ acts.length ∧ g = acts.length - k ∧ i = .int .i64 k ∧ Apart w P Q by_ wx)
    case atStart => exact ⟨0, Nat.zero_le _, rfl, rfl, HI.out⟩
    case round =>
      obtain ⟨k, hk, rfl, rfl, hbel, q, r1, r2, sr, sw, hP, hQ⟩ := hrel
      have hq512 := hP.bound
      have HB := Lib.hid (Fr.of_below hbel); clear hbel
      have HPx := Lib.hid hP; clear hP
      have HQx := Lib.hid hQ; clear hQ
      by_cases hlt : k < acts.length
      · obtain ⟨b, o, rfl, hbw, da, dc, hd, hI1, hI2, hI3, hcell⟩ := HA.out.get k hlt
        have HC := Lib.hid hcell; clear hcell
        have HD := Lib.hid hd; clear hd
        generalize acts[k] = A at *
        obtain ⟨kd, wh, data, N⟩ := A
        simp only at *
        obtain ⟨c0, c1, c2, c3⟩ := HC.out _ HB.out
        by_cases h1 : kd = 1
        · subst h1
          go_wp2_with fail
          refine (lend_calls data _ _ (HD.out.no HB.out)).mono ?_
          rintro e w5 ⟨v5, rfl, hlent, hb5⟩
          obtain ⟨⟨la, lc, rfl⟩, hd5, hoff5⟩ := lent_facts hlent HD.out.len
          have hPl := HPx.out.lt
          have F5 := Fr.of_below hb5
          have HP5 := Lib.hid (HPx.out.fr F5 id)
          have HQ5 := Lib.hid (HQx.out.fr F5 id)
          have FB5 := Lib.hid (HB.out.trans F5 (fun _ _ h => h))
          have HD5 := Lib.hid hd5; clear hd5
          have HO5 := Lib.hid (hoff5 P hPl)
          clear hoff5 hlent hb5 F5
          go_wp2_with fail
          refine (put_calls P q data r1 r2 sr sw _ w5 HP5.out HD5.out HO5.out).mono ?_
          obtain ⟨n, hn⟩ : ∃ n, n = putK data q sr := ⟨_, rfl⟩
          obtain ⟨how, hhow⟩ : ∃ h, h = putHow data q sr := ⟨_, rfl⟩
          rw [← hn, ← hhow]
          have HN := Lib.hid hn; clear hn
          have HH := Lib.hid hhow; clear hhow
          rintro e w6 ⟨rfl, hP6, hf6⟩
          have HP6 := Lib.hid hP6; clear hP6
          have HQ6 := Lib.hid (HQ5.out.fr hf6 (fun h => hne h.symm))
          have FB6 := Lib.hid (Fr.of_below (Fr.below_of FB5.out.below hf6 FB5.out.size (by rintro k rfl; exact hwP)))
          obtain ⟨x0, x1, x2, x3⟩ := HC.out _ FB6.out
          clear hf6
          go_wp2_with fail
          refine (lend_calls data _ w6 (HD.out.no FB6.out)).mono ?_
          rintro e w7 ⟨v7, rfl, hlent, hb7⟩
          obtain ⟨⟨lb, ld, rfl⟩, hd7, hoff7⟩ := lent_facts hlent HD.out.len
          have hQl := HQ6.out.lt
          have F7 := Fr.of_below hb7
          have HP7 := Lib.hid (HP6.out.fr F7 id)
          have HQ7 := Lib.hid (HQ6.out.fr F7 id)
          have FB7 := Lib.hid (FB6.out.trans F7 (fun _ _ h => h))
          have HD7 := Lib.hid hd7; clear hd7
          have HO7 := Lib.hid (hoff7 Q hQl)
          clear hoff7 hlent hb7 F7
          go_wp2_with fail
          refine (put_calls Q q data _ _ sr sw _ w7 HQ7.out HD7.out HO7.out).mono ?_
          rw [← HN.out, ← HH.out]
          rintro e w8 ⟨rfl, hQ8, hf8⟩
          have HP8 := Lib.hid (HP7.out.fr hf8 hne)
          have FB8 := Lib.hid (Fr.below_of FB7.out.below hf8 FB7.out.size (by rintro k rfl; exact hwQ))
          rw [show ((r2 + by_) % 4294967296 + (n : Int)) % 4294967296 = ((r2 + (n : Int)) % 4294967296 + by_) % 4294967296 by omega] at hQ8
          have HQ8 := Lib.hid hQ8; clear hQ8 hf8
          have hz1 : ((n : Int) != (n : Int)) = false := by simp
          have hz2 : (how != how) = false := by simp
          go_wp2_with fail
          go_roundg (acts.length - (k + 1))
          case measure => omega
          case rel => exact ⟨k + 1, by omega, rfl, by go_num, FB8.out, _, _, _, _, _, HP8.out, HQ8.out⟩
        · by_cases h2 : kd = 2
          · subst h2
            go_wp2_with fail
            refine (take_calls P q r1 r2 sr sw N _ HPx.out hI3.1 hI3.2).mono ?_
            obtain ⟨K, hK⟩ : ∃ K, K = takeK N q := ⟨_, rfl⟩
            obtain ⟨how, hhow⟩ : ∃ h, h = takeHow N q sw := ⟨_, rfl⟩
            rw [← hK, ← hhow]
            obtain ⟨tk, htk⟩ : ∃ tk, tk = q.take K := ⟨_, rfl⟩
            have htl : tk.length ≤ 512 := by rw [htk]; simp; omega
            rw [← htk]
            have HT1 := Lib.hid htk; clear htk
            have HK := Lib.hid hK; clear hK
            have HH := Lib.hid hhow; clear hhow
            rintro e w5 ⟨v5, rfl, hown5, hP5, hf5⟩
            have hPl := HPx.out.lt
            have hQl := HQx.out.lt
            obtain ⟨la, lc, rfl⟩ := hown5.shape
            have HO5 := Lib.hid hown5; clear hown5
            have HP5 := Lib.hid hP5; clear hP5
            have HQ5 := Lib.hid (HQx.out.fr hf5 (fun h => hne h.symm))
            have FB5 := Lib.hid (Fr.of_below (Fr.below_of HB.out.below hf5 HB.out.size (by rintro k rfl; exact hwP)))
            obtain ⟨x0, x1, x2, x3⟩ := HC.out _ FB5.out
            clear hf5
            go_wp2_with fail
            refine (take_calls Q q _ _ sr sw N w5 HQ5.out hI3.1 hI3.2).mono ?_
            rw [← HK.out, ← HH.out, ← HT1.out]
            rintro e w6 ⟨v6, rfl, hown6, hQ6, hf6⟩
            obtain ⟨lb, ld, rfl⟩ := hown6.shape
            have HX6 := Lib.hid ((HO5.out.fr hf6 (fun g hg hh => by have := (HO5.out.lt g hg).1; omega)).bsl (by omega))
            have HY6 := Lib.hid (hown6.bsl (by omega))
            have HP6 := Lib.hid (HP5.out.fr hf6 hne)
            have FB6 := Lib.hid (Fr.below_of FB5.out.below hf6 FB5.out.size (by rintro k rfl; exact hwQ))
            rw [show ((r1 + by_) % 4294967296 + (K : Int)) % 4294967296 = ((r1 + (K : Int)) % 4294967296 + by_) % 4294967296 by omega] at hQ6
            have HQ6 := Lib.hid hQ6; clear hQ6 hf6 hown6
            have hz2 : (how != how) = false := by simp
            go_wp2_with fail
            refine (bytes_calls tk tk _ _ w6 HX6.out HY6.out).mono ?_
            rintro e w7 ⟨rfl, nn, rfl⟩
            rw [show decide (tk = tk) = true from decide_eq_true rfl]
            have F7 := Lib.hid ((Fr.refl No w6).drewN nn)
            go_wp2_with fail
            go_roundg (acts.length - (k + 1))
            case measure => omega
            case rel => exact ⟨k + 1, by omega, rfl, by go_num, (Fr.of_below FB6.out |>.trans F7.out (fun _ _ h => h)).below, _, _, _, _, _, HP6.out.fr F7.out id, HQ6.out.fr F7.out id⟩
          · by_cases h3 : kd = 3
            · subst h3
              go_wp2_with fail
              refine (shut_calls P q _ _ sr sw _ _ HPx.out).mono ?_
              rintro e w5 ⟨rfl, hP5, hf5⟩
              have HP5 := Lib.hid hP5; clear hP5
              have HQ5 := Lib.hid (HQx.out.fr hf5 (fun h => hne h.symm))
              have FB5 := Lib.hid (Fr.of_below (Fr.below_of HB.out.below hf5 HB.out.size (by rintro k rfl; exact hwP)))
              obtain ⟨x0, x1, x2, x3⟩ := HC.out _ FB5.out
              clear hf5
              go_wp2_with fail
              refine (shut_calls Q q _ _ sr sw _ w5 HQ5.out).mono ?_
              rintro e w6 ⟨rfl, hQ6, hf6⟩
              have HP6 := Lib.hid (HP5.out.fr hf6 hne)
              have FB6 := Lib.hid (Fr.below_of FB5.out.below hf6 FB5.out.size (by rintro k rfl; exact hwQ))
              have HQ6 := Lib.hid hQ6; clear hQ6 hf6
              go_wp2_with fail
              go_roundg (acts.length - (k + 1))
              case measure => omega
              case rel => exact ⟨k + 1, by omega, rfl, by go_num, FB6.out, _, _, _, _, _, HP6.out, HQ6.out⟩
            · have e1 : (kd == 1) = false := by simp [h1]
              have e2 : (kd == 2) = false := by simp [h2]
              have e3 : (kd == 3) = false := by simp [h3]
              go_wp2_with fail
              go_roundg (acts.length - (k + 1))
              case measure => omega
              case rel => exact ⟨k + 1, by omega, rfl, by go_num, HB.out.below, _, _, _, _, _, HPx.out, HQx.out⟩
      · have he : k = acts.length := by omega
        subst he
        go_wp2_with fail
        refine (state_calls P q r1 r2 sr sw _ HPx.out).mono ?_
        rintro e wa1 ⟨sv1, rfl, hown1, hba1⟩
        obtain ⟨xa1, xc1, rfl⟩ := hown1.shape
        have FA1 := Lib.hid (Fr.of_below hba1)
        have HS1 := Lib.hid (hown1.bsl (by omega))
        clear hown1 hba1
        go_wp2_with fail
        refine (state_calls Q q _ _ sr sw wa1 (HQx.out.fr FA1.out id)).mono ?_
        rintro e wa2 ⟨sv2, rfl, hown2, hba2⟩
        obtain ⟨xa2, xc2, rfl⟩ := hown2.shape
        have FA2 := Lib.hid (Fr.of_below hba2)
        have HS2 := Lib.hid (hown2.bsl (by omega))
        clear hown2 hba2
        go_wp2_with fail
        generalize hW2 : (wa2.alloc _).alloc _ = W9
        have F9 : Fr No wa2 W9 := by rw [← hW2]; exact ((Fr.refl _ _).alloc _).alloc _
        clear hW2
        refine (same_calls q _ _ _ _ _ _ W9 ((HS1.out.no FA2.out).no F9) (HS2.out.no F9)).mono ?_
        rintro e wa3 ⟨rfl, hfa3⟩
        have FIN := Lib.hid ((((HB.out.trans FA1.out (fun _ _ h => h)).trans FA2.out (fun _ _ h => h)).trans F9 (fun _ _ h => h)).trans hfa3 (fun _ _ h => h))
        clear hfa3 F9
        go_wp2_with fail
        go_ret
        exact ⟨rfl, FIN.out.below⟩
  · have HS2 := Lib.hid (fun h => hs ((sound_more (by_ := by_)).1 h))
    have HS := Lib.hid hs; clear hs
    refine (from_bad qs _ rd wr ar aw W2 (HQ.out.no FW2.out) HS.out).mono ?_
    rintro e w3 ⟨i3, rfl, _, hb3⟩
    obtain ⟨⟨s0, s1, s2, s3, s4⟩, _⟩ := slot5 (HT.out.fr (Fr.of_below hb3) id)
    have FW3 := Lib.hid (FW2.out.trans (Fr.of_below hb3) (fun _ _ h => h))
    clear hb3
    go_wp2_with fail
    refine (from_bad qs _ ((rd + by_) % 4294967296) ((wr + by_) % 4294967296) ar aw w3 (HQ.out.no FW3.out) HS2.out).mono ?_
    rintro e w4 ⟨i4, rfl, _, hb4⟩
    have FW4 := Lib.hid (FW3.out.trans (Fr.of_below hb4) (fun _ _ h => h))
    clear hb4 s0 s1 s2 s3 s4
    go_wp2_with fail
    go_ret
    exact ⟨rfl, FW4.out.below⟩

end Go.Proofs.Ytnfpjholmidnbaa
