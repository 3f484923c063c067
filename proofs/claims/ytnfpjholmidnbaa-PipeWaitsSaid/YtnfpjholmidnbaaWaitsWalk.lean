/- PipeWaits: the walk. No condition. -/
import Derived.Test.YtnfpjholmidnbaaActs
namespace Go.Proofs.Ytnfpjholmidnbaa
open Go.RowKit

/-- what holds at the head of PipeWaits' rounds -/
def WaitsInv (w : World) (P : Nat) (wr : World) : Prop := w.heap.size ≤ P ∧ Below w.heap.size w wr ∧ ∃ q rd wt sr sw, PipeAt wr P q rd wt sr sw

set_option maxRecDepth 100000 in
set_option maxHeartbeats 6400000 in
theorem waits_walk (acts : List ActD) (va : Value) (w : World) (ha : Acts w va acts) :
    Calls Try.prog 7 #[va] w fun e w' => e = .returned (.bool true) ∧ Below w.heap.size w w' := by
  have hlen := ha.len
  obtain ⟨ao, ac, rfl⟩ := ha.shape
  have HA := Lib.hid ha; clear ha
  go_enter Try.func7, Try.ntmps7
  go_wp2_with fail
  refine (works_calls w).mono ?_
  rintro e w1 ⟨rfl, hb1⟩
  have HB1 := Lib.hid hb1; clear hb1
  go_wp2_with fail
  refine (new_calls w1).mono ?_
  rintro e w2 ⟨rfl, hP, hb2⟩
  have hb2 := HB1.out.trans (hb2.mono HB1.out.size)
  obtain ⟨P, hPe⟩ : ∃ P, P = w1.heap.size := ⟨_, rfl⟩
  rw [← hPe] at hP ⊢
  have HI := Lib.hid (show WaitsInv w P w2 from ⟨by rw [hPe]; exact HB1.out.size, hb2, _, _, _, _, _, hP⟩)
  clear hb2 hP hPe
  go_wp2_with fail
  go_loopw [4] (fun i wr => ∃ k : Nat, k ≤ acts.length ∧ i = .int .i64 k ∧ WaitsInv w P wr) (fun i _ => acts.length - (intOf i).toNat)
  case atStart => exact ⟨0, Nat.zero_le _, rfl, HI.out⟩
  case round =>
    obtain ⟨k, hk, rfl, hinv⟩ := hrel
    by_cases hlt : k < acts.length
    · obtain ⟨hPw, hbel, q, rd, wt, sr, sw, hP⟩ := hinv
      obtain ⟨b, o, rfl, hbw, da, dc, hd, hI1, hI2, hI3, hcell⟩ := HA.out.get k hlt
      have HP := Lib.hid hP; clear hP
      have HC := Lib.hid hcell; clear hcell
      have HD := Lib.hid hd; clear hd
      have HB := Lib.hid hbel; clear hbel
      go_wp2_with fail
      refine (state_calls P q rd wt sr sw wr HP.out).mono ?_
      rintro e w3 ⟨sv, rfl, hown, hb3⟩
      obtain ⟨sa, sc, rfl⟩ := hown.shape
      have hF3 : Fr No w w3 := (Fr.of_below (HB.out.trans (hb3.mono HB.out.size)))
      have hP3 := HP.out.fr (Fr.of_below hb3) id
      have hbs := (hown.bsl (by have := hP3.bound; omega))
      clear hb3 hown
      have HP3 := Lib.hid hP3; clear hP3
      have HF3 := Lib.hid hF3; clear hF3
      have HBS := Lib.hid hbs; clear hbs
      have hcx := fun o => HC.out (w3.alloc o) (HF3.out.alloc o)
      have hq512 := HP3.out.bound
      generalize acts[k] = A at *
      obtain ⟨kd, wh, data, N⟩ := A
      simp only at *
      obtain ⟨G, hG⟩ : ∃ G, G = w3.heap.size := ⟨_, rfl⟩
      have hGP : P < G := by rw [hG]; exact HP3.out.lt
      have hwG : w.heap.size ≤ G := by rw [hG]; exact HF3.out.size
      have next : ∀ (w9 : World) (q9 : List Int) (a9 b9 : Int) (c9 d9 : Bool), PipeAt w9 P q9 a9 b9 c9 d9 → Below w.heap.size w w9 → WaitsInv w P w9 := fun _ _ _ _ _ _ h h' => ⟨hPw, h', _, _, _, _, _, h⟩
      have HN := Lib.hid next; clear next
      have HG := Lib.hid hG; clear hG
      by_cases h1 : kd = 1
      · subst h1
        go_wp2_with fail
        rw [← HG.out]
        generalize hW : w3.alloc _ = W at hcx ⊢
        have F0 : Fr No w3 W := by rw [← hW]; exact (Fr.refl _ _).alloc _
        have FW : Fr No w W := by rw [← hW]; exact HF3.out.alloc _
        have HS : Blk W G [.slice sa q.length sc, .int .u32 rd, .int .u32 wt, .bool (!sr), .bool (!sw)] 41 := by rw [← hW, HG.out]; exact Blk.new w3 _ _
        have hPW := HP3.out.fr F0 id
        clear hcx hW
        refine (lend_calls data _ W (HD.out.no FW)).mono ?_
        rintro e w4 ⟨v4, rfl, hlent, hb4⟩
        have hoff : v4.ownBlock ≠ some P := by
          obtain ⟨g, hg, rfl, _⟩ := hlent
          intro h; cases h
          have := hPW.lt; simp only at this; omega
        have hd4 := hlent.bsl HD.out.len
        obtain ⟨la, lc, rfl⟩ := hd4.shape
        have F4 := Fr.of_below hb4
        have hP4 := hPW.fr F4 id
        have hS4 := HS.fr F4 id
        have FW4 := FW.trans F4 (fun _ _ h => h)
        clear hb4 hlent hPW F0 HS F4
        have HP4 := Lib.hid hP4; clear hP4
        have HS4 := Lib.hid hS4; clear hS4
        have HD4 := Lib.hid hd4; clear hd4
        have HOF := Lib.hid hoff; clear hoff
        have HF4 := Lib.hid FW4; clear FW4 FW
        go_wp2_with fail
        refine (put_calls P q data rd wt sr sw _ w4 HP4.out HD4.out HOF.out).mono ?_
        rintro e w5 ⟨rfl, hP5, hf5⟩
        have hS5 := HS4.out.fr hf5 (by omega)
        obtain ⟨⟨s0, s1, s2, s3, s4⟩, f0, f1, f2, f3, f4⟩ := slot5 hS5
        have hb5 : Below w.heap.size w w5 := Fr.below_of HF4.out.below hf5 HF4.out.size (by rintro k rfl; omega)
        obtain ⟨x0, x1, x2, x3⟩ := HC.out w5 (Fr.of_below hb5)
        clear hf5
        have HS5 := Lib.hid hS5; clear hS5
        have HP5 := Lib.hid hP5; clear hP5
        have HB5 := Lib.hid hb5; clear hb5
        have hK1 : (putK data q sr : Nat) ≤ data.length := by unfold putK; split <;> omega
        by_cases hhow : putHow data q sr = 2
        · have hne : data ≠ [] := by intro h; simp [putHow, h] at hhow
          have hsr : sr = false := by cases sr; rfl; simp [putHow, hne] at hhow
          have hlt2 : putK data q sr < data.length := by
            refine Decidable.byContradiction fun h => ?_
            simp [putHow, hne, hsr] at hhow
            rw [hsr] at h; omega
          have hK2 : putK data q sr + q.length = 512 := by
            subst hsr
            have : putK data q false = min data.length (512 - q.length) := by simp [putK, hne]
            omega
          rw [hhow]
          obtain ⟨n, hn⟩ : ∃ n, n = putK data q sr := ⟨_, rfl⟩
          rw [← hn] at HP5 hlt2 hK2 hK1 ⊢
          clear hhow hn
          subst hsr
          go_wp2_with fail
          refine (take_calls P (q ++ data.take n) rd _ false sw 1 w5 HP5.out (by omega) (by omega)).mono ?_
          have hl : (q ++ data.take n).length = 512 := by simp; omega
          have hq1 : (q ++ data.take n) ≠ [] := by intro h; rw [h] at hl; simp at hl
          obtain ⟨q1, hq1e⟩ : ∃ q1, q1 = q ++ data.take n := ⟨_, rfl⟩
          rw [← hq1e] at hl hq1 ⊢
          clear hq1e
          have hk1 : takeK 1 q1 = 1 := by unfold takeK; simp; omega
          have hh1 : takeHow 1 q1 sw = 1 := by unfold takeHow; simp [hq1]
          rw [hk1, hh1]
          rintro e w6 ⟨v6, rfl, hown6, hP6, hf6⟩
          have hlt1 : (q1.take 1).length = 1 := by simp; omega
          obtain ⟨ma, mc, rfl⟩ := hown6.shape
          rw [hlt1]
          have hb6 : Below w.heap.size w w6 := Fr.below_of HB5.out hf6 HB5.out.size (by rintro k rfl; omega)
          obtain ⟨y0, y1, y2, y3⟩ := HC.out w6 (Fr.of_below hb6)
          have hS6 := HS5.out.fr hf6 (by omega)
          clear s0 s1 s2 s3 s4 f0 f1 f2 f3 f4
          obtain ⟨⟨s0, s1, s2, s3, s4⟩, f0, f1, f2, f3, f4⟩ := slot5 hS6
          have hd6 := HD.out.no (Fr.of_below hb6)
          have HS6 := Lib.hid hS6; clear hS6
          have HP6 := Lib.hid hP6; clear hP6
          have HB6 := Lib.hid hb6; clear hb6
          have HD6 := Lib.hid hd6; clear hd6
          clear hf6 hown6 hlt1 hk1 hh1 hq1
          have hdc := HD6.out.cap
          have hdc2 : n < dc := by omega
          have hsub := HD6.out.from n (by omega)
          obtain ⟨d2, hd2⟩ : ∃ d2, d2 = data.drop n := ⟨_, rfl⟩
          have hdl : d2.length + n = data.length := by rw [hd2]; simp; omega
          rw [← hd2] at hsub
          have HSU := Lib.hid hsub; clear hsub hd2
          obtain ⟨q2, hq2⟩ : ∃ q2, q2 = q1.drop 1 := ⟨_, rfl⟩
          have hql2 : q2.length = 511 := by rw [hq2]; simp; omega
          rw [← hq2] at HP6
          clear hq2 hl
          go_wp2_with fail
          all_goals
            refine (lend_calls d2 _ w6 HSU.out).mono ?_
            rintro e w7 ⟨v7, rfl, hlent, hb7⟩
            have hoff : v7.ownBlock ≠ some P := by
              obtain ⟨g, hg, rfl, _⟩ := hlent
              intro h; cases h
              have := HP6.out.lt; simp only at this; omega
            have hd7 := hlent.bsl HSU.out.len
            obtain ⟨la2, lc2, rfl⟩ := hd7.shape
            have F7 := Fr.of_below hb7
            have HP7 := Lib.hid (HP6.out.fr F7 id)
            have HD7 := Lib.hid hd7
            have HO7 := Lib.hid hoff
            have HB7 := Lib.hid (HB6.out.trans (hb7.mono HB6.out.size))
            clear hd7 hoff F7 hb7 hlent
            go_wp2_with fail
            refine (put_calls P q2 d2 _ _ false sw _ w7 HP7.out HD7.out HO7.out).mono ?_
            have hk2 : putK d2 q2 false = 1 := by
              have : d2 ≠ [] := by intro h; rw [h] at hdl; simp at hdl; omega
              simp [putK, this]; omega
            rw [hk2]
            rintro e w8 ⟨rfl, hP8, hf8⟩
            have HB8 := Lib.hid (show Below w.heap.size w w8 from Fr.below_of HB7.out hf8 HB7.out.size (by rintro k rfl; omega))
            have HP8 := Lib.hid hP8; clear hP8 hf8 hk2
            go_wp2_with fail
            go_roundw
            case rel => exact ⟨k + 1, by omega, by go_num, HN.out _ _ _ _ _ _ HP8.out HB8.out⟩
            case measure => simp [intOf]; omega
        · have e2 : (putHow data q sr == 2) = false := by simp [hhow]
          go_wp2_with fail
          go_roundw
          case rel => exact ⟨k + 1, by omega, by go_num, HN.out _ _ _ _ _ _ HP5.out HB5.out⟩
          case measure => simp [intOf]; omega
      · by_cases h2 : kd = 2
        · subst h2
          go_wp2_with fail
          rw [← HG.out]
          generalize hW : w3.alloc _ = W at hcx ⊢
          have F0 : Fr No w3 W := by rw [← hW]; exact (Fr.refl _ _).alloc _
          have FW : Fr No w W := by rw [← hW]; exact HF3.out.alloc _
          have HS : Blk W G [.slice sa q.length sc, .int .u32 rd, .int .u32 wt, .bool (!sr), .bool (!sw)] 41 := by rw [← hW, HG.out]; exact Blk.new w3 _ _
          have hPW := HP3.out.fr F0 id
          clear hcx hW
          refine (take_calls P q rd wt sr sw N W hPW hI3.1 hI3.2).mono ?_
          rintro e w4 ⟨v4, rfl, hown4, hP4, hf4⟩
          obtain ⟨la, lc, rfl⟩ := hown4.shape
          have hS4 := HS.fr hf4 (by omega)
          obtain ⟨⟨s0, s1, s2, s3, s4⟩, f0, f1, f2, f3, f4⟩ := slot5 hS4
          have hb4 : Below w.heap.size w w4 := Fr.below_of FW.below hf4 FW.size (by rintro k rfl; omega)
          obtain ⟨x0, x1, x2, x3⟩ := HC.out w4 (Fr.of_below hb4)
          clear hf4 hown4 hPW F0 HS
          have HS4 := Lib.hid hS4; clear hS4
          have HP4 := Lib.hid hP4; clear hP4
          have HB4 := Lib.hid hb4; clear hb4
          have hlt0 : (q.take (takeK N q)).length = takeK N q := by simp [takeK]; split <;> omega
          rw [hlt0]
          clear hlt0
          by_cases hN : N < 1
          · rw [show takeHow N q sw = 1 by simp [takeHow, hN]]
            have hN2 : decide (N > 0) = false := by simp; omega
            go_wp2_with fail
            go_roundw
            case rel => exact ⟨k + 1, by omega, by go_num, HN.out _ _ _ _ _ _ HP4.out HB4.out⟩
            case measure => simp [intOf]; omega
          · by_cases hq : q = []
            · subst hq
              rw [takeK_zero (.inr rfl)] at HP4 ⊢
              cases sw
              · rw [show takeHow N [] false = 2 by simp [takeHow, hN]]
                go_wp2_with fail
                go_roundw
                case rel => exact ⟨k + 1, by omega, by go_num, HN.out _ _ _ _ _ _ HP4.out HB4.out⟩
                case measure => simp [intOf]; omega
              · rw [show takeHow N [] true = 1 by simp [takeHow, hN]]
                go_wp2_with fail
                go_roundw
                case rel => exact ⟨k + 1, by omega, by go_num, HN.out _ _ _ _ _ _ HP4.out HB4.out⟩
                case measure => simp [intOf]; omega
            · have hz : ((q.length : Int) == 0) = false := by
                have := List.length_pos_iff.2 hq
                simp; omega
              rw [show takeHow N q sw = 1 by simp [takeHow, hN, hq]]
              go_wp2_with fail
              go_roundw
              case rel => exact ⟨k + 1, by omega, by go_num, HN.out _ _ _ _ _ _ HP4.out HB4.out⟩
              case measure => simp [intOf]; omega
        · by_cases h3 : kd = 3
          · subst h3
            go_wp2_with fail
            generalize hW : w3.alloc _ = W at hcx ⊢
            have F0 : Fr No w3 W := by rw [← hW]; exact (Fr.refl _ _).alloc _
            have FW : Fr No w W := by rw [← hW]; exact HF3.out.alloc _
            have hPW := HP3.out.fr F0 id
            clear hcx hW
            refine (shut_calls P q rd wt sr sw _ W hPW).mono ?_
            rintro e w4 ⟨rfl, hP4, hf4⟩
            have hb4 : Below w.heap.size w w4 := Fr.below_of FW.below hf4 FW.size (by rintro k rfl; omega)
            have HP4 := Lib.hid hP4; clear hP4
            have HB4 := Lib.hid hb4; clear hb4
            clear hf4 hPW F0
            go_wp2_with fail
            go_roundw
            case rel => exact ⟨k + 1, by omega, by go_num, HN.out _ _ _ _ _ _ HP4.out HB4.out⟩
            case measure => simp [intOf]; omega
          · have e1 : (kd == 1) = false := by simp [h1]
            have e2 : (kd == 2) = false := by simp [h2]
            have e3 : (kd == 3) = false := by simp [h3]
            have hPW := HP3.out.fr ((Fr.refl No w3).alloc (.cells #[.slice sa q.length sc, .int .u32 rd, .int .u32 wt, .bool (!sr), .bool (!sw)] 41)) id
            have FW := (HF3.out.alloc (.cells #[.slice sa q.length sc, .int .u32 rd, .int .u32 wt, .bool (!sr), .bool (!sw)] 41)).below
            have HP4 := Lib.hid hPW; clear hPW
            have HB4 := Lib.hid FW; clear FW
            go_wp2_with fail
            go_roundw
            case rel => exact ⟨k + 1, by omega, by go_num, HN.out _ _ _ _ _ _ HP4.out HB4.out⟩
            case measure => simp [intOf]; omega
    · have he : k = acts.length := by omega
      subst he
      obtain ⟨_, hbel, _⟩ := hinv
      have HB := Lib.hid hbel; clear hbel
      go_wp2_with fail
      go_ret
      exact ⟨rfl, HB.out⟩

end Go.Proofs.Ytnfpjholmidnbaa
