/- PipeJoins: the walk, where a and b together are of at most 1048576 bytes. -/
import Derived.Test.YtnfpjholmidnbaaJoinsLaw
import Derived.Deep.DeepCutAuto
import Derived.Deep.CutBlock
namespace Go.Proofs.Ytnfpjholmidnbaa
open Go.RowKit

/-- two pipes of one state -/
def Twins (w0 : World) (W : World) (p q : Value) : Prop :=
  ∃ P Q, p = .pointer (some ⟨P, 0, none⟩) ∧ q = .pointer (some ⟨Q, 0, none⟩) ∧ P ≠ Q ∧ w0.heap.size ≤ P ∧ w0.heap.size ≤ Q ∧ Below w0.heap.size w0 W ∧
    ∃ ql r1 r2 s1 s2, PipeAt W P ql r1 r2 s1 s2 ∧ PipeAt W Q ql r1 r2 s1 s2

theorem Twins.mk {w0 W : World} {P Q : Nat} {q : List Int} {rd wr : Int} {ar aw : Bool} (h1 : w0.heap.size ≤ P) (h2 : w0.heap.size ≤ Q) (hne : P ≠ Q) (hb : Below w0.heap.size w0 W)
    (hP : MadeAt W P q rd wr ar aw) (hQ : MadeAt W Q q rd wr ar aw) : Twins w0 W (.pointer (some ⟨P, 0, none⟩)) (.pointer (some ⟨Q, 0, none⟩)) := by
  refine ⟨P, Q, rfl, rfl, hne, h1, h2, hb, ?_⟩
  rcases hP with ⟨a, hP⟩ | ⟨a, hP⟩ <;> rcases hQ with ⟨b, hQ⟩ | ⟨b, hQ⟩
  · exact ⟨_, _, _, _, _, hP, hQ⟩
  · exact absurd a b
  · exact absurd b a
  · exact ⟨_, _, _, _, _, hP, hQ⟩

theorem MadeAt.fr {w w' : World} {P : Nat} {q : List Int} {rd wr : Int} {ar aw : Bool} (h : MadeAt w P q rd wr ar aw) (hf : Fr No w w') : MadeAt w' P q rd wr ar aw := by
  rcases h with ⟨a, h⟩ | ⟨a, h⟩
  · exact .inl ⟨a, h.fr hf id⟩
  · exact .inr ⟨a, h.fr hf id⟩
theorem MadeAt.lt {w : World} {P : Nat} {q : List Int} {rd wr : Int} {ar aw : Bool} (h : MadeAt w P q rd wr ar aw) : P < w.heap.size := by
  rcases h with ⟨a, h⟩ | ⟨a, h⟩ <;> exact h.lt

set_option maxRecDepth 100000 in
set_option maxHeartbeats 6400000 in
theorem joins_walk (qs a b : List Int) (vs va vb : Value) (rd wr m n : Int) (ar aw : Bool) (w : World) (hq : BSl w vs qs) (ha : BSl w va a) (hb : BSl w vb b)
    (hr : 0 ≤ rd ∧ rd < 4294967296 ∧ 0 ≤ wr ∧ wr < 4294967296) (hm : I64 m) (hn : I64 n) (hsum : a.length + b.length ≤ 1048576) :
    Calls Try.prog 8 #[.agg #[vs, .int .u32 rd, .int .u32 wr, .bool ar, .bool aw], va, vb, .int .i64 m, .int .i64 n] w fun e w' => e = .returned (.bool true) ∧ Below w.heap.size w w' := by
  obtain ⟨so, sc, rfl⟩ := hq.shape
  obtain ⟨ao, ac, rfl⟩ := ha.shape
  obtain ⟨bo, bc, rfl⟩ := hb.shape
  have HQ := Lib.hid hq; clear hq
  have HA := Lib.hid ha; clear ha
  have HB := Lib.hid hb; clear hb
  go_enter Try.func8, Try.ntmps8
  go_wp2_with fail
  generalize hW : w.alloc _ = W
  have F0 : Fr No w W := by rw [← hW]; exact (Fr.refl _ _).alloc _
  have HS : Blk W w.heap.size [.slice so qs.length sc, .int .u32 rd, .int .u32 wr, .bool ar, .bool aw] 41 := by rw [← hW]; exact Blk.new w _ _
  clear hW
  refine (works_calls W).mono ?_
  rintro e w1 ⟨rfl, hb1⟩
  have F1 := Fr.of_below hb1
  obtain ⟨⟨s0, s1, s2, s3, s4⟩, _⟩ := slot5 (HS.fr F1 id)
  have FW := Lib.hid (F0.trans F1 (fun _ _ h => h))
  clear hb1 F1 F0 HS
  go_upto_region 3 with fail
  go_cut [11, 12] (fun p q wx => Twins w wx p q)
  case first =>
    go_region_held3 (fun w' => w'.cell? ⟨w.heap.size, 0, none⟩ = some (.slice so qs.length sc) ∧ w'.cell? ⟨w.heap.size, 1, none⟩ = some (.int .u32 rd) ∧ w'.cell? ⟨w.heap.size, 2, none⟩ = some (.int .u32 wr) ∧ w'.cell? ⟨w.heap.size, 3, none⟩ = some (.bool ar) ∧ w'.cell? ⟨w.heap.size, 4, none⟩ = some (.bool aw))
      (first
        | go_keep
        | exact kB
        | exact kA)
      (first
        | (go_at_call 24; have hh := HM1.out; refine (made_calls qs _ rd wr ar aw _ (HQ.out.no FA.out) hr).mono ?_; rintro e w3 ⟨P2, rfl, hp2, hm2, hb3⟩; have FB := Lib.hid (FA.out.trans (Fr.of_below hb3) (fun _ _ h => h)); have kB := (show w3.cell? ⟨w.heap.size, 0, none⟩ = some (.slice so qs.length sc) ∧ w3.cell? ⟨w.heap.size, 1, none⟩ = some (.int .u32 rd) ∧ w3.cell? ⟨w.heap.size, 2, none⟩ = some (.int .u32 wr) ∧ w3.cell? ⟨w.heap.size, 3, none⟩ = some (.bool ar) ∧ w3.cell? ⟨w.heap.size, 4, none⟩ = some (.bool aw) from ⟨(Fr.of_below hb3).cell kA.1 id, (Fr.of_below hb3).cell kA.2.1 id, (Fr.of_below hb3).cell kA.2.2.1 id, (Fr.of_below hb3).cell kA.2.2.2.1 id, (Fr.of_below hb3).cell kA.2.2.2.2 id⟩); have HM2 := Lib.hid (show w2.heap.size ≤ P2 ∧ MadeAt w3 P2 qs rd wr ar aw ∧ MadeAt w3 P1 qs rd wr ar aw from ⟨hp2, hm2, hh.2.fr (Fr.of_below hb3)⟩); clear hh hp2 hm2 hb3)
        | (go_at_call 24; refine (made_calls qs _ rd wr ar aw _ (HQ.out.no FW.out.drew) hr).mono ?_; rintro e w2 ⟨P1, rfl, hp1, hm1, hb2⟩; have hd : Fr No w1 w2 := (Fr.refl No w1).drew.trans (Fr.of_below hb2) (fun _ _ h => h); have FA := Lib.hid (FW.out.trans hd (fun _ _ h => h)); have kA := (show w2.cell? ⟨w.heap.size, 0, none⟩ = some (.slice so qs.length sc) ∧ w2.cell? ⟨w.heap.size, 1, none⟩ = some (.int .u32 rd) ∧ w2.cell? ⟨w.heap.size, 2, none⟩ = some (.int .u32 wr) ∧ w2.cell? ⟨w.heap.size, 3, none⟩ = some (.bool ar) ∧ w2.cell? ⟨w.heap.size, 4, none⟩ = some (.bool aw) from ⟨hd.cell s0 id, hd.cell s1 id, hd.cell s2 id, hd.cell s3 id, hd.cell s4 id⟩); have HM1 := Lib.hid (show w1.heap.size ≤ P1 ∧ MadeAt w2 P1 qs rd wr ar aw from ⟨hp1, hm1⟩); clear hp1 hm1 hb2 hd))
    go_wp2_with fail
    go_meet
    have h1 := HM1.out
    have h2 := HM2.out
    have hl := h1.2.lt
    exact Twins.mk (Nat.le_trans FW.out.size h1.1) (Nat.le_trans (Nat.le_trans FA.out.size h2.1) (Nat.le_refl _)) (by omega) FB.out.below h2.2.2 h2.2.1
  case rest =>
    clear s0 s1 s2 s3 s4
    obtain ⟨P, Q, rfl, rfl, hne, hwP, hwQ, hbel, q, r1, r2, sr, sw, hP, hQ⟩ := hcut
    have hq512 := hP.bound
    have hPl := hP.lt
    have hQl := hQ.lt
    have FC := Lib.hid (Fr.of_below hbel); clear hbel
    have HP := Lib.hid hP; clear hP
    have HQ2 := Lib.hid hQ; clear hQ
    go_wp2_with fail
    refine (copyBytes_calls a _ wc (HA.out.no FC.out)).mono ?_
    rintro e w2 ⟨v2, rfl, hown, hb2⟩
    have F2 := Fr.of_below hb2
    have FD := Lib.hid (FC.out.trans F2 (fun _ _ h => h))
    have HP2 := Lib.hid (HP.out.fr F2 id)
    have HQ2 := Lib.hid (HQ2.out.fr F2 id)
    have hP2s : wc.heap.size ≤ w2.heap.size := F2.size
    obtain ⟨ca, cc, rfl⟩ := hown.shape
    have HOW := Lib.hid hown; clear hown F2 hb2
    have hlen : a.length + b.length ≤ 140737488355328 := by omega
    go_wp2_with (at_builtin; refine wpList_append_bytes rfl _ _ rfl wc.heap.size _ _ a b rfl rfl HOW.out (HB.out.no FD.out) hlen hP2s ?_)
    intro v3 w3 hown3 hf3 hblk
    have hne3 : ∀ g, (Value.slice ca a.length cc).ownBlock = some g → wc.heap.size ≤ g := fun g hg => (HOW.out.lt g hg).1
    have hPf : ¬ (Value.slice ca a.length cc).ownBlock = some P := fun h => by have := hne3 P h; omega
    have hQf : ¬ (Value.slice ca a.length cc).ownBlock = some Q := fun h => by have := hne3 Q h; omega
    have HP3 := Lib.hid (HP2.out.fr hf3 hPf)
    have HQ3 := Lib.hid (HQ2.out.fr hf3 hQf)
    have FE := Lib.hid (Fr.of_below (Fr.below_of FD.out.below hf3 FD.out.size (fun g hg => by have := hne3 g hg; have := FC.out.size; omega)))
    obtain ⟨wa, wcap, rfl⟩ := hown3.shape
    have hWl := hown3.lt
    obtain ⟨whole, hwh⟩ : ∃ whole, whole = a ++ b := ⟨_, rfl⟩
    rw [← hwh] at hown3 ⊢
    rw [← hwh] at hWl
    have hwl : whole.length ≤ 1048576 := by rw [hwh]; simp; omega
    have HWH := Lib.hid (hown3.bsl (by omega))
    have HWO := Lib.hid hown3; clear hown3 hf3 hblk hne3 hPf hQf HOW
    obtain ⟨z, hz⟩ : ∃ z, z = putK whole q sr := ⟨_, rfl⟩
    obtain ⟨zs, has⟩ : ∃ zs, zs = putHow whole q sr := ⟨_, rfl⟩
    have hzl := putK_le whole q sr
    rw [← hz] at hzl
    have HZ := Lib.hid hz; clear hz
    have HAS := Lib.hid has; clear has
    have HWE := Lib.hid hwh; clear hwh
    go_wp2_with fail
    refine (lend_calls a _ w3 (HA.out.no FE.out)).mono ?_
    rintro e w4 ⟨v4, rfl, hlent, hb4⟩
    obtain ⟨⟨la, lc, rfl⟩, hd4, hoff4⟩ := lent_facts hlent HA.out.len
    have F4 := Fr.of_below hb4
    have HP4 := Lib.hid (HP3.out.fr F4 id)
    have HQ4 := Lib.hid (HQ3.out.fr F4 id)
    have HWO4 := Lib.hid (HWO.out.fr F4 (fun _ _ => id))
    have FF := Lib.hid (FE.out.trans F4 (fun _ _ h => h))
    have HD4 := Lib.hid hd4; clear hd4
    have HOF4 := Lib.hid hoff4; clear hoff4 hlent hb4 F4
    go_wp2_with fail
    obtain ⟨x, hx⟩ : ∃ x, x = putK a q sr := ⟨_, rfl⟩
    obtain ⟨how, hh⟩ : ∃ how, how = putHow a q sr := ⟨_, rfl⟩
    have hxl := putK_le a q sr
    refine (put_calls P q a r1 r2 sr sw _ w4 HP4.out HD4.out (HOF4.out P HP3.out.lt)).mono ?_
    rw [← hx, ← hh]
    rw [← hx] at hxl
    rintro e w5 ⟨rfl, hP5, hf5⟩
    have HP5 := Lib.hid hP5; clear hP5
    have HQ5 := Lib.hid (HQ4.out.fr hf5 (fun h => hne h.symm))
    have HWO5 := Lib.hid (HWO4.out.fr hf5 (fun g hg => by have := (HWO4.out.lt g hg).1; omega))
    have FG := Lib.hid (Fr.of_below (Fr.below_of FF.out.below hf5 FF.out.size (by rintro k rfl; exact hwP)))
    have HX := Lib.hid hx; clear hx
    have HH := Lib.hid hh; clear hh hf5
    go_upto_if 43 with fail
    go_cut [15, 16] (fun h y wx => ∃ (yn : Nat) (hw : Int), y = .int .i64 yn ∧ h = .int .i64 hw ∧ x + yn = z ∧ (b ≠ [] → hw = zs) ∧ Fr No w wx ∧
      PipeAt wx P (q ++ whole.take z) r1 ((r2 + (z : Nat)) % 4294967296) sr sw ∧ PipeAt wx Q q r1 r2 sr sw ∧ Own wx wc.heap.size (.slice wa whole.length wcap) whole)
    case first =>
      by_cases hdone : how = 1
      · subst hdone
        have HJ := Lib.hid (join_done (a := a) (b := b) hq512 HH.out.symm)
        go_wp2_with fail
        refine (lend_calls b _ w5 (HB.out.no FG.out)).mono ?_
        rintro e w6 ⟨v6, rfl, hlent, hb6⟩
        obtain ⟨⟨lb, lbc, rfl⟩, hd6, hoff6⟩ := lent_facts hlent HB.out.len
        have F6 := Fr.of_below hb6
        have HP6 := Lib.hid (HP5.out.fr F6 id)
        have HQ6 := Lib.hid (HQ5.out.fr F6 id)
        have HWO6 := Lib.hid (HWO5.out.fr F6 (fun _ _ => id))
        have FH := Lib.hid (FG.out.trans F6 (fun _ _ h => h))
        have HD6 := Lib.hid hd6; clear hd6
        have HOF6 := Lib.hid hoff6; clear hoff6 hlent hb6 F6
        go_wp2_with fail
        refine (put_calls P _ b r1 _ sr sw _ w6 HP6.out HD6.out (HOF6.out P HP5.out.lt)).mono ?_
        rintro e w7 ⟨rfl, hP7, hf7⟩
        have HQ7 := Lib.hid (HQ6.out.fr hf7 (fun h => hne h.symm))
        have HWO7 := Lib.hid (HWO6.out.fr hf7 (fun g hg => by have := (HWO6.out.lt g hg).1; omega))
        have FI := Lib.hid (Fr.of_below (Fr.below_of FH.out.below hf7 FH.out.size (by rintro k rfl; exact hwP)))
        have HP7 := Lib.hid hP7; clear hP7 hf7
        go_wp2_with fail
        go_meet
        have hj := HJ.out
        rw [← HX.out, ← HWE.out, ← HZ.out, ← HAS.out] at hj
        obtain ⟨j1, j2, j3⟩ := hj
        refine ⟨_, _, rfl, rfl, j1, j2, FI.out, ?_, HQ7.out, HWO7.out⟩
        have := HP7.out
        rw [j3] at this
        have e : ((r2 + (x : Nat)) % 4294967296 + (putK b (q ++ a.take x) sr : Nat)) % 4294967296 = (r2 + (z : Nat)) % 4294967296 := by omega
        rw [e] at this
        exact this
      · have hdone2 : (how == 1) = false := by simp [hdone]
        have HJ := Lib.hid (join_cut (a := a) (b := b) (q := q) (sr := sr) (by rw [← HH.out]; exact hdone))
        go_wp2_with fail
        go_meet
        have hj := HJ.out
        rw [← HX.out, ← HWE.out, ← HZ.out, ← HAS.out, ← HH.out] at hj
        obtain ⟨j1, j2, j3⟩ := hj
        refine ⟨0, how, by rfl, rfl, by omega, fun _ => j2, FG.out, ?_, HQ5.out, HWO5.out⟩
        have := HP5.out
        rw [j3, j1] at this
        exact this
    case rest =>
      clear HP HQ2 HP2 HP3 HP4 HP5 HQ3 HQ4 HQ5 HWO HWO4 HWO5 FF FG FE FD HD4 HOF4 HX HH
      obtain ⟨yn, hw, rfl, rfl, hxy, hbw, hfr, hP, hQ, hWO⟩ := hcut
      have HP := Lib.hid hP; clear hP
      have HQ := Lib.hid hQ; clear hQ
      have HWB := Lib.hid (hWO.bsl (by omega)); clear hWO
      have FR := Lib.hid hfr; clear hfr
      go_wp2_with fail
      refine (lend_calls whole _ wc HWB.out).mono ?_
      rintro e w4 ⟨v4, rfl, hlent, hb4⟩
      obtain ⟨⟨ld, ldc, rfl⟩, hd4, hoff4⟩ := lent_facts hlent HWB.out.len
      have F4 := Fr.of_below hb4
      have HP4 := Lib.hid (HP.out.fr F4 id)
      have HQ4 := Lib.hid (HQ.out.fr F4 id)
      have FS := Lib.hid (FR.out.trans F4 (fun _ _ h => h))
      have HD4 := Lib.hid hd4; clear hd4
      have HOF4 := Lib.hid hoff4; clear hoff4 hlent hb4 F4
      go_wp2_with fail
      refine (put_calls Q q whole r1 r2 sr sw _ w4 HQ4.out HD4.out (HOF4.out Q HQ.out.lt)).mono ?_
      rw [← HZ.out, ← HAS.out]
      rintro e w5 ⟨rfl, hQ5, hf5⟩
      have HP5 := Lib.hid (HP4.out.fr hf5 hne)
      have FT := Lib.hid (Fr.of_below (Fr.below_of FS.out.below hf5 FS.out.size (by rintro k rfl; exact hwQ)))
      have HQ5 := Lib.hid hQ5; clear hQ5 hf5
      obtain ⟨qf, hqf⟩ : ∃ qf, qf = q ++ whole.take z := ⟨_, rfl⟩
      obtain ⟨wt, hwt⟩ : ∃ wt, wt = (r2 + (z : Nat)) % 4294967296 := ⟨_, rfl⟩
      rw [← hqf, ← hwt] at HP5 HQ5
      clear hqf hwt HP HQ HP4 HQ4
      have hw1 : IntKind.i64.wrap ((x : Int) + (yn : Int)) = (z : Int) := by rw [IntWalk.i64_in _ (by omega)]; omega
      have hz0 : (((z : Nat) : Int) != (z : Nat)) = false := by simp
      -- the states
      have HT := Lib.hid hbw; clear hbw
      have hfin : Fr No w w5 := FT.out
      have HT2 := Lib.hid hfin; clear hfin
      go_upto_region 10 with fail
      go_cut [80] (fun t wx => t = .bool false ∧ Fr No w5 wx)
      case first =>
        by_cases hbe : b = []
        · subst hbe
          go_wp2_with fail
          refine (state_calls P qf r1 wt sr sw w5 HP5.out).mono ?_
          rintro e wa1 ⟨sv1, rfl, hown1, hba1⟩
          obtain ⟨xa1, xc1, rfl⟩ := hown1.shape
          have FA1 := Lib.hid (Fr.of_below hba1)
          have HS1 := Lib.hid (hown1.bsl (by have := HP5.out.bound; omega))
          clear hown1 hba1
          go_wp2_with fail
          refine (state_calls Q qf r1 wt sr sw wa1 (HQ5.out.fr FA1.out id)).mono ?_
          rintro e wa2 ⟨sv2, rfl, hown2, hba2⟩
          obtain ⟨xa2, xc2, rfl⟩ := hown2.shape
          have FA2 := Lib.hid (Fr.of_below hba2)
          have HS2 := Lib.hid (hown2.bsl (by have := HP5.out.bound; omega))
          clear hown2 hba2
          go_wp2_with fail
          refine (same_calls qf _ _ r1 wt _ _ wa2 (HS1.out.no FA2.out) HS2.out).mono ?_
          rintro e wa3 ⟨rfl, hfa3⟩
          have FA3 := Lib.hid ((FA1.out.trans FA2.out (fun _ _ h => h)).trans hfa3 (fun _ _ h => h))
          clear hfa3
          go_wp2_with fail
          go_meet
          exact ⟨rfl, FA3.out⟩
        · have hbl : 0 < b.length := List.length_pos_iff.2 hbe
          obtain rfl := HT.out hbe
          have hbb : (hw != hw) = false := by simp
          go_wp2_with fail
          refine (state_calls P qf r1 wt sr sw w5 HP5.out).mono ?_
          rintro e wa1 ⟨sv1, rfl, hown1, hba1⟩
          obtain ⟨xa1, xc1, rfl⟩ := hown1.shape
          have FA1 := Lib.hid (Fr.of_below hba1)
          have HS1 := Lib.hid (hown1.bsl (by have := HP5.out.bound; omega))
          clear hown1 hba1
          go_wp2_with fail
          refine (state_calls Q qf r1 wt sr sw wa1 (HQ5.out.fr FA1.out id)).mono ?_
          rintro e wa2 ⟨sv2, rfl, hown2, hba2⟩
          obtain ⟨xa2, xc2, rfl⟩ := hown2.shape
          have FA2 := Lib.hid (Fr.of_below hba2)
          have HS2 := Lib.hid (hown2.bsl (by have := HP5.out.bound; omega))
          clear hown2 hba2
          go_wp2_with fail
          refine (same_calls qf _ _ r1 wt _ _ wa2 (HS1.out.no FA2.out) HS2.out).mono ?_
          rintro e wa3 ⟨rfl, hfa3⟩
          have FA3 := Lib.hid ((FA1.out.trans FA2.out (fun _ _ h => h)).trans hfa3 (fun _ _ h => h))
          clear hfa3
          go_wp2_with fail
          go_meet
          exact ⟨rfl, FA3.out⟩
      case rest =>
        obtain ⟨rfl, hf⟩ := hcut
        have HP6 := Lib.hid (HP5.out.fr hf id)
        have HQ6 := Lib.hid (HQ5.out.fr hf id)
        have F6 := Lib.hid (HT2.out.trans hf (fun _ _ h => h))
        clear hf HT2 FT HP5 HQ5
        by_cases hm1 : m < 1 ∨ n < 1 ∨ 2305843009213693952 < m ∨ 2305843009213693952 < n
        · have hfin := F6.out.below
          have HFI := Lib.hid hfin; clear hfin
          by_cases c1 : m < 1
          · go_wp2_with fail
            go_ret
            exact ⟨rfl, HFI.out⟩
          · by_cases c2 : n < 1
            · go_wp2_with fail
              go_ret
              exact ⟨rfl, HFI.out⟩
            · by_cases c3 : 2305843009213693952 < m
              · go_wp2_with fail
                go_ret
                exact ⟨rfl, HFI.out⟩
              · have c4 : 2305843009213693952 < n := by omega
                go_wp2_with fail
                go_ret
                exact ⟨rfl, HFI.out⟩
        · have c1 : ¬ m < 1 := by omega
          have c2 : ¬ n < 1 := by omega
          have c3 : ¬ 2305843009213693952 < m := by omega
          have c4 : ¬ 2305843009213693952 < n := by omega
          clear hm1
          have hw2 : IntKind.i64.wrap (m + n) = m + n := IntWalk.i64_in _ (by omega)
          have hqf := HP6.out.bound
          have hlaw := takeK_two (q := qf) (m := m) (n := n) (by omega) (by omega)
          obtain ⟨K1, hK1⟩ : ∃ K1, K1 = takeK m qf := ⟨_, rfl⟩
          obtain ⟨K3, hK3⟩ : ∃ K3, K3 = takeK (m + n) qf := ⟨_, rfl⟩
          rw [← hK1, ← hK3] at hlaw
          obtain ⟨K2, hK2⟩ : ∃ K2, K2 = takeK n (qf.drop K1) := ⟨_, rfl⟩
          rw [← hK2] at hlaw
          obtain ⟨l1, l2, l3⟩ := hlaw
          obtain ⟨c, hc⟩ : ∃ c, c = qf.take K1 := ⟨_, rfl⟩
          obtain ⟨d, hd⟩ : ∃ d, d = (qf.drop K1).take K2 := ⟨_, rfl⟩
          obtain ⟨eL, heL⟩ : ∃ eL, eL = qf.take K3 := ⟨_, rfl⟩
          rw [← hc, ← hd, ← heL] at l2
          obtain ⟨q1, hq1⟩ : ∃ q1, q1 = qf.drop K1 := ⟨_, rfl⟩
          obtain ⟨q3, hq3⟩ : ∃ q3, q3 = qf.drop K3 := ⟨_, rfl⟩
          have hcl : c.length ≤ 512 := by rw [hc]; simp; omega
          have hdl : d.length ≤ 512 := by rw [hd]; simp; omega
          have hel : eL.length ≤ 512 := by rw [heL]; simp; omega
          rw [← hq1] at hd hK2
          rw [← hq1, ← hq3] at l3
          have L1 := Lib.hid l1; clear l1
          have L2 := Lib.hid l2; clear l2
          have L3 := Lib.hid l3; clear l3
          have T1 := Lib.hid (show takeK m qf = K1 ∧ qf.take K1 = c ∧ qf.drop K1 = q1 from ⟨hK1.symm, hc.symm, hq1.symm⟩)
          have T2 := Lib.hid (show takeK n q1 = K2 ∧ q1.take K2 = d from ⟨hK2.symm, hd.symm⟩)
          have T3 := Lib.hid (show takeK (m + n) qf = K3 ∧ qf.take K3 = eL ∧ qf.drop K3 = q3 from ⟨hK3.symm, heL.symm, hq3.symm⟩)
          clear hK1 hK2 hK3 hc hd heL hq1 hq3
          go_wp2_with fail
          refine (take_calls P qf r1 wt sr sw m wc HP6.out hm.1 hm.2).mono ?_
          rw [T1.out.1, T1.out.2.1, T1.out.2.2]
          rintro e w7 ⟨v7, rfl, hown7, hP7, hf7⟩
          have FB1 := Lib.hid (Fr.of_below (Fr.below_of F6.out.below hf7 F6.out.size (by rintro k rfl; exact hwP)))
          have HQ7 := Lib.hid (HQ6.out.fr hf7 (fun h => hne h.symm))
          obtain ⟨c7, k7, rfl⟩ := hown7.shape
          have HO7 := Lib.hid hown7; clear hown7 hf7
          have HP7 := Lib.hid hP7; clear hP7
          go_wp2_with fail
          refine (take_calls P q1 _ wt sr sw n w7 HP7.out hn.1 hn.2).mono ?_
          rw [T2.out.1, T2.out.2, L3.out]
          rintro e w8 ⟨v8, rfl, hown8, hP8, hf8⟩
          have hPb : P < wc.heap.size := HP6.out.lt
          have FB2 := Lib.hid (Fr.of_below (Fr.below_of FB1.out.below hf8 FB1.out.size (by rintro k rfl; exact hwP)))
          have HQ8 := Lib.hid (HQ7.out.fr hf8 (fun h => hne h.symm))
          have HC8 := Lib.hid ((HO7.out.fr hf8 (fun g hg hh => by have := (HO7.out.lt g hg).1; omega)).bsl (by omega))
          obtain ⟨d8, k8, rfl⟩ := hown8.shape
          have hPb8 : P < w7.heap.size := HP7.out.lt
          have HO8 := Lib.hid hown8; clear hown8 hf8
          have e1 : ((r1 + (K1 : Nat)) % 4294967296 + (K2 : Nat)) % 4294967296 = (r1 + (K3 : Nat)) % 4294967296 := by have := L1.out; omega
          rw [e1] at hP8
          have HP8 := Lib.hid hP8; clear hP8
          go_wp2_with fail
          refine (take_calls Q qf r1 wt sr sw (m + n) w8 HQ8.out (by omega) (by omega)).mono ?_
          rw [T3.out.1, T3.out.2.1, T3.out.2.2]
          rintro e w9 ⟨v9, rfl, hown9, hQ9, hf9⟩
          have hQb : Q < wc.heap.size := HQ6.out.lt
          have hQb7 : Q < w7.heap.size := HQ7.out.lt
          have FB3 := Lib.hid (Fr.of_below (Fr.below_of FB2.out.below hf9 FB2.out.size (by rintro k rfl; exact hwQ)))
          have hQoff : ∀ g, (Value.slice c7 c.length k7).ownBlock = some g → ¬ g = Q := fun g hg hh => by have := (HO7.out.lt g hg).1; omega
          have HC9 := Lib.hid (HC8.out.fr hf9 hQoff)
          have HD9 := Lib.hid ((HO8.out.fr hf9 (fun g hg hh => by have := (HO8.out.lt g hg).1; omega)).bsl (by omega))
          have HP9 := Lib.hid (HP8.out.fr hf9 hne)
          obtain ⟨e9, k9, rfl⟩ := hown9.shape
          have HE9 := Lib.hid (hown9.bsl (by omega))
          have HQ9 := Lib.hid hQ9; clear hQ9 hown9 hf9 hQoff e1
          go_wp2_with fail
          refine (copyBytes_calls c _ w9 HC9.out).mono ?_
          rintro e w10 ⟨v10, rfl, hown10, hb10⟩
          obtain ⟨f10, k10, rfl⟩ := hown10.shape
          have FX := Fr.of_below hb10
          have HD10 := Lib.hid (HD9.out.no FX)
          have HE10 := Lib.hid (HE9.out.no FX)
          have HP10 := Lib.hid (HP9.out.fr FX id)
          have HQ10 := Lib.hid (HQ9.out.fr FX id)
          have FB4 := Lib.hid (FB3.out.trans FX (fun _ _ h => h))
          have hs10 : w9.heap.size ≤ w10.heap.size := FX.size
          have HO10 := Lib.hid hown10; clear hown10 hb10 FX
          have hPb9 : P < w9.heap.size := HP9.out.lt
          have hQb9 : Q < w9.heap.size := HQ9.out.lt
          have hwb9 : w.heap.size ≤ w9.heap.size := FB3.out.size
          have hEob : ∀ g, (Value.slice e9 eL.length k9).ownBlock = some g → eL ≠ [] → g < w9.heap.size := fun g hg he => by
            obtain ⟨a', c', hv, _, _, _, hc⟩ := HE9.out
            cases hv
            obtain ⟨bb, oo, rfl, hcc⟩ := hc he
            cases hg
            exact World.block_lt_of_cell? w9 _ (hcc 0 (List.length_pos_iff.2 he))
          have HEO := Lib.hid hEob; clear hEob
          go_wp2_with (at_builtin; refine wpList_append_bytes rfl _ _ rfl w9.heap.size _ _ c d rfl rfl HO10.out HD10.out (by omega) hs10 ?_)
          intro v11 w11 hown11 hf11 hblk
          have hne11 : ∀ g, (Value.slice f10 c.length k10).ownBlock = some g → w9.heap.size ≤ g := fun g hg => (HO10.out.lt g hg).1
          have HP11 := Lib.hid (HP10.out.fr hf11 (fun h => by have := hne11 P h; omega))
          have HQ11 := Lib.hid (HQ10.out.fr hf11 (fun h => by have := hne11 Q h; omega))
          have FB5 := Lib.hid (Fr.of_below (Fr.below_of FB4.out.below hf11 FB4.out.size (fun g hg => by have := hne11 g hg; omega)))
          have HE11 := Lib.hid (show BSl w11 (.slice e9 eL.length k9) eL by
            by_cases he : eL = []
            · have hk9 := HE9.out.capmax
              rw [he]
              exact bsl_nil_of _ _ _ _ rfl hk9
            · exact HE10.out.fr hf11 (fun g hg hh => by have := hne11 g hh; have := HEO.out g hg he; omega))
          rw [L2.out] at hown11
          have HW11 := Lib.hid (hown11.bsl (by omega))
          obtain ⟨g11, k11, rfl⟩ := hown11.shape
          clear hown11 hf11 hblk hne11
          go_wp2_with fail
          refine (bytes_calls eL eL _ _ w11 HW11.out HE11.out).mono ?_
          rintro e w12 ⟨rfl, nn, rfl⟩
          rw [show decide (eL = eL) = true from decide_eq_true rfl]
          have FB6 := Lib.hid (FB5.out.drewN nn)
          have HP12 := Lib.hid (HP11.out.fr ((Fr.refl No _).drewN nn) id)
          have HQ12 := Lib.hid (HQ11.out.fr ((Fr.refl No _).drewN nn) id)
          generalize w11.drewN nn = w12 at *
          go_wp2_with fail
          refine (state_calls P q3 _ wt sr sw w12 HP12.out).mono ?_
          rintro e wa1 ⟨sv1, rfl, hown1, hba1⟩
          obtain ⟨xa1, xc1, rfl⟩ := hown1.shape
          have FA1 := Lib.hid (Fr.of_below hba1)
          have HS1 := Lib.hid (hown1.bsl (by have := HP12.out.bound; omega))
          clear hown1 hba1
          go_wp2_with fail
          refine (state_calls Q q3 _ wt sr sw wa1 (HQ12.out.fr FA1.out id)).mono ?_
          rintro e wa2 ⟨sv2, rfl, hown2, hba2⟩
          obtain ⟨xa2, xc2, rfl⟩ := hown2.shape
          have FA2 := Lib.hid (Fr.of_below hba2)
          have HS2 := Lib.hid (hown2.bsl (by have := HP12.out.bound; omega))
          clear hown2 hba2
          go_wp2_with fail
          refine (same_calls q3 _ _ _ wt _ _ wa2 (HS1.out.no FA2.out) HS2.out).mono ?_
          rintro e wa3 ⟨rfl, hfa3⟩
          have FA3 := Lib.hid ((FA1.out.trans FA2.out (fun _ _ h => h)).trans hfa3 (fun _ _ h => h))
          clear hfa3
          go_wp2_with fail
          go_ret
          exact ⟨rfl, (FB6.out.trans FA3.out (fun _ _ h => h)).below⟩

end Go.Proofs.Ytnfpjholmidnbaa
