/- PipeOrder: the walk, where the acts carry at most 1048576 bytes in all. -/
import Derived.Test.YtnfpjholmidnbaaAppend
import Derived.Deep.DeepCutAuto
import Derived.Deep.CutBlock
import Derived.Deep.LoopGhost
namespace Go.Proofs.Ytnfpjholmidnbaa
open Go.RowKit

/-- how many bytes the acts from k on carry -/
def restLen (acts : List ActD) (k : Nat) : Nat := ((acts.drop k).map fun a => a.data.length + 1).sum
theorem restLen_at {acts : List ActD} {k : Nat} (h : k < acts.length) : restLen acts k = acts[k].data.length + 1 + restLen acts (k + 1) := by
  unfold restLen
  rw [List.drop_eq_getElem_cons h, List.map_cons, List.sum_cons]

/-- what holds at the head of PipeOrder's rounds -/
def OrderInv (w : World) (P : Nat) (acts : List ActD) (k : Nat) (put took : Value) (wr : World) : Prop :=
  ∃ (pl tl q : List Int) (sr sw : Bool), pl = tl ++ q ∧ PipeAt wr P q tl.length pl.length sr sw ∧ pl.length + restLen acts k ≤ 1048576 ∧ Own wr (P + 1) put pl ∧ Own wr (P + 1) took tl ∧ (∀ g, put.ownBlock = some g → took.ownBlock ≠ some g) ∧
    w.heap.size ≤ P ∧ Below w.heap.size w wr

set_option maxRecDepth 100000 in
set_option maxHeartbeats 6400000 in
theorem order_walk (acts : List ActD) (va : Value) (w : World) (ha : Acts w va acts) (hsum : restLen acts 0 ≤ 1048576) :
    Calls Try.prog 6 #[va] w fun e w' => e = .returned (.bool true) ∧ Below w.heap.size w w' := by
  have hlen := ha.len
  obtain ⟨ao, ac, rfl⟩ := ha.shape
  have HA := Lib.hid ha; clear ha
  go_enter Try.func6, Try.ntmps6
  go_wp2_with fail
  refine (works_calls w).mono ?_
  rintro e w1 ⟨rfl, hb1⟩
  have HB1 := Lib.hid hb1; clear hb1
  go_wp2_with fail
  refine (new_calls w1).mono ?_
  rintro e w2 ⟨rfl, hP, hb2⟩
  have hb2 := HB1.out.trans (hb2.mono HB1.out.size)
  obtain ⟨P, hPe⟩ : ∃ P, P = w1.heap.size := ⟨_, rfl⟩
  rw [← hPe] at hP ⊢
  have HI := Lib.hid (show OrderInv w P acts 0 (.slice none 0 0) (.slice none 0 0) w2 from ⟨[], [], [], _, _, rfl, hP, by simpa using hsum, ⟨World.ownsRow_nil _ _ _ _, fun _ => rfl⟩, ⟨World.ownsRow_nil _ _ _ _, fun _ => rfl⟩, fun g h => by simp [Value.ownBlock] at h, by rw [hPe]; exact HB1.out.size, hb2⟩)
  clear hb2 hP hPe
  go_wp2_with fail
  go_loopg [4, 5, 6] acts.length (fun g put took i wr => ∃ k : Nat, k ≤ acts.length ∧ g = acts.length - k ∧ i = .int .i64 k ∧ OrderInv w P acts k put took wr)
  case atStart => exact ⟨0, Nat.zero_le _, rfl, rfl, HI.out⟩
  case round =>
    obtain ⟨k, hk, rfl, rfl, hinv⟩ := hrel
    by_cases hlt : k < acts.length
    · obtain ⟨b, o, rfl, hbw, da, dc, hd, hI1, hI2, hI3, hcell⟩ := HA.out.get k hlt
      have HC := Lib.hid hcell; clear hcell
      have HD := Lib.hid hd; clear hd
      have HR := Lib.hid (restLen_at hlt)
      generalize acts[k] = A at *
      obtain ⟨kd, wh, data, N⟩ := A
      simp only at *
      obtain ⟨pl, tl, q, sr, sw, hpl, hP, hsm, hput, htook, hap, hwP, hbel⟩ := hinv
      rw [HR.out] at hsm
      obtain ⟨c0, c1, c2, c3⟩ := HC.out wr (Fr.of_below hbel)
      obtain ⟨pa, pc, rfl⟩ := hput.shape
      obtain ⟨ta, tc, rfl⟩ := htook.shape
      have HP := Lib.hid hP; clear hP
      have HPU := Lib.hid hput; clear hput
      have HTO := Lib.hid htook; clear htook
      have HAP := Lib.hid hap; clear hap
      have HB := Lib.hid hbel; clear hbel
      have HPL := Lib.hid hpl; clear hpl
      go_upto_block 2 with fail
      go_cut [4, 5] (fun put took wx => OrderInv w P acts (k + 1) put took wx)
      case first =>
        by_cases h1 : kd = 1
        · subst h1
          go_wp2_with fail
          refine (lend_calls data _ wr (HD.out.no (Fr.of_below HB.out))).mono ?_
          rintro e w4 ⟨v4, rfl, hlent, hb4⟩
          have hoff : v4.ownBlock ≠ some P := by
            obtain ⟨g, hg, rfl, _⟩ := hlent
            intro h; cases h
            have := HP.out.lt; try simp only at this
            omega
          have hd4 := hlent.bsl HD.out.len
          obtain ⟨la, lc, rfl⟩ := hd4.shape
          have F4 := Fr.of_below hb4
          have HP4 := Lib.hid (HP.out.fr F4 id)
          have HD4 := Lib.hid hd4; clear hd4
          have HOF := Lib.hid hoff; clear hoff
          have HB4 := Lib.hid (HB.out.trans (hb4.mono HB.out.size))
          have HPU4 := Lib.hid (HPU.out.fr F4 (fun _ _ => id))
          have HTO4 := Lib.hid (HTO.out.fr F4 (fun _ _ => id))
          clear hb4 hlent F4
          go_wp2_with fail
          refine (put_calls P q data _ _ sr sw _ w4 HP4.out HD4.out HOF.out).mono ?_
          obtain ⟨n, hn⟩ : ∃ n, n = putK data q sr := ⟨_, rfl⟩
          have hnl : n ≤ data.length := by rw [hn]; unfold putK; split <;> omega
          rw [← hn]
          rintro e w5 ⟨rfl, hP5, hf5⟩
          have hb5 : Below w.heap.size w w5 := Fr.below_of HB4.out hf5 HB4.out.size (by rintro k rfl; exact hwP)
          obtain ⟨x0, x1, x2, x3⟩ := HC.out w5 (Fr.of_below hb5)
          have HPU5 := Lib.hid (HPU4.out.fr hf5 (fun g hg => by have := (HPU4.out.lt g hg).1; omega))
          have HTO5 := Lib.hid (HTO4.out.fr hf5 (fun g hg => by have := (HTO4.out.lt g hg).1; omega))
          have HP5 := Lib.hid hP5; clear hP5 hf5
          have HB5 := Lib.hid hb5; clear hb5
          have HD5 := Lib.hid (HD.out.no (Fr.of_below HB5.out))
          clear hn
          have hsub := HD5.out.upto n hnl
          have hdc : n ≤ dc := by have := HD5.out.cap; omega
          have HSU := Lib.hid hsub; clear hsub
          have hP5s : P + 1 ≤ w5.heap.size := HP5.out.lt
          have hqn : n ≤ (data.take n).length := by simp; omega
          go_wp2_with (at_builtin; refine wpList_append_bytes rfl _ _ rfl (P + 1) _ _ pl (data.take n) rfl rfl HPU5.out HSU.out ?_ hP5s ?_)
          · simp; omega
          intro v6 w6 hown6 hf6 hblk
          go_wp2_with fail
          go_meet
          have hne : ∀ g, (Value.slice pa pl.length pc).ownBlock = some g → P < g := fun g hg => (HPU5.out.lt g hg).1
          refine ⟨pl ++ data.take n, tl, q ++ data.take n, sr, sw, by rw [HPL.out, List.append_assoc], ?_, by simp; omega, hown6, HTO5.out.fr hf6 (fun g hg hh => HAP.out g hh hg), ?_, hwP, Fr.below_of HB5.out hf6 HB5.out.size (fun g hg => by have := hne g hg; omega)⟩
          · have := HP5.out.fr hf6 (fun hg => by have := hne P hg; omega)
            have e : (((pl.length : Nat) : Int) + (n : Nat)) % 4294967296 = ((pl ++ data.take n).length : Nat) := by simp; omega
            rw [e] at this
            exact this
          · intro g hg hg2
            have hg3 := (HTO5.out.lt g hg2).2
            rcases hblk with hb | hb
            · exact HAP.out g (hb ▸ hg) hg2
            · rw [hb] at hg; cases hg; omega
        · by_cases h2 : kd = 2
          · subst h2
            go_wp2_with fail
            refine (take_calls P q _ _ sr sw N wr HP.out hI3.1 hI3.2).mono ?_
            obtain ⟨K, hK⟩ : ∃ K, K = takeK N q := ⟨_, rfl⟩
            have hKq : K ≤ q.length := by rw [hK]; unfold takeK; split <;> omega
            rw [← hK]
            clear hK
            obtain ⟨tk, htk⟩ : ∃ tk, tk = q.take K := ⟨_, rfl⟩
            have hqn : tk.length = K := by rw [htk]; simp; omega
            rw [← htk]
            have HTK := Lib.hid htk; clear htk
            have HQN := Lib.hid hqn; clear hqn
            rintro e w4 ⟨v4, rfl, hown4, hP4, hf4⟩
            have hbs4 := hown4.bsl (by have := HP.out.bound; rw [HQN.out]; omega)
            clear hown4
            obtain ⟨la, lc, rfl⟩ := hbs4.shape
            have hb4 : Below w.heap.size w w4 := Fr.below_of HB.out hf4 HB.out.size (by rintro k rfl; exact hwP)
            have HPU4 := Lib.hid (HPU.out.fr hf4 (fun g hg => by have := (HPU.out.lt g hg).1; omega))
            have HTO4 := Lib.hid (HTO.out.fr hf4 (fun g hg => by have := (HTO.out.lt g hg).1; omega))
            have HP4 := Lib.hid hP4; clear hP4 hf4
            have HB4 := Lib.hid hb4; clear hb4
            have HBS := Lib.hid hbs4; clear hbs4
            have hP4s : P + 1 ≤ w4.heap.size := HP4.out.lt
            have htl : tl.length + q.length ≤ 1048576 := by have := congrArg List.length HPL.out; simp at this; omega
            go_wp2_with (at_builtin; refine wpList_append_bytes rfl _ _ rfl (P + 1) _ _ tl tk rfl rfl HTO4.out HBS.out ?_ hP4s ?_)
            · rw [HQN.out]; omega
            intro v6 w6 hown6 hf6 hblk
            go_wp2_with fail
            go_meet
            have hne : ∀ g, (Value.slice ta tl.length tc).ownBlock = some g → P < g := fun g hg => (HTO4.out.lt g hg).1
            refine ⟨pl, tl ++ tk, q.drop K, sr, sw, by rw [HPL.out, HTK.out, List.append_assoc, List.take_append_drop], ?_, by omega, HPU4.out.fr hf6 (fun g hg hh => HAP.out g hg hh), hown6, ?_, hwP, Fr.below_of HB4.out hf6 HB4.out.size (fun g hg => by have := hne g hg; omega)⟩
            · have := HP4.out.fr hf6 (fun hg => by have := hne P hg; omega)
              have e : (((tl.length : Nat) : Int) + (K : Nat)) % 4294967296 = ((tl ++ tk).length : Nat) := by rw [List.length_append, HQN.out]; omega
              rw [e] at this
              exact this
            · intro g hg hg2
              have hg3 := (HPU4.out.lt g hg).2
              rcases hblk with hb | hb
              · exact HAP.out g hg (hb ▸ hg2)
              · rw [hb] at hg2; cases hg2; omega
          · by_cases h3 : kd = 3
            · subst h3
              go_wp2_with fail
              refine (shut_calls P q _ _ sr sw _ wr HP.out).mono ?_
              rintro e w4 ⟨rfl, hP4, hf4⟩
              have HP4 := Lib.hid hP4; clear hP4
              have HB4 := Lib.hid (show Below w.heap.size w w4 from Fr.below_of HB.out hf4 HB.out.size (by rintro k rfl; exact hwP))
              have HPU4 := Lib.hid (HPU.out.fr hf4 (fun g hg => by have := (HPU.out.lt g hg).1; omega))
              have HTO4 := Lib.hid (HTO.out.fr hf4 (fun g hg => by have := (HTO.out.lt g hg).1; omega))
              clear hf4
              go_wp2_with fail
              go_meet
              exact ⟨pl, tl, q, _, _, HPL.out, HP4.out, by omega, HPU4.out, HTO4.out, HAP.out, hwP, HB4.out⟩
            · have e1 : (kd == 1) = false := by simp [h1]
              have e2 : (kd == 2) = false := by simp [h2]
              have e3 : (kd == 3) = false := by simp [h3]
              go_wp2_with fail
              go_meet
              exact ⟨pl, tl, q, _, _, HPL.out, HP.out, by omega, HPU.out, HTO.out, HAP.out, hwP, HB.out⟩
      case rest =>
        clear HP HPU HTO HAP HB HPL c0 c1 c2 c3 hsm
        obtain ⟨pl, tl, q, sr, sw, hpl, hP, hsm, hput, htook, hap, hwP, hbel⟩ := hcut
        obtain ⟨pa, pc, rfl⟩ := hput.shape
        obtain ⟨ta, tc, rfl⟩ := htook.shape
        have hq512 := hP.bound
        have htl : tl.length ≤ pl.length := by rw [hpl]; simp
        have htd : pl.drop tl.length = q := by rw [hpl]; simp
        have HP := Lib.hid hP; clear hP
        have HPU := Lib.hid hput; clear hput
        have HTO := Lib.hid htook; clear htook
        have HAP := Lib.hid hap; clear hap
        have HB := Lib.hid hbel; clear hbel
        have HPL := Lib.hid hpl; clear hpl
        have HTD := Lib.hid htd; clear htd
        go_wp2_with fail
        refine (state_calls P q _ _ sr sw wc HP.out).mono ?_
        rintro e w3 ⟨sv, rfl, hown, hb3⟩
        obtain ⟨sa, sc, rfl⟩ := hown.shape
        have F3 := Fr.of_below hb3
        have hbs := (hown.bsl (by omega))
        have HP3 := Lib.hid (HP.out.fr F3 id)
        have HB3 := Lib.hid (HB.out.trans (hb3.mono HB.out.size))
        have HPU3 := Lib.hid (HPU.out.fr F3 (fun _ _ => id))
        have HTO3 := Lib.hid (HTO.out.fr F3 (fun _ _ => id))
        have HBS := Lib.hid hbs; clear hbs
        clear hb3 hown F3
        have hsub := (HPU3.out.bsl (by omega)).from tl.length htl
        rw [HTD.out] at hsub
        have hpc : pl.length ≤ pc := (HPU3.out.bsl (by omega)).cap
        have hql : pl.length - tl.length = q.length := by have := congrArg List.length HPL.out; simp at this; omega
        have HQL := Lib.hid hql; clear hql
        have HSU := Lib.hid hsub; clear hsub
        go_wp2_with fail
        generalize hW : w3.alloc _ = W
        have F0 : Fr No w3 W := by rw [← hW]; exact (Fr.refl _ _).alloc _
        have HS : Blk W w3.heap.size [.slice sa q.length sc, .int .u32 tl.length, .int .u32 pl.length, .bool (!sr), .bool (!sw)] 41 := by rw [← hW]; exact Blk.new w3 _ _
        clear hW
        obtain ⟨⟨s0, s1, s2, s3, s4⟩, _⟩ := slot5 HS
        clear HS
        have hm1 : IntKind.u32.wrap (pl.length : Int) = pl.length := IntWalk.u32_in _ (by omega)
        have hm2 : IntKind.u32.wrap (tl.length : Int) = tl.length := IntWalk.u32_in _ (by omega)
        have hm3 : decide ((512 : Int) < (q.length : Int)) = false := by simp; omega
        have hm4 : decide (((q.length : Int)) > 512) = false := by simp; omega
        by_cases hz : pc = tl.length
        · have hq0 : q = [] := List.eq_nil_of_length_eq_zero (by have := HQL.out; omega)
          have hsc := HBS.out.capmax
          have hple : pl.length = tl.length := by omega
          clear HBS HSU HQL HTD hm3 hm4
          subst hz hq0
          simp only [List.length_nil] at s0
          have HPLE := Lib.hid hple; clear hple
          go_region_held3 (fun w' => w'.cell? ⟨w3.heap.size, 0, none⟩ = some (.slice sa 0 sc) ∧ w'.cell? ⟨w3.heap.size, 1, none⟩ = some (.int .u32 tl.length) ∧ w'.cell? ⟨w3.heap.size, 2, none⟩ = some (.int .u32 pl.length))
            (first
              | go_keep
              | exact ⟨t0, t1, t2⟩)
            (first | (go_at_call 23; refine (bytes_calls [] [] _ _ _ (bsl_nil_of _ _ _ _ rfl (by omega)) (bsl_nil_of _ _ _ _ (by have := HPLE.out; omega) (by omega))).mono ?_; rintro e w' ⟨rfl, n, rfl⟩; rw [show decide (([] : List Int) = []) = true from decide_eq_true rfl]; have hfr : Fr No W (W.drew.drewN n) := (Fr.refl No W).drew.drewN n; have t0 := hfr.cell s0 id; have t1 := hfr.cell s1 id; have t2 := hfr.cell s2 id; have HFR := Lib.hid hfr; clear hfr))
          rename_i hHeld
          clear hHeld
          have F9 := Lib.hid (F0.drewN (1 + n))
          go_wp2_with fail
          go_roundg (acts.length - (k + 1))
          case measure => omega
          case rel => exact ⟨k + 1, by omega, rfl, by go_num, pl, tl, [], sr, sw, HPL.out, HP3.out.fr F9.out id, hsm, HPU3.out.fr F9.out (fun _ _ => id), HTO3.out.fr F9.out (fun _ _ => id), HAP.out, hwP, HB3.out.trans (F9.out.below.mono HB3.out.size)⟩
        · have hpc2 : tl.length < pc := by omega
          go_region_held3 (fun w' => w'.cell? ⟨w3.heap.size, 0, none⟩ = some (.slice sa q.length sc) ∧ w'.cell? ⟨w3.heap.size, 1, none⟩ = some (.int .u32 tl.length) ∧ w'.cell? ⟨w3.heap.size, 2, none⟩ = some (.int .u32 pl.length))
            (first
              | go_keep
              | exact ⟨t0, t1, t2⟩)
            (first | (go_at_call 23; refine (bytes_calls q q _ _ _ ((HBS.out.no F0).no (Fr.refl No _).drew) ((HSU.out.no F0).no (Fr.refl No _).drew)).mono ?_; rintro e w' ⟨rfl, n, rfl⟩; rw [show decide (q = q) = true from decide_eq_true rfl]; have hfr : Fr No W (W.drew.drewN n) := (Fr.refl No W).drew.drewN n; have t0 := hfr.cell s0 id; have t1 := hfr.cell s1 id; have t2 := hfr.cell s2 id; have HFR := Lib.hid hfr; clear hfr))
          rename_i hHeld
          clear hHeld
          have F9 := Lib.hid (F0.drewN (1 + n))
          go_wp2_with fail
          go_roundg (acts.length - (k + 1))
          case measure => omega
          case rel => exact ⟨k + 1, by omega, rfl, by go_num, pl, tl, q, sr, sw, HPL.out, HP3.out.fr F9.out id, hsm, HPU3.out.fr F9.out (fun _ _ => id), HTO3.out.fr F9.out (fun _ _ => id), HAP.out, hwP, HB3.out.trans (F9.out.below.mono HB3.out.size)⟩
    · have he : k = acts.length := by omega
      subst he
      obtain ⟨pl, tl, q, sr, sw, hpl, hP, hsm, hput, htook, hap, hwP, hbel⟩ := hinv
      obtain ⟨pa, pc, rfl⟩ := hput.shape
      obtain ⟨ta, tc, rfl⟩ := htook.shape
      have htl : tl.length ≤ pl.length := by rw [hpl]; simp
      have htd : pl.take tl.length = tl := by rw [hpl]; simp
      have hsub := (hput.bsl (by omega)).upto tl.length htl
      have hpc : pl.length ≤ pc := (hput.bsl (by omega)).cap
      rw [htd] at hsub
      have HSU := Lib.hid hsub; clear hsub
      have HTO := Lib.hid (htook.bsl (by omega)); clear htook
      have HB := Lib.hid hbel; clear hbel
      clear hpl htd hput hP hap
      have hpc2 : tl.length ≤ pc := by omega
      go_wp2_with fail
      refine (bytes_calls tl tl _ _ _ HTO.out HSU.out).mono ?_
      rintro e w' ⟨rfl, n, rfl⟩
      rw [show decide (tl = tl) = true from decide_eq_true rfl]
      go_wp2_with fail
      go_ret
      exact ⟨rfl, ((Fr.of_below HB.out).drewN n).below⟩

end Go.Proofs.Ytnfpjholmidnbaa
