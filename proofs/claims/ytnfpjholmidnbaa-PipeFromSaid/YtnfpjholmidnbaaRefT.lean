/- hartixref10.Pipe: Take, From. No condition. -/
import Derived.Test.YtnfpjholmidnbaaRef
namespace Go.Proofs.Ytnfpjholmidnbaa
open Go.RowKit

theorem RefAt.same {w : World} {base Q : Nat} {bv : Value} {q : List Int} {rd wr : Int} {ar aw : Bool} (h : RefAt w base Q bv q rd wr ar aw) (hr : 0 ≤ rd ∧ rd < 4294967296) : RefAt w base Q bv (q.drop 0) ((rd + (0 : Nat)) % 4294967296) wr ar aw := by
  have e : (rd + (0 : Nat)) % 4294967296 = rd := by simp; omega
  rw [e]; exact h

/-- what a Take leaves -/
@[irreducible] def TakePost (base Q : Nat) (bv : Value) (q : List Int) (rd wr : Int) (ar aw : Bool) (n : Int) (w : World) (e : Ending) (w' : World) : Prop :=
  ∃ v' bv', e = .returned (.tuple #[v', .int .i64 (takeHow n q (!aw))]) ∧ Own w' w.heap.size v' (q.take (takeK n q)) ∧
    RefAt w' base Q bv' (q.drop (takeK n q)) ((rd + (takeK n q : Nat)) % 4294967296) wr ar aw ∧ (∀ k, bv'.ownBlock = some k → bv.ownBlock = some k ∨ w.heap.size ≤ k) ∧ Fr (· = Q) w w'

theorem TakePost.none {base Q : Nat} {bv : Value} {q : List Int} {rd wr : Int} {ar aw : Bool} {n : Int} {w : World} (h : RefAt w base Q bv q rd wr ar aw) (hr : 0 ≤ rd ∧ rd < 4294967296) (hk : takeK n q = 0) (how : Int) (hh : how = takeHow n q (!aw)) :
    TakePost base Q bv q rd wr ar aw n w (.returned (.tuple #[.slice none 0 0, .int .i64 how])) w := by
  unfold TakePost
  rw [hk, hh]
  exact ⟨_, _, rfl, ⟨World.ownsRow_nil _ _ _ _, fun _ => rfl⟩, h.same hr, fun k hk => .inl hk, Fr.refl _ _⟩

set_option maxRecDepth 100000 in
set_option maxHeartbeats 3200000 in
theorem reftake_calls (base Q : Nat) (bv : Value) (q : List Int) (rd wr : Int) (ar aw : Bool) (n : Int) (w : World) (h : RefAt w base Q bv q rd wr ar aw) (hq : q.length ≤ 512) (hr : 0 ≤ rd ∧ rd < 4294967296) (hn1 : -9223372036854775808 ≤ n) (hn2 : n ≤ 9223372036854775807) :
    Calls Try.prog 32 #[.pointer (some ⟨Q, 0, none⟩), .int .i64 n] w (TakePost base Q bv q rd wr ar aw n w) := by
  obtain ⟨bo, bc, rfl⟩ := h.shape
  have hbs := h.bsl (by omega)
  have hcap := hbs.cap
  have hbase := h.1
  have hQl := h.2.1.lt
  obtain ⟨⟨c0, c1, c2, c3, c4⟩, f0, f1, f2, f3, f4⟩ := slot5 h.2.1
  have HBS := Lib.hid hbs; clear hbs
  have H := Lib.hid h; clear h
  by_cases hlt : n < 1
  · have FIN := Lib.hid (TakePost.none (n := n) H.out hr (takeK_zero (.inl hlt)) 1 (by simp [takeHow, hlt]))
    go_enter Try.func32, Try.ntmps32
    go_wp2
    go_ret2
    exact FIN.out
  · by_cases hq0 : q = []
    · subst hq0
      cases aw
      · have FIN := Lib.hid (TakePost.none (n := n) H.out hr (takeK_zero (.inr rfl)) 1 (by simp [takeHow]))
        go_enter Try.func32, Try.ntmps32
        go_wp2
        go_ret2
        exact FIN.out
      · have FIN := Lib.hid (TakePost.none (n := n) H.out hr (takeK_zero (.inr rfl)) 2 (by simp [takeHow, hlt]))
        go_enter Try.func32, Try.ntmps32
        go_wp2
        go_ret2
        exact FIN.out
    · have hlen : 0 < q.length := List.length_pos_iff.2 hq0
      have hz : ((q.length : Int) == 0) = false := by simp; omega
      obtain ⟨m, rfl⟩ := Int.eq_ofNat_of_zero_le (show 0 ≤ n by omega)
      obtain ⟨K, hK⟩ : ∃ K, K = takeK (m : Int) q := ⟨_, rfl⟩
      have hK2 : K = min m q.length := by rw [hK]; unfold takeK; rw [if_neg hlt]; simp
      have hhow : takeHow (m : Int) q (!aw) = 1 := by unfold takeHow; rw [if_neg hlt, if_neg (fun x => hq0 x.1)]
      have HQ0 := Lib.hid hq0; clear hq0
      obtain ⟨T, hT⟩ : ∃ T, T = q.take K := ⟨_, rfl⟩
      obtain ⟨D, hD⟩ : ∃ D, D = q.drop K := ⟨_, rfl⟩
      have hTl : T.length = K := by rw [hT]; simp; omega
      have hDl : D.length + K = q.length := by rw [hD]; simp; omega
      -- what both ways end with
      have fin : ∀ (w2 : World) (av nv : Value) (w1 : World), Own w1 w.heap.size av T → Below w.heap.size w w1 → Own w2 w1.heap.size nv D → Below w1.heap.size w1 w2 →
          TakePost base Q (.slice bo q.length bc) q rd wr ar aw (m : Int) w (.returned (.tuple #[av, .int .i64 1])) ((w2.setCell ⟨Q, 0, none⟩ nv).setCell ⟨Q, 1, none⟩ (.int .u32 ((rd + (K : Nat)) % 4294967296))) := by
        intro w2 av nv w1 ha hb1 hnv hb2
        have hs1 := hb1.size
        have hs2 := hb2.size
        have hf : Fr (· = Q) w2 ((w2.setCell ⟨Q, 0, none⟩ nv).setCell ⟨Q, 1, none⟩ (.int .u32 ((rd + (K : Nat)) % 4294967296))) := ((Fr.refl (· = Q) w2).setCell (p := ⟨Q, 0, none⟩) (fun _ => rfl) _).setCell (p := ⟨Q, 1, none⟩) (fun _ => rfl) _
        have hblk := ((H.out.2.1.fr (Fr.of_below hb1) id).fr (Fr.of_below hb2) id)
        unfold TakePost
        rw [hhow, ← hK, ← hT, ← hD]
        refine ⟨av, nv, rfl, (ha.fr (Fr.of_below hb2) (fun _ _ => id)).fr hf (fun k hk hh => by have := (ha.lt k hk).1; omega), ⟨by simp; omega, ?_, ?_⟩, fun k hk => .inr (by have := (hnv.lt k hk).1; omega), ?_⟩
        · have := (hblk.set 0 nv).set 1 (.int .u32 ((rd + (K : Nat)) % 4294967296))
          simpa using this
        · exact (hnv.fr hf (fun k hk hh => by have := (hnv.lt k hk).1; omega)).base (by omega) |>.1
        · exact (((Fr.of_below hb1).mono (S' := (· = Q)) (fun _ h => h.elim)).trans ((Fr.of_below hb2).mono (S' := (· = Q)) (fun _ h => h.elim)) (fun _ _ h => h)).trans hf (fun _ _ h => h)
      clear hhow hK
      have FIN := Lib.hid fin; clear fin
      have hKq : K ≤ q.length := by omega
      have hsub := HBS.out.upto K hKq
      rw [← hT] at hsub
      have HUP := Lib.hid hsub; clear hsub
      have hfrom := HBS.out.from K hKq
      rw [← hD] at hfrom
      have HFROM := Lib.hid hfrom; clear hfrom
      have hcm := HBS.out.capmax
      have HTl := Lib.hid hTl; clear hTl
      have HDl := Lib.hid hDl; clear hDl
      have HT := Lib.hid hT; clear hT
      have HD := Lib.hid hD; clear hD
      have hKc : K ≤ bc := by omega
      by_cases hzc : bc = K
      · have hqk : q.length = K := by omega
        have hdr : D = [] := List.eq_nil_of_length_eq_zero (by have := HDl.out; omega)
        have HDR := Lib.hid hdr; clear hdr
        replace hzc := hzc.symm
        subst hzc
        have HQK := Lib.hid hqk; clear hqk
        by_cases hm : m ≤ q.length
        · obtain rfl : K = m := by omega
          clear hK2
          go_enter Try.func32, Try.ntmps32
          go_wp2_with fail
          refine (copied_calls T _ w HUP.out).mono ?_
          rintro e w1 ⟨v1, rfl, hown1, hb1⟩
          obtain ⟨a1, b1, rfl⟩ := hown1.shape
          have F1 := Fr.of_below hb1
          obtain ⟨⟨k0, k1, _⟩, g0, g1, _⟩ := slot5 (H.out.2.1.fr F1 id)
          have HO1 := Lib.hid hown1; clear hown1
          have HB1 := Lib.hid hb1; clear hb1
          have FF1 := Lib.hid F1; clear F1
          go_wp2_with fail
          refine (copied_calls D _ w1 (by rw [HDR.out]; exact bsl_nil_of _ _ _ _ (by have := HQK.out; omega) (by omega))).mono ?_
          rintro e w2 ⟨v2, rfl, hown2, hb2⟩
          obtain ⟨a2, b2, rfl⟩ := hown2.shape
          have F2 := Fr.of_below hb2
          obtain ⟨⟨q0, q1, _⟩, h0, h1, _⟩ := slot5 ((H.out.2.1.fr FF1.out id).fr F2 id)
          have FI := Lib.hid (FIN.out w2 _ _ w1 HO1.out HB1.out hown2 hb2)
          clear hown2 hb2 F2 k0 k1 g0 g1 c0 c1 c2 c3 c4 f0 f1 f2 f3 f4
          go_wp2_with fail
          go_ret2
          exact FI.out
        · obtain rfl : K = q.length := HQK.out.symm
          clear hK2
          go_enter Try.func32, Try.ntmps32
          go_wp2_with fail
          refine (copied_calls T _ w HUP.out).mono ?_
          rintro e w1 ⟨v1, rfl, hown1, hb1⟩
          obtain ⟨a1, b1, rfl⟩ := hown1.shape
          have F1 := Fr.of_below hb1
          obtain ⟨⟨k0, k1, _⟩, g0, g1, _⟩ := slot5 (H.out.2.1.fr F1 id)
          have HO1 := Lib.hid hown1; clear hown1
          have HB1 := Lib.hid hb1; clear hb1
          have FF1 := Lib.hid F1; clear F1
          go_wp2_with fail
          refine (copied_calls D _ w1 (by rw [HDR.out]; exact bsl_nil_of _ _ _ _ (by have := HQK.out; omega) (by omega))).mono ?_
          rintro e w2 ⟨v2, rfl, hown2, hb2⟩
          obtain ⟨a2, b2, rfl⟩ := hown2.shape
          have F2 := Fr.of_below hb2
          obtain ⟨⟨q0, q1, _⟩, h0, h1, _⟩ := slot5 ((H.out.2.1.fr FF1.out id).fr F2 id)
          have FI := Lib.hid (FIN.out w2 _ _ w1 HO1.out HB1.out hown2 hb2)
          clear hown2 hb2 F2 k0 k1 g0 g1 c0 c1 c2 c3 c4 f0 f1 f2 f3 f4
          go_wp2_with fail
          go_ret2
          exact FI.out
      · have hzc2 : K < bc := by omega
        by_cases hm : m ≤ q.length
        · obtain rfl : K = m := by omega
          clear hK2
          go_enter Try.func32, Try.ntmps32
          go_wp2_with fail
          refine (copied_calls T _ w HUP.out).mono ?_
          rintro e w1 ⟨v1, rfl, hown1, hb1⟩
          obtain ⟨a1, b1, rfl⟩ := hown1.shape
          have F1 := Fr.of_below hb1
          obtain ⟨⟨k0, k1, _⟩, g0, g1, _⟩ := slot5 (H.out.2.1.fr F1 id)
          have HO1 := Lib.hid hown1; clear hown1
          have HB1 := Lib.hid hb1; clear hb1
          have FF1 := Lib.hid F1; clear F1
          go_wp2_with fail
          refine (copied_calls D _ w1 (HFROM.out.no FF1.out)).mono ?_
          rintro e w2 ⟨v2, rfl, hown2, hb2⟩
          obtain ⟨a2, b2, rfl⟩ := hown2.shape
          have F2 := Fr.of_below hb2
          obtain ⟨⟨q0, q1, _⟩, h0, h1, _⟩ := slot5 ((H.out.2.1.fr FF1.out id).fr F2 id)
          have FI := Lib.hid (FIN.out w2 _ _ w1 HO1.out HB1.out hown2 hb2)
          clear hown2 hb2 F2 k0 k1 g0 g1 c0 c1 c2 c3 c4 f0 f1 f2 f3 f4
          go_wp2_with fail
          go_ret2
          exact FI.out
        · obtain rfl : K = q.length := by omega
          clear hK2
          go_enter Try.func32, Try.ntmps32
          go_wp2_with fail
          refine (copied_calls T _ w HUP.out).mono ?_
          rintro e w1 ⟨v1, rfl, hown1, hb1⟩
          obtain ⟨a1, b1, rfl⟩ := hown1.shape
          have F1 := Fr.of_below hb1
          obtain ⟨⟨k0, k1, _⟩, g0, g1, _⟩ := slot5 (H.out.2.1.fr F1 id)
          have HO1 := Lib.hid hown1; clear hown1
          have HB1 := Lib.hid hb1; clear hb1
          have FF1 := Lib.hid F1; clear F1
          go_wp2_with fail
          refine (copied_calls D _ w1 (by have hx := HFROM.out.no FF1.out; simp only [Nat.sub_self] at hx; exact hx)).mono ?_
          rintro e w2 ⟨v2, rfl, hown2, hb2⟩
          obtain ⟨a2, b2, rfl⟩ := hown2.shape
          have F2 := Fr.of_below hb2
          obtain ⟨⟨q0, q1, _⟩, h0, h1, _⟩ := slot5 ((H.out.2.1.fr FF1.out id).fr F2 id)
          have FI := Lib.hid (FIN.out w2 _ _ w1 HO1.out HB1.out hown2 hb2)
          clear hown2 hb2 F2 k0 k1 g0 g1 c0 c1 c2 c3 c4 f0 f1 f2 f3 f4
          go_wp2_with fail
          go_ret2
          exact FI.out

end Go.Proofs.Ytnfpjholmidnbaa
