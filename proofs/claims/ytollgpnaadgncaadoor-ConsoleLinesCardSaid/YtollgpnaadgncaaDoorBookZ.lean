/- hartixlaw11.Book: given: the plain law and the walk. No condition. -/
import Derived.Test.YtollgpnaadgncaaDoorBook
import Derived.Test.YtollgpnaadgncaaDoorRefGive
import Derived.Test.YtollgpnaadgncaaDoorRefE
namespace Go.Proofs.YtollgpnaadgncaaDoor
open Go.RowKit

/-- what is true of as many bytes as a Take gives -/
theorem give_law {n : Int} {d : List Int} (hn : 1 ≤ n) (hd : 0 < d.length) (h0 : d[0]? ≠ some 4) :
    1 ≤ giveK n d ∧ giveK n d ≤ d.length ∧ (giveK n d : Int) ≤ n ∧ (∀ j (hj : j < d.length), j < giveK n d → d[j] ≠ 4) ∧ (∀ j (hj : j < d.length), j + 1 < giveK n d → d[j] ≠ 10) ∧
      ((giveK n d : Int) = n ∨ giveK n d = d.length ∨ d[giveK n d - 1]? = some 10 ∨ d[giveK n d]? = some 4) := by
  have hK : giveK n d = min (min n.toNat (idx 10 d + 1)) (idx 4 d) := by unfold giveK; rw [if_neg (by omega), if_neg h0]
  have h4 := idx_le 4 d
  have h10 := idx_le 10 d
  have h41 : 1 ≤ idx 4 d := by
    refine idx_ge (c := 4) hd (fun j hj hj1 => ?_)
    obtain rfl : j = 0 := by omega
    intro h
    exact h0 (by rw [List.getElem?_eq_getElem hd, h])
  have f4 : idx 4 d < d.length → d[idx 4 d]? = some 4 := fun h => by
    have := List.findIdx_getElem (p := (· == (4 : Int))) (xs := d) (w := h)
    rw [List.getElem?_eq_getElem h]
    exact congrArg some (eq_of_beq this)
  have f10 : idx 10 d < d.length → d[idx 10 d]? = some 10 := fun h => by
    have := List.findIdx_getElem (p := (· == (10 : Int))) (xs := d) (w := h)
    rw [List.getElem?_eq_getElem h]
    exact congrArg some (eq_of_beq this)
  refine ⟨by omega, by omega, by omega, fun j hj hjk => idx_lt hj (by omega), fun j hj hjk => idx_lt hj (by omega), ?_⟩
  by_cases a : (giveK n d : Int) = n
  · exact .inl a
  · by_cases b : giveK n d = idx 4 d
    · by_cases e : idx 4 d < d.length
      · exact .inr (.inr (.inr (by rw [b]; exact f4 e)))
      · exact .inr (.inl (by omega))
    · have c : giveK n d = idx 10 d + 1 := by omega
      by_cases e : idx 10 d < d.length
      · exact .inr (.inr (.inl (by rw [c]; simpa using f10 e)))
      · omega

@[irreducible] def GivenPost (base B : Nat) (dv lv : Value) (D : List Int) (G U : Nat) (L : List Int) (w : World) (e : Ending) (w' : World) : Prop :=
  e = .returned (.bool true) ∧ BookAt w' base B dv lv D (G + U) L ∧ Fr (· = B) w w'

set_option maxRecDepth 100000 in
set_option maxHeartbeats 3200000 in
theorem given_none (base B : Nat) (dv lv lt : Value) (D : List Int) (G : Nat) (L : List Int) (n : Int) (w : World) (h : BookAt w base B dv lv D G L) (hG : G = D.length) (hD : D.length ≤ 100000) (hl : BSl w lt []) :
    Calls Tryd.prog 28 #[.pointer (some ⟨B, 0, none⟩), lt, .bool false, .int .i64 n] w (GivenPost base B dv lv D G 0 L w) := by
  obtain ⟨ta, tc, rfl⟩ := hl.shape
  have FIN := Lib.hid (show ∀ m, GivenPost base B dv lv D G 0 L w (.returned (.bool true)) (w.drewN m) from fun m => by
    unfold GivenPost; exact ⟨rfl, h.no ((Fr.refl No w).drewN m), (Fr.refl _ w).drewN m⟩)
  obtain ⟨da, dc, rfl, hdc, _⟩ := row_shape h.2.2.2.1
  have c0 : w.cell? ⟨B, 0, none⟩ = some (.slice da D.length dc) := h.2.2.1.cell 0
  have c1 : w.cell? ⟨B, 1, none⟩ = some (.int .i64 G) := h.2.2.1.cell 1
  subst hG
  clear h hl
  by_cases hz : dc = D.length
  case' pos =>
    subst hz
    have hz2 : True := trivial
  case' neg =>
    have hz2 : ¬ D.length = dc := fun h => hz h.symm
    clear hz
  all_goals
    go_enter Tryd.func28, Tryd.ntmps28
    go_wp2_with fail
    go_quiet (fail)
    go_wp2_with fail
    go_ret
    exact FIN.out _

set_option maxRecDepth 100000 in
set_option maxHeartbeats 3200000 in
theorem given_end (base B : Nat) (dv lv lt : Value) (D : List Int) (G : Nat) (L : List Int) (n : Int) (w : World) (h : BookAt w base B dv lv D G L) (hG : G < D.length) (h4 : D[G] = 4) (hD : D.length ≤ 100000) (hn : 1 ≤ n) (hl : BSl w lt []) :
    Calls Tryd.prog 28 #[.pointer (some ⟨B, 0, none⟩), lt, .bool true, .int .i64 n] w (GivenPost base B dv lv D G 1 L w) := by
  obtain ⟨ta, tc, rfl⟩ := hl.shape
  have FIN := Lib.hid (show ∀ W, Fr No w W → GivenPost base B dv lv D G 1 L w (.returned (.bool true)) (W.setCell ⟨B, 1, none⟩ (.int .i64 ((G : Int) + 1))) from fun W hf => by
    unfold GivenPost; exact ⟨rfl, (h.no hf).setGiven, (hf.mono (S' := (· = B)) (fun _ h => h.elim)).setCell (p := ⟨B, 1, none⟩) (fun _ => rfl) _⟩)
  have hbs := BSl.of_own h.2.2.2.1 (by omega)
  obtain ⟨da, dc, rfl, hdc, _⟩ := row_shape h.2.2.2.1
  obtain ⟨g, o, rfl, hcell⟩ := bsl_cell hbs G hG
  rw [h4] at hcell
  have c0 : w.cell? ⟨B, 0, none⟩ = some (.slice (some ⟨g, o, none⟩) D.length dc) := h.2.2.1.cell 0
  have c1 : w.cell? ⟨B, 1, none⟩ = some (.int .i64 G) := h.2.2.1.cell 1
  have f1 := h.2.2.1.free 1
  have hGc : ¬ G = dc := by omega
  have hGc2 : ¬ dc = G := by omega
  have t1 : (((D.length - G : Nat) : Int) == 0) = false := by simp; omega
  have t2 : 0 < D.length - G := by omega
  have t3 : G ≤ D.length := by omega
  have t4 : D.length ≤ dc := by omega
  have hcell0 : w.cell? ⟨g, o + G, none⟩ = some (.int .u8 4) := hcell
  have HB := Lib.hid h.2.2.1
  have HGB := Lib.hid (show ¬ g = B from fun e => h.dvB g rfl e)
  clear h hl hbs h4
  go_enter Tryd.func28, Tryd.ntmps28
  go_wp2_with fail
  go_quiet (fail)
  generalize hW : w.drewN _ = W
  have F0 : Fr No w W := by rw [← hW]; exact (Fr.refl No w).drewN _
  clear hW
  have c1 : W.cell? ⟨B, 1, none⟩ = some (.int .i64 G) := (HB.out.fr F0 id).cell 1
  have f1 := (HB.out.fr F0 id).free 1
  have hcell0 := F0.cell hcell0 id
  have FI := Lib.hid (FIN.out W F0)
  have hgB : ¬ g = B := HGB.out
  clear F0
  go_wp2_with fail
  refine wp_loop_rounds 1 ?_
  rw [rounds_succ]
  go_wp2_with fail
  go_ret
  exact FI.out

/-- how much is given, counted on -/
theorem given_fin {base B G K : Nat} {dv lv : Value} {D L : List Int} {w W : World} (h : BookAt w base B dv lv D G L) (hf : Fr No w W) :
    GivenPost base B dv lv D G K L w (.returned (.bool true)) (W.setCell ⟨B, 1, none⟩ (.int .i64 ((G : Int) + K))) := by
  unfold GivenPost
  have e : (G : Int) + K = ((G + K : Nat) : Int) := by omega
  rw [e]
  exact ⟨rfl, (h.no hf).setGiven, (hf.mono (S' := (· = B)) (fun _ h => h.elim)).setCell (p := ⟨B, 1, none⟩) (fun _ => rfl) _⟩

set_option maxRecDepth 100000 in
set_option maxHeartbeats 6400000 in
theorem given_main (base B : Nat) (dv lv lt : Value) (D : List Int) (G : Nat) (L : List Int) (n : Int) (w : World) (h : BookAt w base B dv lv D G L) (hG : G < D.length) (h4 : (D.drop G)[0]? ≠ some 4) (hD : D.length ≤ 100000) (hn : 1 ≤ n) (hn2 : n ≤ 1000)
    (hl : BSl w lt ((D.drop G).take (giveK n (D.drop G)))) (hlB : ∀ k, lt.ownBlock = some k → k ≠ B) :
    Calls Tryd.prog 28 #[.pointer (some ⟨B, 0, none⟩), lt, .bool true, .int .i64 n] w (GivenPost base B dv lv D G (giveK n (D.drop G)) L w) := by
  have hdl : (D.drop G).length = D.length - G := List.length_drop
  obtain ⟨k1, k2, k3, k4, k5, k6⟩ := give_law hn (by omega) h4
  obtain ⟨K, hK⟩ : ∃ K, K = giveK n (D.drop G) := ⟨_, rfl⟩
  rw [← hK] at k1 k2 k3 k4 k5 k6 hl ⊢
  have hbs := BSl.of_own h.2.2.2.1 (by omega)
  have FIN := Lib.hid (fun W (hf : Fr No w W) => given_fin (K := K) h hf)
  have HGB := Lib.hid (h.dvB)
  have HB := Lib.hid h.2.2.1
  obtain ⟨da, dc, rfl, hdc, _⟩ := row_shape h.2.2.2.1
  have hrest := hbs.from G (by omega)
  obtain ⟨d, hd⟩ : ∃ d, d = D.drop G := ⟨_, rfl⟩
  obtain ⟨R, hR⟩ : ∃ R, R = D.length - G := ⟨_, rfl⟩
  have hdR : d.length = R := by rw [hd, hdl, hR]
  rw [← hd] at k2 k4 k5 k6 hl hrest
  rw [← hR] at hrest
  obtain ⟨g, o, rfl, hc0⟩ := bsl_cell hbs G hG
  have hlt : ((d.take K)).length = K := by rw [List.length_take]; omega
  obtain ⟨ta, tc, rfl⟩ := hl.shape
  rw [hlt] at hlB hl ⊢
  have c0 : w.cell? ⟨B, 0, none⟩ = some (.slice (some ⟨g, o, none⟩) D.length dc) := h.2.2.1.cell 0
  have c1 : w.cell? ⟨B, 1, none⟩ = some (.int .i64 G) := h.2.2.1.cell 1
  obtain ⟨tb, to_, rfl, hct0⟩ := bsl_cell (show BSl w (.slice ta (d.take K).length tc) (d.take K) by rw [hlt]; exact hl) 0 (by rw [hlt]; omega)
  have hcr : ∀ j (hj : j < R), w.cell? ⟨g, o + G + j, none⟩ = some (.int .u8 (d[j]?.getD 0)) := fun j hj => by
    obtain ⟨g', o', he, hcc⟩ := bsl_cell hbs (G + j) (by omega)
    cases he
    rw [Nat.add_assoc]
    rw [hcc, List.getElem?_eq_getElem (by omega)]
    simp [hd]
  have hct : ∀ j (hj : j < K), w.cell? ⟨tb, to_ + j, none⟩ = some (.int .u8 (d[j]?.getD 0)) := fun j hj => by
    obtain ⟨g', o', he, hcc⟩ := bsl_cell (show BSl w (.slice (some ⟨tb, to_, none⟩) (d.take K).length tc) (d.take K) by rw [hlt]; exact hl) j (by rw [hlt]; omega)
    cases he
    rw [hcc, List.getElem?_eq_getElem (by omega)]
    simp
  have HCR := Lib.hid hcr
  have HCT := Lib.hid hct
  have K4 := Lib.hid (show ∀ j, j < K → d[j]?.getD 0 ≠ 4 from fun j hj => by rw [List.getElem?_eq_getElem (by omega)]; exact k4 j (by omega) hj)
  have K5 := Lib.hid (show ∀ j, j + 1 < K → d[j]?.getD 0 ≠ 10 from fun j hj => by rw [List.getElem?_eq_getElem (by omega)]; exact k5 j (by omega) hj)
  have K6 := Lib.hid k6
  have HDR := Lib.hid hdR
  have hRD : R = D.length - G := hR
  have HRD := Lib.hid hRD
  have t1 : (((D.length - G : Nat) : Int) == 0) = false := by simp; omega
  have hsubn : D.length - G = R := hR.symm
  have hGc : ¬ G = dc := by omega
  have hGc2 : ¬ dc = G := by omega
  have t3 : G ≤ D.length := by omega
  have t4 : D.length ≤ dc := by omega
  have hKR : K ≤ R := by omega
  have hR1 : 1 ≤ R := by omega
  have hRb : R ≤ 100000 := by omega
  have hGb : G ≤ 100000 := by omega
  have htB : ¬ tb = B := fun e => hlB tb rfl e
  have HTB := Lib.hid htB
  have HGB2 := Lib.hid (show ¬ g = B from fun e => HGB.out g rfl e)
  clear hR hRD hd hdR hl hlt hlB hrest hbs h hcr hct hct0 hc0 k2 k4 k5 k6 h4 hdl hK t1 htB
  have t1 : ((R : Int) == 0) = false := by simp; omega
  have t2 : decide ((R : Int) < K) = false := by simp; omega
  have t5 : decide (n < (K : Int)) = false := by simp; omega
  go_enter Tryd.func28, Tryd.ntmps28
  go_wp2_with fail
  go_quiet (fail)
  generalize hW : w.drewN _ = W
  have F0 : Fr No w W := by rw [← hW]; exact (Fr.refl No w).drewN _
  clear hW c0 c1
  have HF0 := Lib.hid F0
  clear F0
  go_wp2_with fail
  clear t1 t2 t5 hsubn
  obtain ⟨M, hM⟩ : ∃ M, M + 1 = K := ⟨K - 1, by omega⟩
  have hKM : (K : Int) - 1 = (M : Int) := by omega
  have hwM : IntKind.i64.wrap (M : Int) = M := IntWalk.i64_in _ (by omega)
  have HKM := Lib.hid hKM
  have HWM := Lib.hid hwM
  have hM1 : M < K := by omega
  have hM2 : K ≤ M + 1 := by omega
  clear hM hKM hwM
  go_loopg [10] K (fun g_ i wx => ∃ j : Nat, j ≤ K ∧ g_ = K - j ∧ i = .int .i64 j ∧ Fr No w wx)
  case atStart => exact ⟨0, Nat.zero_le _, rfl, rfl, HF0.out⟩
  case round =>
    obtain ⟨j, hj, rfl, rfl, hfx⟩ := hrel
    have HFX := Lib.hid hfx; clear hfx
    by_cases hjK : j < K
    · have e1 := HFX.out.cell (HCT.out j hjK) id
      have e2 := HFX.out.cell (HCR.out j (by omega)) id
      obtain ⟨y, hy⟩ : ∃ y, y = d[j]?.getD 0 := ⟨_, rfl⟩
      rw [← hy] at e1 e2
      have u4 : (y == 4) = false := by
        have := K4.out j hjK
        rw [← hy] at this
        simpa using this
      have hyy : (y != y) = false := by simp
      by_cases hy10 : y = 10
      case' pos =>
        have hjl : ¬ j + 1 < K := fun h => by
          have := K5.out j h
          rw [← hy] at this
          exact this hy10
        have u10 : (y == 10) = true := by simp [hy10]
        have hjM : ¬ j < M := by omega
        have hlast : decide (j < M) = false := by simp; omega
        have hlast2 : decide ((j : Int) < (M : Int)) = false := by simp; omega
      case' neg =>
        have u10 : (y == 10) = false := by simp [hy10]
        have hjl : True := trivial
        have hjM : True := trivial
        have hlast : True := trivial
        have hlast2 : True := trivial
      all_goals
        clear hy hy10
        have hKM := HKM.out
        have hwM := HWM.out
        go_wp2_with fail
        go_quiet (fail)
        clear hKM hwM
        go_wp2_with fail
        go_roundg (K - (j + 1))
        case measure => omega
        case rel => exact ⟨j + 1, by omega, rfl, by go_num, HFX.out.drewN _⟩
    · obtain rfl : j = K := by omega
      have hbk := HB.out.fr HFX.out id
      have c1 : wr.cell? ⟨B, 1, none⟩ = some (.int .i64 G) := hbk.cell 1
      have f1 := hbk.free 1
      have FI := Lib.hid (FIN.out wr HFX.out)
      have hKM := HKM.out
      have hwM := HWM.out
      have htB := HTB.out
      have hgB := HGB2.out
      have z1 : ((j : Int) == 0) = false := by simp; omega
      clear hbk
      by_cases a : (j : Int) = n
      · subst a
        go_wp2_with fail
        go_ret
        exact FI.out
      · have a1 : ((j : Int) == n) = false := by simpa using a
        by_cases b : j = R
        · subst b
          go_wp2_with fail
          go_ret
          exact FI.out
        · have b1 : ((j : Int) == (R : Int)) = false := by simp; omega
          have e1 := HFX.out.cell (HCT.out M hM1) id
          obtain ⟨y, hy⟩ : ∃ y, y = d[M]?.getD 0 := ⟨_, rfl⟩
          rw [← hy] at e1
          by_cases c : y = 10
          · have u10 : (y == 10) = true := by simp [c]
            clear hy c a b
            go_wp2_with fail
            go_ret
            exact FI.out
          · have u10 : (y == 10) = false := by simpa using c
            have hjR : j < R := by omega
            have h4K : d[j]?.getD 0 = 4 := by
              rcases K6.out with h | h | h | h
              · exact absurd h a
              · exact absurd (h.trans HDR.out) b
              · have hMj : j - 1 = M := by omega
                rw [hMj] at h
                rw [h] at hy
                exact absurd hy c
              · rw [h]; rfl
            have e2 := HFX.out.cell (HCR.out j hjR) id
            rw [h4K] at e2
            clear hy c a b h4K
            go_wp2_with fail
            go_ret
            exact FI.out

end Go.Proofs.YtollgpnaadgncaaDoor
