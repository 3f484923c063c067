/- hartixref11.From. No condition. -/
import Derived.Test.YtollgpnaadgncaaDoorRefL
import Derived.Test.YtollgpnaadgncaaDoorConI
namespace Go.Proofs.YtollgpnaadgncaaDoor
open Go.RowKit

@[irreducible] def RefFromPost (d l : List Int) (w : World) (e : Ending) (w' : World) : Prop :=
  (okS d l ∧ ∃ Q dv lv, e = .returned (.tuple #[.pointer (some ⟨Q, 0, none⟩), .bool true]) ∧ RefC w' w.heap.size Q dv lv d l ∧ w.heap.size ≤ Q ∧ Below w.heap.size w w') ∨
  (¬ okS d l ∧ e = .returned (.tuple #[.pointer none, .bool false]) ∧ Below w.heap.size w w')

theorem reffrom_fin {d l : List Int} {w W w1 w2 : World} {v1 v2 : Value} (hF0 : Fr No w W) (h1 : Own w1 W.drew.heap.size v1 d) (hb1 : Fr No W w1) (h2 : Own w2 w1.heap.size v2 l) (hb2 : Below w1.heap.size w1 w2) :
    RefC (w2.alloc (.cells #[v1, v2, .bool true] 80)) w.heap.size w2.heap.size v1 v2 d l ∧ w.heap.size ≤ w2.heap.size ∧ Fr No w (w2.alloc (.cells #[v1, v2, .bool true] 80)) := by
  have s0 := hF0.size
  have s1 := hb1.size
  have s2 := hb2.size
  have ha : Fr No w2 (w2.alloc (.cells #[v1, v2, .bool true] 80)) := (Fr.refl No w2).alloc _
  refine ⟨⟨?_, Blk.new w2 [v1, v2, .bool true] _, ?_, ?_, fun k hk hk2 => ?_⟩, by omega, ((hF0.trans hb1 (fun _ _ h => h)).trans (Fr.of_below hb2) (fun _ _ h => h)).trans ha (fun _ _ h => h)⟩
  · simp; omega
  · exact own_base_row ((h1.fr (Fr.of_below hb2) (fun _ _ => id)).fr ha (fun _ _ => id)) s0
  · exact own_base_row (h2.fr ha (fun _ _ => id)) (by omega)
  · have := (h1.lt k hk).2
    have := (h2.lt k hk2).1
    omega

set_option maxRecDepth 100000 in
set_option maxHeartbeats 6400000 in
theorem reffrom_calls (d l : List Int) (v1 v2 : Value) (w : World) (h1 : BSl w v1 d) (h2 : BSl w v2 l) :
    Calls Tryd.prog 12 #[.agg #[v1, v2]] w (RefFromPost d l w) := by
  have hd := h1.len
  have hl := h2.len
  obtain ⟨a1, c1, rfl⟩ := h1.shape
  obtain ⟨a2, c2, rfl⟩ := h2.shape
  have BAD := Lib.hid (show ∀ W, ¬ okS d l → Fr No w W → RefFromPost d l w (.returned (.tuple #[.pointer none, .bool false])) W from fun W h1 h2 => by
    unfold RefFromPost; exact .inr ⟨h1, rfl, h2.below⟩)
  have GOOD := Lib.hid (show ∀ W Q dv lv, okS d l → RefC W w.heap.size Q dv lv d l → w.heap.size ≤ Q → Fr No w W → RefFromPost d l w (.returned (.tuple #[.pointer (some ⟨Q, 0, none⟩), .bool true])) W from fun W Q dv lv h1 h2 h3 h4 => by
    unfold RefFromPost; exact .inl ⟨h1, Q, dv, lv, rfl, h2, h3, h4.below⟩)
  by_cases hb : d.length + l.length > 128 ∨ (d.length + l.length = 128 ∧ l ≠ [])
  · have hno := Lib.hid (show ¬ okS d l from by
      rintro ⟨k1, k2, _⟩
      rcases hb with hb | ⟨hb, hb2⟩
      · omega
      · exact hb2 (k2 hb))
    have hsum : (d.length : Int) + l.length = (d.length + l.length : Nat) := by omega
    obtain ⟨N, hN⟩ : ∃ N, N = d.length + l.length := ⟨_, rfl⟩
    rw [← hN] at hb hsum
    have hNb : N ≤ 281474976710656 := by omega
    clear hN h1 h2
    rcases hb with hb | ⟨hb, hb2⟩
    · have t0 : decide ((128 : Int) < (N : Int)) = true := by simp; omega
      go_enter Tryd.func12, Tryd.ntmps12
      go_wp2
      go_ret2
      exact BAD.out _ hno.out ((Fr.refl _ _).alloc _)
    · have hb3 : 0 < l.length := List.length_pos_iff.2 hb2
      have t0 : decide ((0 : Int) < (l.length : Int)) = true := by simp; omega
      have t1 : decide ((l.length : Int) > 0) = true := by simp; omega
      obtain rfl : N = 128 := hb
      clear hb2
      go_enter Tryd.func12, Tryd.ntmps12
      go_wp2
      go_ret2
      exact BAD.out _ hno.out ((Fr.refl _ _).alloc _)
  · have hs : d.length + l.length ≤ 128 := by omega
    have hs2 : d.length + l.length = 128 → l = [] := fun h => Decidable.byContradiction fun hn => hb (.inr ⟨h, hn⟩)
    have HOK := Lib.hid (show (∀ x ∈ d, ¬ Nev x) → (∀ x ∈ l, ¬ NevL x) → okS d l from fun h1 h2 => ⟨hs, hs2, h1, fun x hx => ⟨fun h => h2 x hx (.inl h), fun h => h2 x hx (.inr (.inl h)), fun h => h2 x hx (.inr (.inr h))⟩⟩)
    have BADD := Lib.hid (show (∃ x ∈ d, Nev x) → ¬ okS d l from fun ⟨x, hx, hn⟩ h => h.2.2.1 x hx hn)
    have BADL := Lib.hid (show (∃ x ∈ l, NevL x) → ¬ okS d l from fun ⟨x, hx, hn⟩ h => by
      obtain ⟨k1, k2, k3⟩ := h.2.2.2 x hx
      rcases hn with hn | hn | hn
      · exact k1 hn
      · exact k2 hn
      · exact k3 hn)
    have hz : (d.length + l.length : Nat) = 128 → l.length = 0 := fun h => by rw [hs2 h]; rfl
    have hsum : (d.length : Int) + l.length = (d.length + l.length : Nat) := by omega
    obtain ⟨N, hN⟩ : ∃ N, N = d.length + l.length := ⟨_, rfl⟩
    rw [← hN] at hsum hz hs
    have t0 : ¬ (128 : Int) < (N : Int) := by omega
    have HN := Lib.hid hN; clear hN
    have HS2 := Lib.hid hs2
    have H1 := Lib.hid h1; clear h1
    have H2 := Lib.hid h2; clear h2
    clear hb hs2
    by_cases h128 : N = 128
    case' pos =>
      have hl0 := hz h128
      have hl0' : (l.length : Int) = 0 := by omega
      have e128 : (N : Int) = 128 := by omega
      have T128 := Lib.hid (And.intro e128 hl0')
      clear h128 hl0 hz
    case' neg =>
      have e128 : ((N : Int) == 128) = false := by simp; omega
      have hl0' : True := trivial
      clear h128 hz
    all_goals
      go_enter Tryd.func12, Tryd.ntmps12
      go_wp2_with fail
      clear e128 hl0' t0 hsum
      generalize hW : w.alloc _ = W
      have F0 : Fr No w W := by rw [← hW]; exact (Fr.refl _ _).alloc _
      have HB : Blk W w.heap.size [.slice a1 d.length c1, .slice a2 l.length c2] 24 := by rw [← hW]; exact Blk.new w _ _
      clear hW
      have s0 : W.cell? ⟨w.heap.size, 0, none⟩ = some (.slice a1 d.length c1) := HB.cell 0
      have s1 : W.cell? ⟨w.heap.size, 1, none⟩ = some (.slice a2 l.length c2) := HB.cell 1
      have hWs := HB.lt
      have HBK := Lib.hid HB; clear HB
      have HF0 := Lib.hid F0; clear F0
      have HD := Lib.hid (H1.out.no HF0.out)
      have HLL := Lib.hid (H2.out.no HF0.out)
      go_loop [5] (fun i => ∃ k : Nat, i = .int .i64 k ∧ Scan Nev d k false) (fun i => d.length - (intOf i).toNat)
      case atStart => exact ⟨0, rfl, Scan.zero _ _⟩
      case round =>
        obtain ⟨k, rfl, hsc⟩ := hrel
        have hk := hsc.le
        have HSC := Lib.hid hsc; clear hsc
        by_cases hlt : k < d.length
        · obtain ⟨b, o, rfl, hc⟩ := bsl_cell HD.out k hlt
          obtain ⟨x, hx⟩ : ∃ x, x = d[k] := ⟨_, rfl⟩
          rw [← hx] at hc
          by_cases hnv : Nev x
          · have HBAD := Lib.hid (BAD.out W (BADD.out ⟨x, by rw [hx]; exact List.getElem_mem _, hnv⟩) HF0.out)
            have hpl := Lib.hid (plain_calls x W)
            rw [show (!decide (Nev x)) = false by simp [hnv]] at hpl
            clear hx hnv
            go_wp2_with fail
            refine hpl.out.mono ?_
            rintro e w' ⟨rfl, rfl⟩
            go_wp2_with fail
            go_ret2
            exact HBAD.out
          · have HNX := Lib.hid (HSC.out.next (bb := false) hlt (by rw [← hx]; simp [hnv]))
            have hpl := Lib.hid (plain_calls x W)
            rw [show (!decide (Nev x)) = true by simp [hnv]] at hpl
            clear hx hnv
            go_wp2_with fail
            refine hpl.out.mono ?_
            rintro e w' ⟨rfl, rfl⟩
            go_wp2_with fail
            go_round
            case rel => exact ⟨k + 1, by go_num, HNX.out⟩
            case measure => simp [intOf]; omega
        · obtain rfl : k = d.length := by omega
          have HDA := Lib.hid HSC.out.all
          clear HSC
          go_wp2_with fail
          go_loop [6] (fun i => ∃ k : Nat, i = .int .i64 k ∧ Scan NevL l k false) (fun i => l.length - (intOf i).toNat)
          case atStart => exact ⟨0, rfl, Scan.zero _ _⟩
          case round =>
            obtain ⟨k, rfl, hsc⟩ := hrel
            have hk := hsc.le
            have HSC := Lib.hid hsc; clear hsc
            by_cases hlt : k < l.length
            · obtain ⟨b, o, rfl, hc⟩ := bsl_cell HLL.out k hlt
              obtain ⟨x, hx⟩ : ∃ x, x = l[k] := ⟨_, rfl⟩
              rw [← hx] at hc
              by_cases hnv : NevL x
              · have HBAD := Lib.hid (BAD.out W (BADL.out ⟨x, by rw [hx]; exact List.getElem_mem _, hnv⟩) HF0.out)
                have hpl := Lib.hid (plain_calls x W)
                clear hx
                by_cases hn1 : Nev x
                · rw [show (!decide (Nev x)) = false by simp [hn1]] at hpl
                  clear hn1 hnv
                  go_wp2_with fail
                  refine hpl.out.mono ?_
                  rintro e w' ⟨rfl, rfl⟩
                  go_wp2_with fail
                  go_ret2
                  exact HBAD.out
                · rw [show (!decide (Nev x)) = true by simp [hn1]] at hpl
                  have hx2 : x = 10 ∨ x = 4 := by
                    rcases hnv with h | h | h
                    · exact absurd h hn1
                    · exact .inl h
                    · exact .inr h
                  clear hn1 hnv
                  rcases hx2 with rfl | rfl
                  all_goals
                    go_wp2_with fail
                    refine hpl.out.mono ?_
                    rintro e w' ⟨rfl, rfl⟩
                    go_wp2_with fail
                    go_ret2
                    exact HBAD.out
              · have HNX := Lib.hid (HSC.out.next (bb := false) hlt (by rw [← hx]; simp [hnv]))
                have hpl := Lib.hid (plain_calls x W)
                rw [show (!decide (Nev x)) = true by simp; exact fun h => hnv (.inl h)] at hpl
                have t10 : (x == 10) = false := by simp; exact fun h => hnv (.inr (.inl h))
                have t4 : (x == 4) = false := by simp; exact fun h => hnv (.inr (.inr h))
                clear hx hnv
                go_wp2_with fail
                refine hpl.out.mono ?_
                rintro e w' ⟨rfl, rfl⟩
                go_wp2_with fail
                go_round
                case rel => exact ⟨k + 1, by go_num, HNX.out⟩
                case measure => simp [intOf]; omega
            · obtain rfl : k = l.length := by omega
              have HLA := Lib.hid HSC.out.all
              have hok := Lib.hid (HOK.out HDA.out HLA.out)
              clear HSC
              go_wp2_with fail
              go_region_held3 (fun w' => w'.cell? ⟨w.heap.size, 0, none⟩ = some (.slice a1 d.length c1) ∧ w'.cell? ⟨w.heap.size, 1, none⟩ = some (.slice a2 l.length c2))
                (first
                  | go_keep
                  | exact k2
                  | exact k1)
                (first
                  | (go_at_call 36; have hh := TK.out; refine (joined1_calls l _ _ (HLL.out.no HF1.out)).mono ?_; rintro e w2 ⟨v2, rfl, ho2, hb2⟩; obtain ⟨ao2, cc2, rfl⟩ := ho2.shape; have hblk := HBK1.out.fr (Fr.of_below hb2) id; have k2 : w2.cell? ⟨w.heap.size, 0, none⟩ = some (.slice a1 d.length c1) ∧ w2.cell? ⟨w.heap.size, 1, none⟩ = some (.slice a2 l.length c2) := ⟨hblk.cell 0, hblk.cell 1⟩; have HO2 := Lib.hid ho2; have HBE2 := Lib.hid hb2; clear hblk ho2 hb2 hh)
                  | (go_at_call 36; refine (joined1_calls d _ _ (HD.out.no (Fr.refl No _).drew)).mono ?_; rintro e w1 ⟨v1, rfl, ho1, hb1⟩; obtain ⟨ao1, cc1, rfl⟩ := ho1.shape; have HF1 := Lib.hid ((Fr.refl No W).drew.trans (Fr.of_below hb1) (fun _ _ h => h)); have HBK1 := Lib.hid (HBK.out.fr HF1.out id); have k1 : w1.cell? ⟨w.heap.size, 0, none⟩ = some (.slice a1 d.length c1) ∧ w1.cell? ⟨w.heap.size, 1, none⟩ = some (.slice a2 l.length c2) := ⟨HBK1.out.cell 0, HBK1.out.cell 1⟩; have HO1 := Lib.hid ho1; have HBE1 := Lib.hid hb1; have TK := Lib.hid True.intro; clear ho1 hb1))
              rename_i hHeld
              clear hHeld
              have FIN := Lib.hid (reffrom_fin HF0.out HO1.out HF1.out HO2.out HBE2.out)
              go_wp2
              go_ret2
              exact GOOD.out _ _ _ _ hok.out FIN.out.1 FIN.out.2.1 FIN.out.2.2

end Go.Proofs.YtollgpnaadgncaaDoor
