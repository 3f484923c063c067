/- console: State. No condition. -/
import Derived.Test.YtollgpnaadgncaaDoorConF
namespace Go.Proofs.YtollgpnaadgncaaDoor
open Go.RowKit

/-- what a State tells: the bytes that are ready, and those of the line, each the call's own, in two blocks -/
@[irreducible] def StatePost (xs : List Int) (r : Nat) (w : World) (e : Ending) (w' : World) : Prop :=
  ∃ v1 v2, e = .returned (.agg #[v1, v2]) ∧ Own w' w.heap.size v1 (xs.take r) ∧ Own w' w.heap.size v2 (xs.drop r) ∧ (∀ k, v1.ownBlock = some k → v2.ownBlock ≠ some k) ∧ Below w.heap.size w w'

/-- the two slices of a State, stored -/
theorem state_fin {w W w1 w2 : World} {xs : List Int} {r : Nat} {v1 v2 : Value} (hF0 : Fr No w W) (hW : w.heap.size < W.heap.size) (h1 : Own w1 W.drew.heap.size v1 (xs.take r)) (hb1 : Below W.drew.heap.size W.drew w1)
    (h2 : Own w2 w1.heap.size v2 (xs.drop r)) (hb2 : Below w1.heap.size w1 w2) :
    StatePost xs r w (.returned (.agg #[v1, v2])) ((w2.setCell ⟨w.heap.size, 0, none⟩ v1).setCell ⟨w.heap.size, 1, none⟩ v2) := by
  unfold StatePost
  have hs1 : W.heap.size ≤ w1.heap.size := hb1.size
  have hs2 := hb2.size
  have hfs : Fr (· = w.heap.size) w2 ((w2.setCell ⟨w.heap.size, 0, none⟩ v1).setCell ⟨w.heap.size, 1, none⟩ v2) := ((Fr.refl (· = w.heap.size) w2).setCell (p := ⟨w.heap.size, 0, none⟩) (fun _ => rfl) _).setCell (p := ⟨w.heap.size, 1, none⟩) (fun _ => rfl) _
  have l1 : ∀ k, v1.ownBlock = some k → w.heap.size < k ∧ k < w1.heap.size := fun k hk => by
    have := h1.lt k hk
    have e : W.drew.heap.size = W.heap.size := rfl
    omega
  have l2 : ∀ k, v2.ownBlock = some k → w1.heap.size ≤ k := fun k hk => (h2.lt k hk).1
  refine ⟨v1, v2, rfl, ?_, ?_, fun k hk hk2 => by have := l1 k hk; have := l2 k hk2; omega, ?_⟩
  · exact (((h1.fr (Fr.of_below hb2) (fun _ _ => id)).fr hfs (fun k hk => by have := l1 k hk; omega))).base (by show w.heap.size ≤ W.heap.size; omega)
  · exact (h2.fr hfs (fun k hk => by have := l2 k hk; omega)).base (by omega)
  · have hb : Below w.heap.size w w2 := (hF0.drew.below.trans (hb1.mono (by show w.heap.size ≤ W.heap.size; omega))).trans (hb2.mono (by omega))
    exact (hb.setCell (p := ⟨w.heap.size, 0, none⟩) (Nat.le_refl _) _).setCell (p := ⟨w.heap.size, 1, none⟩) (Nat.le_refl _) _

set_option maxRecDepth 100000 in
set_option maxHeartbeats 3200000 in
theorem state_calls (b : Nat) (xs : List Int) (r : Nat) (w : World) (h : ConAt w b xs r) :
    Calls Tryd.prog 16 #[.pointer (some ⟨b, 0, none⟩)] w (StatePost xs r w) := by
  have hbl := h.lt
  have hr := h.1
  have h128 := h.2.1
  go_enter Tryd.func16, Tryd.ntmps16
  go_wp2_with fail
  generalize hW : w.alloc _ = W
  have F0 : Fr No w W := by rw [← hW]; exact (Fr.refl _ _).alloc _
  have HS : Blk W w.heap.size [.slice none 0 0, .slice none 0 0] 24 := by rw [← hW]; exact Blk.new w _ _
  clear hW
  have hC := h.no F0
  have h0 := hC.made
  have c1 := hC.ready
  have c2 := hC.all
  have hn : w.heap.size ≠ b := by omega
  have hs := HS.lt
  have hsz0 : w.heap.size ≤ W.heap.size := F0.size
  have HSH := Lib.hid HS; clear HS
  have HC := Lib.hid hC; clear hC h
  have HF0 := Lib.hid F0; clear F0
  have z0 : (0 : Int) ≤ r := by omega
  have z1 : (r : Int) ≤ xs.length := by omega
  have z2 : (xs.length : Int) ≤ 128 := by omega
  have z3 : (r : Int) ≤ 128 := by omega
  refine (none_calls b W h0).mono ?_
  rintro e w' ⟨rfl, rfl⟩
  have s0 : W.cell? ⟨w.heap.size, 0, none⟩ = some (.slice none 0 0) := HSH.out.cell 0
  by_cases hu : r = 128
  · subst hu
    have z7 : (128 : Int) ≤ xs.length := by omega
    clear z0 z1 z3
    go_wp2_with fail
    go_region_held3 (fun w' => w'.cell? ⟨b, 129, none⟩ = some (.int .i64 128) ∧ w'.cell? ⟨b, 130, none⟩ = some (.int .i64 xs.length))
      (first
        | go_keep
        | exact k2
        | exact k1)
      (first
        | (go_at_call 40; have hh := TK.out; refine (out_calls (xs.drop 128) _ _ (by rw [List.drop_eq_nil_of_le (by omega)]; exact bsl_empty _ _ _ (by omega))).mono ?_; rintro e w2 ⟨v2, rfl, ho2, hb2⟩; obtain ⟨ao2, cc2, rfl⟩ := ho2.shape; have hC2 := HC1.out.no (Fr.of_below hb2); have k2 : w2.cell? ⟨b, 129, none⟩ = some (.int .i64 128) ∧ w2.cell? ⟨b, 130, none⟩ = some (.int .i64 xs.length) := ⟨hC2.ready, hC2.all⟩; have hblk := HBK.out.fr (Fr.of_below hb2) id; have t0 : w2.cell? ⟨w.heap.size, 0, none⟩ = some (.slice none 0 0) := hblk.cell 0; have t1 : w2.cell? ⟨w.heap.size, 1, none⟩ = some (.slice none 0 0) := hblk.cell 1; have g0 := hblk.free 0; have g1 := hblk.free 1; have HO2 := Lib.hid ho2; have HBE2 := Lib.hid hb2; have hsz2 : w.heap.size < w2.heap.size := hblk.lt; clear hblk hC2 ho2 hb2 hh)
        | (go_at_call 40; refine (out_calls (xs.take 128) _ _ ((HC.out.no (Fr.refl No _).drew).bslHead 128 hr)).mono ?_; rintro e w1 ⟨v1, rfl, ho1, hb1⟩; obtain ⟨ao1, cc1, rfl⟩ := ho1.shape; have HC1 := Lib.hid ((HC.out.no (Fr.refl No _).drew).no (Fr.of_below hb1)); have HBK := Lib.hid (HSH.out.drew.fr (Fr.of_below hb1) id); have k1 : w1.cell? ⟨b, 129, none⟩ = some (.int .i64 128) ∧ w1.cell? ⟨b, 130, none⟩ = some (.int .i64 xs.length) := ⟨HC1.out.ready, HC1.out.all⟩; have HO1 := Lib.hid ho1; have HBE1 := Lib.hid hb1; have TK := Lib.hid True.intro; clear ho1 hb1))
    rename_i hHeld
    clear hHeld
    have FIN := Lib.hid (state_fin HF0.out hs HO1.out HBE1.out HO2.out HBE2.out)
    have e1 : (xs.take 128).length = 128 := by simp; omega
    have e2 : (xs.drop 128).length = 0 := by simp; omega
    rw [e1, e2] at FIN
    clear e1 e2
    go_wp2
    exact bodyPost_ret (v := .agg #[.slice ao1 128 cc1, .slice ao2 (0) cc2]) (by simp [results, Tryd.results16, go_sem, t0, t1]) rfl FIN.out
  · have z5 : ¬ (128 : Int) = (r : Int) := by omega
    have z6 : ¬ 128 = r := by omega
    go_wp2_with fail
    go_region_held3 (fun w' => w'.cell? ⟨b, 129, none⟩ = some (.int .i64 r) ∧ w'.cell? ⟨b, 130, none⟩ = some (.int .i64 xs.length))
      (first
        | go_keep
        | exact k2
        | exact k1)
      (first
        | (go_at_call 40; have hh := TK.out; refine (out_calls (xs.drop r) _ _ (HC1.out.bslTail (by omega))).mono ?_; rintro e w2 ⟨v2, rfl, ho2, hb2⟩; obtain ⟨ao2, cc2, rfl⟩ := ho2.shape; have hC2 := HC1.out.no (Fr.of_below hb2); have k2 : w2.cell? ⟨b, 129, none⟩ = some (.int .i64 r) ∧ w2.cell? ⟨b, 130, none⟩ = some (.int .i64 xs.length) := ⟨hC2.ready, hC2.all⟩; have hblk := HBK.out.fr (Fr.of_below hb2) id; have t0 : w2.cell? ⟨w.heap.size, 0, none⟩ = some (.slice none 0 0) := hblk.cell 0; have t1 : w2.cell? ⟨w.heap.size, 1, none⟩ = some (.slice none 0 0) := hblk.cell 1; have g0 := hblk.free 0; have g1 := hblk.free 1; have HO2 := Lib.hid ho2; have HBE2 := Lib.hid hb2; have hsz2 : w.heap.size < w2.heap.size := hblk.lt; clear hblk hC2 ho2 hb2 hh)
        | (go_at_call 40; refine (out_calls (xs.take r) _ _ ((HC.out.no (Fr.refl No _).drew).bslHead r hr)).mono ?_; rintro e w1 ⟨v1, rfl, ho1, hb1⟩; obtain ⟨ao1, cc1, rfl⟩ := ho1.shape; have HC1 := Lib.hid ((HC.out.no (Fr.refl No _).drew).no (Fr.of_below hb1)); have HBK := Lib.hid (HSH.out.drew.fr (Fr.of_below hb1) id); have k1 : w1.cell? ⟨b, 129, none⟩ = some (.int .i64 r) ∧ w1.cell? ⟨b, 130, none⟩ = some (.int .i64 xs.length) := ⟨HC1.out.ready, HC1.out.all⟩; have HO1 := Lib.hid ho1; have HBE1 := Lib.hid hb1; have TK := Lib.hid True.intro; clear ho1 hb1))
    rename_i hHeld
    clear hHeld
    have FIN := Lib.hid (state_fin HF0.out hs HO1.out HBE1.out HO2.out HBE2.out)
    have e1 : (xs.take r).length = r := by simp; omega
    have e2 : (xs.drop r).length = xs.length - r := by simp
    rw [e1, e2] at FIN
    clear e1 e2
    go_wp2
    exact bodyPost_ret (v := .agg #[.slice ao1 r cc1, .slice ao2 (xs.length - r) cc2]) (by simp [results, Tryd.results16, go_sem, t0, t1]) rfl FIN.out

end Go.Proofs.YtollgpnaadgncaaDoor
