/- hartixlaw10's shelf: put, ends. No condition. -/
import Derived.Test.YtnfpjholmidnbaaRefP
import Derived.Test.YtnfpjholmidnbaaFree
namespace Go.Proofs.Ytnfpjholmidnbaa
open Go.RowKit

/-- Block B is a shelf: ks kept (reading Y), ws their copies -/
structure ShelfAt (w : World) (base B : Nat) (kv wv : Value) (ks ws : List Value) (Y : Nat → List Int) (n : Nat) : Prop where
  hbase : base ≤ w.heap.size
  blk : Blk w B [.slice none 0 0, kv, wv, .int .i64 n] 33
  kept : w.ownsRow base 34 1 kv ks.length ks
  was : w.ownsRow base 34 1 wv ks.length ws
  half : ks.length = n / 2
  krow : ∀ (j : Nat) (v : Value), ks[j]? = some v → Row 5 .u8 w base v (Y j) ∧ (Y j).length ≤ 512
  wrow : ∀ (j : Nat) (v : Value), ws[j]? = some v → Row 5 .u8 w base v (Y j)
  dist : Distinct (ks ++ ws)
  two : ∀ g, kv.ownBlock = some g → wv.ownBlock ≠ some g

/-- the blocks a shelf lies in -/
def ShFP (B : Nat) (kv wv : Value) (ks ws : List Value) (k : Nat) : Prop := k = B ∨ kv.ownBlock = some k ∨ wv.ownBlock = some k ∨ SBlk (ks ++ ws) k

theorem SBlk.left {ks ws : List Value} {k : Nat} (h : SBlk ks k) : SBlk (ks ++ ws) k := by
  obtain ⟨v, hv, hk⟩ := h; exact ⟨v, List.mem_append_left _ hv, hk⟩
theorem SBlk.right {ks ws : List Value} {k : Nat} (h : SBlk ws k) : SBlk (ks ++ ws) k := by
  obtain ⟨v, hv, hk⟩ := h; exact ⟨v, List.mem_append_right _ hv, hk⟩
theorem SBlk.at_ {ks : List Value} {j k : Nat} {v : Value} (h : ks[j]? = some v) (hk : v.ownBlock = some k) : SBlk ks k := ⟨v, List.mem_of_getElem? h, hk⟩

theorem ShelfAt.fr {S : Nat → Prop} {w w' : World} {base B : Nat} {kv wv : Value} {ks ws : List Value} {Y : Nat → List Int} {n : Nat} (h : ShelfAt w base B kv wv ks ws Y n) (hf : Fr S w w') (hn : ∀ k, ShFP B kv wv ks ws k → ¬ S k) : ShelfAt w' base B kv wv ks ws Y n where
  hbase := Nat.le_trans h.hbase hf.size
  blk := h.blk.fr hf (hn B (.inl rfl))
  kept := row_fr h.kept hf (fun k hk => hn k (.inr (.inl hk)))
  was := row_fr h.was hf (fun k hk => hn k (.inr (.inr (.inl hk))))
  half := h.half
  krow := fun j v hj => ⟨row_fr (h.krow j v hj).1 hf (fun k hk => hn k (.inr (.inr (.inr (SBlk.at_ hj hk).left)))), (h.krow j v hj).2⟩
  wrow := fun j v hj => row_fr (h.wrow j v hj) hf (fun k hk => hn k (.inr (.inr (.inr (SBlk.at_ hj hk).right))))
  dist := h.dist
  two := h.two

theorem ShelfAt.lt {w : World} {base B : Nat} {kv wv : Value} {ks ws : List Value} {Y : Nat → List Int} {n : Nat} (h : ShelfAt w base B kv wv ks ws Y n) : ∀ k, ShFP B kv wv ks ws k → k < w.heap.size := by
  rintro k (rfl | hk | hk | ⟨v, hv, hk⟩)
  · exact h.blk.lt
  · exact (h.kept.lt k hk).2
  · exact (h.was.lt k hk).2
  · rcases List.mem_append.1 hv with hv | hv
    · obtain ⟨j, hj, rfl⟩ := List.getElem_of_mem hv
      exact ((h.krow j _ (List.getElem?_eq_getElem hj)).1.lt k hk).2
    · obtain ⟨j, hj, rfl⟩ := List.getElem_of_mem hv
      exact ((h.wrow j _ (List.getElem?_eq_getElem hj)).lt k hk).2

/-- a block known whole is no row of another type -/
theorem blk_row_ne {w : World} {b : Nat} {cs : List Value} {t e : TypeId} (h : Blk w b cs t) {base n : Nat} {v : Value} {xs : List Value} (hr : w.ownsRow base e 1 v n xs) (hne : t ≠ e) : ∀ k, v.ownBlock = some k → k ≠ b := by
  rintro k hk rfl
  rcases hr.2 with ⟨rfl, _⟩ | ⟨g, cap, cur, rfl, _, hg, _⟩
  · simp [Value.ownBlock] at hk
  · cases hk
    unfold Blk at h
    rw [hg] at h
    cases h
    exact hne rfl

set_option maxRecDepth 100000 in
set_option maxHeartbeats 3200000 in
theorem ends_calls (base B : Nat) (kv wv : Value) (ks ws : List Value) (Y : Nat → List Int) (n : Nat) (w : World) (h : ShelfAt w base B kv wv ks ws Y n) (hn : n / 2 * 24 ≤ 140737488355328) :
    Calls Try.prog 17 #[.pointer (some ⟨B, 0, none⟩)] w fun e w' => e = .returned (.bool true) ∧ Fr (ShFP B kv wv ks ws) w w' := by
  obtain ⟨ko, kc, rfl, _⟩ := row_shape h.kept
  obtain ⟨wo, wc, rfl, _⟩ := row_shape h.was
  have hwl : ws.length = ks.length := by have := h.was.1; omega
  have hkl := h.half
  have H := Lib.hid h
  have HWL := Lib.hid hwl; clear hwl
  have HKL := Lib.hid hkl; clear hkl h
  go_enter Try.func17, Try.ntmps17
  go_wp2_with fail
  go_loopg [3] ks.length (fun g s wx => Fr No w wx ∧ ∃ k : Nat, k ≤ ks.length ∧ g = ks.length - k ∧ s = .int .i64 k)
  case atStart => exact ⟨Fr.refl _ _, 0, Nat.zero_le _, rfl, rfl⟩
  case round =>
    obtain ⟨hfr, k, hk, rfl, rfl⟩ := hrel
    have hs := H.out.fr hfr (fun _ _ => id)
    have c1 : wr.cell? ⟨B, 1, none⟩ = some (.slice ko ks.length kc) := hs.blk.cell 1
    have c2 : wr.cell? ⟨B, 2, none⟩ = some (.slice wo ks.length wc) := hs.blk.cell 2
    have hks : ks.length * 24 ≤ 140737488355328 := by rw [HKL.out]; exact hn
    have HFR := Lib.hid hfr; clear hfr
    by_cases hlt : k < ks.length
    · have hkk : ks[k]? = some ks[k] := List.getElem?_eq_getElem hlt
      have hkw : k < ws.length := by have := HWL.out; omega
      have hww : ws[k]? = some ws[k] := List.getElem?_eq_getElem hkw
      obtain ⟨KB, rfl, _, _, ck, _⟩ := row_at hs.kept k _ hkk
      obtain ⟨WB, rfl, _, _, cw, _⟩ := row_at hs.was k _ hww
      have hb1 := BSl.of_own (hs.krow k _ hkk).1 (by have := (hs.krow k _ hkk).2; omega)
      have hb2 := BSl.of_own (hs.wrow k _ hww) (by have := (hs.krow k _ hkk).2; omega)
      obtain ⟨X, hX⟩ : ∃ X, X = Y k := ⟨_, rfl⟩
      rw [← hX] at hb1 hb2
      obtain ⟨a1, e1, hv1⟩ := hb1.shape
      obtain ⟨a2, e2, hv2⟩ := hb2.shape
      rw [hv1] at ck hb1
      rw [hv2] at cw hb2
      have HB1 := Lib.hid hb1
      have HB2 := Lib.hid hb2
      clear hb1 hb2 hv1 hv2 hs hkk hww hX
      go_wp2_with fail
      go_region_held3 (fun w' => w'.cell? ⟨B, 1, none⟩ = some (.slice (some ⟨KB, 0, none⟩) ks.length kc) ∧ w'.cell? ⟨B, 2, none⟩ = some (.slice (some ⟨WB, 0, none⟩) ks.length wc) ∧ w'.cell? ⟨KB, k, none⟩ = some (.slice a1 X.length e1) ∧ w'.cell? ⟨WB, k, none⟩ = some (.slice a2 X.length e2))
        (first
          | go_keep
          | exact ⟨z1, z2, z3, z4⟩)
        (first | (go_at_call 23; refine (bytes_calls X X _ _ _ (HB1.out.no (Fr.refl No _).drew) (HB2.out.no (Fr.refl No _).drew)).mono ?_; rintro e w' ⟨rfl, nn, rfl⟩; rw [show decide (X = X) = true from decide_eq_true rfl]; have hfr : Fr No wr (wr.drew.drewN nn) := (Fr.refl No wr).drew.drewN nn; have z1 := hfr.cell c1 id; have z2 := hfr.cell c2 id; have z3 := hfr.cell ck id; have z4 := hfr.cell cw id; clear hfr))
      rename_i hHeld
      clear hHeld
      go_wp2_with fail
      go_roundg (ks.length - (k + 1))
      case measure => omega
      case rel => exact ⟨HFR.out.drewN (1 + nn), k + 1, by omega, rfl, by go_num⟩
    · have he : k = ks.length := by omega
      subst he
      have HS := Lib.hid hs; clear hs
      go_wp2_with fail
      refine (free_calls ks Y _ base base wr HS.out.kept (fun j v hj => (HS.out.krow j v hj).1) (fun i j v v' hij hi hj => HS.out.dist i j v v' hij (by rw [List.getElem?_append_left (List.getElem?_eq_some_iff.1 hi).1]; exact hi) (by rw [List.getElem?_append_left (List.getElem?_eq_some_iff.1 hj).1]; exact hj)) HS.out.hbase hks (fun j v hj => by have := (HS.out.krow j v hj).2; omega)).mono ?_
      rintro e w9 ⟨rfl, hf9⟩
      have HF9 := Lib.hid (HFR.out.mono (S' := ShFP B (.slice ko ks.length kc) (.slice wo ks.length wc) ks ws) (fun _ h => h.elim) |>.trans hf9 (fun _ _ h => .inr (.inr (.inr h.left))))
      clear hf9
      go_wp2_with fail
      go_ret
      exact ⟨rfl, HF9.out⟩

end Go.Proofs.Ytnfpjholmidnbaa
