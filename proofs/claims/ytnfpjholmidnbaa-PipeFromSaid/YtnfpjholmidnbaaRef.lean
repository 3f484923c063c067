/- hartixref10.Pipe: New, Shut, State, Take, From. No condition. -/
import Derived.Test.YtnfpjholmidnbaaFromBad
import Derived.Test.YtnfpjholmidnbaaRow
import Derived.Test.YtnfpjholmidnbaaCopied
namespace Go.Proofs.Ytnfpjholmidnbaa
open Go.RowKit

/-- Block Q is a reference's pipe; its bytes lie in a row bv of the call's own -/
def RefAt (w : World) (base Q : Nat) (bv : Value) (ql : List Int) (rd wr : Int) (ar aw : Bool) : Prop :=
  base ≤ w.heap.size ∧ Blk w Q [bv, .int .u32 rd, .int .u32 wr, .bool ar, .bool aw] 72 ∧ Row 5 .u8 w base bv ql

/-- the blocks it lies in -/
def RefFP (Q : Nat) (bv : Value) (k : Nat) : Prop := k = Q ∨ bv.ownBlock = some k

theorem RefAt.fr {S : Nat → Prop} {w w' : World} {base Q : Nat} {bv : Value} {ql : List Int} {rd wr : Int} {ar aw : Bool} (h : RefAt w base Q bv ql rd wr ar aw) (hf : Fr S w w') (hn : ∀ k, RefFP Q bv k → ¬ S k) : RefAt w' base Q bv ql rd wr ar aw :=
  ⟨Nat.le_trans h.1 hf.size, h.2.1.fr hf (hn Q (.inl rfl)), row_fr h.2.2 hf (fun k hk => hn k (.inr hk))⟩
theorem RefAt.lt {w : World} {base Q : Nat} {bv : Value} {ql : List Int} {rd wr : Int} {ar aw : Bool} (h : RefAt w base Q bv ql rd wr ar aw) : ∀ k, RefFP Q bv k → k < w.heap.size := by
  rintro k (rfl | hk)
  · exact h.2.1.lt
  · exact (h.2.2.lt k hk).2
theorem RefAt.ne {w : World} {base Q : Nat} {bv : Value} {ql : List Int} {rd wr : Int} {ar aw : Bool} (h : RefAt w base Q bv ql rd wr ar aw) : ∀ k, bv.ownBlock = some k → k ≠ Q := by
  rintro k hk rfl
  rcases h.2.2.2 with ⟨rfl, _⟩ | ⟨g, cap, cur, rfl, _, hg, _⟩
  · simp [Value.ownBlock] at hk
  · cases hk
    have := h.2.1
    unfold Blk at this
    rw [hg] at this
    cases this
theorem RefAt.bsl {w : World} {base Q : Nat} {bv : Value} {ql : List Int} {rd wr : Int} {ar aw : Bool} (h : RefAt w base Q bv ql rd wr ar aw) (hl : ql.length ≤ 140737488355328) : BSl w bv ql := BSl.of_own h.2.2 hl
theorem RefAt.shape {w : World} {base Q : Nat} {bv : Value} {ql : List Int} {rd wr : Int} {ar aw : Bool} (h : RefAt w base Q bv ql rd wr ar aw) : ∃ bo bc, bv = .slice bo ql.length bc := by
  obtain ⟨bo, bc, e, _⟩ := row_shape h.2.2
  exact ⟨bo, bc, e⟩

theorem refnew_calls (w : World) : Calls Try.prog 12 #[] w fun e w' => e = .returned (.pointer (some ⟨w.heap.size, 0, none⟩)) ∧ RefAt w' w.heap.size w.heap.size (.slice none 0 0) [] 0 0 true true ∧ Below w.heap.size w w' := by
  go_enter Try.func12, Try.ntmps12
  go_wp2
  go_ret
  refine ⟨rfl, ⟨by simp, ?_, World.ownsRow_nil _ _ _ _⟩, (Below.refl _ _).alloc (Nat.le_refl _) _⟩
  exact Blk.new w [.slice none 0 0, .int .u32 0, .int .u32 0, .bool true, .bool true] _

set_option maxHeartbeats 800000 in
theorem refshut_calls (base Q : Nat) (bv : Value) (q : List Int) (rd wr : Int) (ar aw r : Bool) (w : World) (h : RefAt w base Q bv q rd wr ar aw) :
    Calls Try.prog 34 #[.pointer (some ⟨Q, 0, none⟩), .bool r] w fun e w' => e = .returned (.tuple #[]) ∧ RefAt w' base Q bv q rd wr (ar && !r) (aw && r) ∧ Fr (· = Q) w w' := by
  obtain ⟨h0, hb, hr⟩ := id h
  obtain ⟨⟨c0, c1, c2, c3, c4⟩, f0, f1, f2, f3, f4⟩ := slot5 hb
  have H := Lib.hid h; clear h
  have HB := Lib.hid hb; clear hb
  clear hr
  have fin : ∀ (j : Nat) (u : Value), RefAt (w.setCell ⟨Q, j, none⟩ u) base Q bv q rd wr ar aw ∨ True := fun _ _ => .inr trivial
  clear fin
  cases r
  · go_enter Try.func34, Try.ntmps34
    go_wp2
    go_end0
    have hf : Fr (· = Q) w (w.setCell ⟨Q, 4, none⟩ (.bool false)) := (Fr.refl (· = Q) w).setCell (p := ⟨Q, 4, none⟩) (fun _ => rfl) _
    refine ⟨rfl, ⟨by simpa using h0, ?_, row_fr H.out.2.2 hf (fun k hk => H.out.ne k hk)⟩, hf⟩
    have := HB.out.set 4 (.bool false)
    simpa using this
  · go_enter Try.func34, Try.ntmps34
    go_wp2
    go_end0
    have hf : Fr (· = Q) w (w.setCell ⟨Q, 3, none⟩ (.bool false)) := (Fr.refl (· = Q) w).setCell (p := ⟨Q, 3, none⟩) (fun _ => rfl) _
    refine ⟨rfl, ⟨by simpa using h0, ?_, row_fr H.out.2.2 hf (fun k hk => H.out.ne k hk)⟩, hf⟩
    have := HB.out.set 3 (.bool false)
    simpa using this

set_option maxRecDepth 100000 in
set_option maxHeartbeats 3200000 in
theorem refstate_calls (base Q : Nat) (bv : Value) (q : List Int) (rd wr : Int) (ar aw : Bool) (w : World) (h : RefAt w base Q bv q rd wr ar aw) (hq : q.length ≤ 140737488355328) :
    Calls Try.prog 16 #[.pointer (some ⟨Q, 0, none⟩)] w fun e w' => ∃ v', e = .returned (.agg #[v', .int .u32 rd, .int .u32 wr, .bool ar, .bool aw]) ∧ Own w' w.heap.size v' q ∧ Below w.heap.size w w' := by
  obtain ⟨bo, bc, rfl⟩ := h.shape
  have HBS := Lib.hid (h.bsl hq)
  have hQl := h.2.1.lt
  go_enter Try.func16, Try.ntmps16
  go_wp2_with fail
  generalize hW : w.alloc _ = W
  have F0 : Fr No w W := by rw [← hW]; exact (Fr.refl _ _).alloc _
  have HS : Blk W w.heap.size [.slice none 0 0, .int .u32 0, .int .u32 0, .bool false, .bool false] 41 := by rw [← hW]; exact Blk.new w _ _
  clear hW
  have hs := HS.lt
  have HSH := Lib.hid HS
  obtain ⟨⟨s0, s1, s2, s3, s4⟩, f0, f1, f2, f3, f4⟩ := slot5 HS
  clear HS
  have hn : (w.heap.size) ≠ Q := by omega
  obtain ⟨⟨c0, c1, c2, c3, c4⟩, _⟩ := slot5 (h.2.1.fr F0 id)
  have HH := Lib.hid h; clear h
  have hQl2 : Q < W.heap.size := by omega
  go_region_held3 (fun w' => w'.cell? ⟨Q, 0, none⟩ = some (.slice bo q.length bc) ∧ w'.cell? ⟨Q, 1, none⟩ = some (.int .u32 rd) ∧ w'.cell? ⟨Q, 2, none⟩ = some (.int .u32 wr) ∧
      w'.cell? ⟨Q, 3, none⟩ = some (.bool ar) ∧ w'.cell? ⟨Q, 4, none⟩ = some (.bool aw))
    (first
      | go_keep
      | exact ⟨k0, k1, k2, k3, k4⟩)
    (first | (go_at_call 37; refine (copied_calls q _ _ ((HBS.out.no F0).no (Fr.refl No _).drew)).mono ?_; rintro e w1 ⟨v', rfl, hown, hbel⟩; obtain ⟨ao, cc, rfl⟩ := hown.shape; have hblk := HSH.out.drew.fr (Fr.of_below hbel) id; obtain ⟨⟨t0, t1, t2, t3, t4⟩, g0, g1, g2, g3, g4⟩ := slot5 hblk; have HBK := Lib.hid hblk; clear hblk; have HOW := Lib.hid hown; clear hown; have HBE := Lib.hid hbel; have hsz := hbel.size; have k0 := (hbel.cell (p := ⟨Q, 0, none⟩) hQl2).trans c0; have k1 := (hbel.cell (p := ⟨Q, 1, none⟩) hQl2).trans c1; have k2 := (hbel.cell (p := ⟨Q, 2, none⟩) hQl2).trans c2; have k3 := (hbel.cell (p := ⟨Q, 3, none⟩) hQl2).trans c3; have k4 := (hbel.cell (p := ⟨Q, 4, none⟩) hQl2).trans c4; clear hbel))
  rename_i hHeld
  clear hHeld
  go_wp2
  refine bodyPost_ret (v := .agg #[.slice ao q.length cc, .int .u32 rd, .int .u32 wr, .bool ar, .bool aw]) (by simp [results, Try.results16, go_sem, t0, t1, t2, t3, t4]) rfl ⟨_, rfl, ?_, ?_⟩
  · have ho := HOW.out
    have hlt : ∀ k, (Value.slice ao q.length cc).ownBlock = some k → w.heap.size < k := fun k hk => by
      have := (ho.lt k hk).1; simp at this; omega
    have hfr : Fr (· = w.heap.size) w1 _ := ((((((Fr.refl (· = w.heap.size) w1).setCell (p := ⟨w.heap.size, 0, none⟩) (fun _ => rfl) (.slice ao q.length cc)).setCell (p := ⟨w.heap.size, 1, none⟩) (fun _ => rfl) (.int .u32 rd)).setCell (p := ⟨w.heap.size, 2, none⟩) (fun _ => rfl) (.int .u32 wr)).setCell (p := ⟨w.heap.size, 3, none⟩) (fun _ => rfl) (.bool ar)).setCell (p := ⟨w.heap.size, 4, none⟩) (fun _ => rfl) (.bool aw))
    exact (ho.fr hfr (fun k hk => by have := hlt k hk; omega)).base (by simp; omega)
  · have hb : Below w.heap.size w w1 := (F0.drew.below).trans (HBE.out.mono (by simp; omega))
    exact ((((hb.setCell (p := ⟨w.heap.size, 0, none⟩) (Nat.le_refl _) _).setCell (p := ⟨w.heap.size, 1, none⟩) (Nat.le_refl _) _).setCell (p := ⟨w.heap.size, 2, none⟩) (Nat.le_refl _) _).setCell (p := ⟨w.heap.size, 3, none⟩) (Nat.le_refl _) _).setCell (p := ⟨w.heap.size, 4, none⟩) (Nat.le_refl _) _

end Go.Proofs.Ytnfpjholmidnbaa
