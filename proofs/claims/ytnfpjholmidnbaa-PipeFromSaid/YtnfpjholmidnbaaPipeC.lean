/- pipe.Pipe: State. No condition. -/
import Derived.Test.YtnfpjholmidnbaaPipeB
namespace Go.Proofs.Ytnfpjholmidnbaa
open Go.RowKit

theorem state_cells {w : World} {b : Nat} {q : List Int} {rd wr : Int} {sr sw : Bool} (h : PipeAt w b q rd wr sr sw) :
    w.cell? ⟨b, 0, none⟩ = some (.bool true) ∧ w.cell? ⟨b, 514, none⟩ = some (.int .i64 q.length) ∧ w.cell? ⟨b, 515, none⟩ = some (.int .u32 rd) ∧ w.cell? ⟨b, 516, none⟩ = some (.int .u32 wr) ∧
      w.cell? ⟨b, 517, none⟩ = some (.bool sr) ∧ w.cell? ⟨b, 518, none⟩ = some (.bool sw) := by
  obtain ⟨hr, ring, at_, h1, h2, h3, h4, hb⟩ := h
  exact ⟨(hb.cell 0).trans pcells_made, (hb.cell 514).trans (pcells_tail h1 1), (hb.cell 515).trans (pcells_tail h1 2), (hb.cell 516).trans (pcells_tail h1 3), (hb.cell 517).trans (pcells_tail h1 4), (hb.cell 518).trans (pcells_tail h1 5)⟩

theorem slot5 {w : World} {g : Nat} {a0 a1 a2 a3 a4 : Value} {t : TypeId} (h : Blk w g [a0, a1, a2, a3, a4] t) :
    (w.cell? ⟨g, 0, none⟩ = some a0 ∧ w.cell? ⟨g, 1, none⟩ = some a1 ∧ w.cell? ⟨g, 2, none⟩ = some a2 ∧ w.cell? ⟨g, 3, none⟩ = some a3 ∧ w.cell? ⟨g, 4, none⟩ = some a4) ∧
      w.frozen? ⟨g, 0, none⟩ = false ∧ w.frozen? ⟨g, 1, none⟩ = false ∧ w.frozen? ⟨g, 2, none⟩ = false ∧ w.frozen? ⟨g, 3, none⟩ = false ∧ w.frozen? ⟨g, 4, none⟩ = false :=
  ⟨⟨h.cell 0, h.cell 1, h.cell 2, h.cell 3, h.cell 4⟩, h.free 0, h.free 1, h.free 2, h.free 3, h.free 4⟩

set_option maxRecDepth 100000 in
set_option maxHeartbeats 3200000 in
theorem state_calls (b : Nat) (q : List Int) (rd wr : Int) (sr sw : Bool) (w : World) (h : PipeAt w b q rd wr sr sw) :
    Calls Try.prog 15 #[.pointer (some ⟨b, 0, none⟩)] w fun e w' => ∃ v', e = .returned (.agg #[v', .int .u32 rd, .int .u32 wr, .bool (!sr), .bool (!sw)]) ∧ Own w' w.heap.size v' q ∧ Below w.heap.size w w' := by
  have hbl := h.lt
  go_enter Try.func15, Try.ntmps15
  go_wp2_with fail
  generalize hW : w.alloc _ = W
  have F0 : Fr No w W := by rw [← hW]; exact (Fr.refl _ _).alloc _
  have HS : Blk W w.heap.size [.slice none 0 0, .int .u32 0, .int .u32 0, .bool false, .bool false] 41 := by rw [← hW]; exact Blk.new w _ _
  clear hW
  have hP := h.fr F0 id
  obtain ⟨c0, c1, c2, c3, c4, c5⟩ := state_cells hP
  have hn : (w.heap.size) ≠ b := by omega
  have hs := HS.lt
  have HSH := Lib.hid HS
  have HP := Lib.hid hP; clear hP h
  obtain ⟨⟨s0, s1, s2, s3, s4⟩, f0, f1, f2, f3, f4⟩ := slot5 HS
  clear HS
  refine (is_calls b W c0).mono ?_
  rintro e w' ⟨rfl, rfl⟩
  go_wp2_with fail
  go_region_held3 (fun w' => w'.cell? ⟨b, 514, none⟩ = some (.int .i64 q.length) ∧ w'.cell? ⟨b, 515, none⟩ = some (.int .u32 rd) ∧ w'.cell? ⟨b, 516, none⟩ = some (.int .u32 wr) ∧
      w'.cell? ⟨b, 517, none⟩ = some (.bool sr) ∧ w'.cell? ⟨b, 518, none⟩ = some (.bool sw))
    (first
      | go_keep
      | exact ⟨k1, k2, k3, k4, k5⟩)
    (first | (go_at_call 36; refine (front_calls b q rd wr sr sw q.length _ (HP.out.fr (Fr.refl No _).drew id) (Nat.le_refl _)).mono ?_; rintro e w1 ⟨v', rfl, hown, hbel⟩; obtain ⟨ao, cc, rfl⟩ := hown.shape; have hblk := HSH.out.drew.fr (Fr.of_below hbel) id; obtain ⟨⟨t0, t1, t2, t3, t4⟩, g0, g1, g2, g3, g4⟩ := slot5 hblk; have HBK := Lib.hid hblk; clear hblk; have HOW := Lib.hid hown; clear hown; have HBE := Lib.hid hbel; have hsz := hbel.size; have k1 := (hbel.cell (p := ⟨b, 514, none⟩) (by simp; omega)).trans c1; have k2 := (hbel.cell (p := ⟨b, 515, none⟩) (by simp; omega)).trans c2; have k3 := (hbel.cell (p := ⟨b, 516, none⟩) (by simp; omega)).trans c3; have k4 := (hbel.cell (p := ⟨b, 517, none⟩) (by simp; omega)).trans c4; have k5 := (hbel.cell (p := ⟨b, 518, none⟩) (by simp; omega)).trans c5; clear hbel))
  rename_i hHeld
  clear hHeld
  go_wp2
  refine bodyPost_ret (v := .agg #[.slice ao q.length cc, .int .u32 rd, .int .u32 wr, .bool (!sr), .bool (!sw)]) (by simp [results, Try.results15, go_sem, t0, t1, t2, t3, t4]) rfl ⟨_, rfl, ?_, ?_⟩
  · have ho := HOW.out
    rw [List.take_of_length_le (Nat.le_refl _)] at ho
    have hlt : ∀ k, (Value.slice ao q.length cc).ownBlock = some k → w.heap.size < k := fun k hk => by
      have := (ho.lt k hk).1; simp at this; omega
    have hfr : Fr (· = w.heap.size) w1 _ := ((((((Fr.refl (· = w.heap.size) w1).setCell (p := ⟨w.heap.size, 0, none⟩) (fun _ => rfl) (.slice ao q.length cc)).setCell (p := ⟨w.heap.size, 1, none⟩) (fun _ => rfl) (.int .u32 rd)).setCell (p := ⟨w.heap.size, 2, none⟩) (fun _ => rfl) (.int .u32 wr)).setCell (p := ⟨w.heap.size, 3, none⟩) (fun _ => rfl) (.bool !sr)).setCell (p := ⟨w.heap.size, 4, none⟩) (fun _ => rfl) (.bool !sw))
    exact (ho.fr hfr (fun k hk => by have := hlt k hk; omega)).base (by simp; omega)
  · have hb : Below w.heap.size w w1 := (F0.drew.below).trans (HBE.out.mono (by simp; omega))
    exact ((((hb.setCell (p := ⟨w.heap.size, 0, none⟩) (Nat.le_refl _) _).setCell (p := ⟨w.heap.size, 1, none⟩) (Nat.le_refl _) _).setCell (p := ⟨w.heap.size, 2, none⟩) (Nat.le_refl _) _).setCell (p := ⟨w.heap.size, 3, none⟩) (Nat.le_refl _) _).setCell (p := ⟨w.heap.size, 4, none⟩) (Nat.le_refl _) _

end Go.Proofs.Ytnfpjholmidnbaa
