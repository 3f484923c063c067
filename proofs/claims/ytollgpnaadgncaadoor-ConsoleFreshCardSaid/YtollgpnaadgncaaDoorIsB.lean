/- hartixref0.New, Same, hartixlaw0.Is at an error of one link. No condition. -/
import Derived.Test.YtollgpnaadgncaaDoorIs
import Derived.Deep.Cut
namespace Go.Proofs.YtollgpnaadgncaaDoor
open Go.RowKit

set_option maxRecDepth 100000 in
set_option maxHeartbeats 3200000 in
theorem newfault_calls (layer : ByteArray) (place code : Int) (w : World) :
    Calls Tryd.prog 15 #[.string layer, .int .i64 place, .int .i64 code] w fun e w' => ∃ l, e = .returned (.agg #[l, .int .i64 code]) ∧ LinkAt w' w.heap.size l layer place ∧ Below w.heap.size w w' := by
  go_enter Tryd.func15, Tryd.ntmps15
  go_wp2
  refine bodyPost_ret (v := .agg #[.slice (some ⟨w.heap.size + 1, 0, none⟩) 1 1, .int .i64 code]) (by simp [results, Tryd.results15, go_sem]) rfl ⟨_, rfl, ⟨_, _, rfl, by omega, ?_, ?_⟩, ((Below.refl _ _).alloc (Nat.le_refl _) _).alloc (by simp) _⟩
  · simp
  · simp

set_option maxRecDepth 100000 in
set_option maxHeartbeats 3200000 in
theorem samefault_calls (layer : ByteArray) (place code : Int) (v1 v2 : Value) (b1 b2 : Nat) (w : World) (h1 : LinkAt w b1 v1 layer place) (h2 : LinkAt w b2 v2 layer place) :
    Calls Tryd.prog 38 #[.agg #[v1, .int .i64 code], .agg #[v2, .int .i64 code]] w fun e w' => e = .returned (.bool true) ∧ Fr No w w' := by
  obtain ⟨G1, c1, rfl, _, p0, p1⟩ := h1
  obtain ⟨G2, c2, rfl, _, q0, q1⟩ := h2
  have hb : (!(layer.toList == layer.toList)) = false := by simp
  have hp : (place != place) = false := by simp
  have hc : (code != code) = false := by simp
  go_enter Tryd.func38, Tryd.ntmps38
  go_wp2_with fail
  generalize hW : (w.alloc _).alloc _ = W
  have F : Fr No w W := by rw [← hW]; exact ((Fr.refl _ _).alloc _).alloc _
  have B1 : Blk W w.heap.size [.slice (some ⟨G1, 0, none⟩) 1 c1, .int .i64 code] 38 := by rw [← hW]; exact (Blk.new w _ _).alloc _
  have B2 : Blk W (w.heap.size + 1) [.slice (some ⟨G2, 0, none⟩) 1 c2, .int .i64 code] 38 := by
    rw [← hW]
    have := Blk.new (w.alloc (.cells [Value.slice (some ⟨G1, 0, none⟩) 1 c1, .int .i64 code].toArray 38)) [.slice (some ⟨G2, 0, none⟩) 1 c2, .int .i64 code] 38
    simpa using this
  clear hW
  have s0 : W.cell? ⟨w.heap.size, 0, none⟩ = some (.slice (some ⟨G1, 0, none⟩) 1 c1) := B1.cell 0
  have s1 : W.cell? ⟨w.heap.size, 1, none⟩ = some (.int .i64 code) := B1.cell 1
  have s2 : W.cell? ⟨w.heap.size + 1, 0, none⟩ = some (.slice (some ⟨G2, 0, none⟩) 1 c2) := B2.cell 0
  have s3 : W.cell? ⟨w.heap.size + 1, 1, none⟩ = some (.int .i64 code) := B2.cell 1
  have p0 := F.cell p0 id
  have p1 := F.cell p1 id
  have q0 := F.cell q0 id
  have q1 := F.cell q1 id
  clear B1 B2
  have HF := Lib.hid F; clear F
  go_wp2_with fail
  refine wp_loop_rounds 2 ?_
  rw [rounds_succ]
  go_wp2_with fail
  go_quiet (fail)
  go_wp2_with fail
  rw [rounds_succ]
  go_wp2_with fail
  go_ret
  exact ⟨rfl, HF.out.drewN _⟩

set_option maxRecDepth 100000 in
set_option maxHeartbeats 3200000 in
theorem isfault_calls (v l : Value) (base : Nat) (layer : ByteArray) (place code : Int) (w : World) (h : FaultAt w v layer place code) (hl : LinkAt w base l layer place) (hc : code ≠ 0) :
    Calls Tryd.prog 14 #[v, .agg #[l, .int .i64 code]] w fun e w' => e = .returned (.bool true) ∧ Fr No w w' := by
  obtain ⟨G, c, rfl, hb⟩ := hl
  have HL := Lib.hid (show LinkAt w base (.slice (some ⟨G, 0, none⟩) 1 c) layer place from ⟨G, c, rfl, hb⟩); clear hb
  have H := Lib.hid h
  obtain ⟨F, rfl, _⟩ := h
  have HC := Lib.hid hc; clear hc
  go_enter Tryd.func14, Tryd.ntmps14
  go_wp2_with fail
  generalize hW : w.alloc _ = W
  have F0 : Fr No w W := by rw [← hW]; exact (Fr.refl _ _).alloc _
  have B1 : Blk W w.heap.size [.slice (some ⟨G, 0, none⟩) 1 c, .int .i64 code] 38 := by rw [← hW]; exact Blk.new w _ _
  clear hW
  have HB1 := Lib.hid B1; clear B1
  have HF0 := Lib.hid F0; clear F0
  refine (told_calls _ layer place code W (H.out.fr HF0.out (fun _ h => h.elim)) HC.out).mono ?_
  rintro e w1 ⟨l2, rfl, hl2, hb⟩
  obtain ⟨G2, c2, rfl, h5⟩ := hl2
  have HL2 := Lib.hid (show LinkAt w1 W.heap.size (.slice (some ⟨G2, 0, none⟩) 1 c2) layer place from ⟨G2, c2, rfl, h5⟩); clear h5
  have F1 := Fr.of_below hb
  have hb1 := HB1.out.fr F1 id
  have HF1 := Lib.hid (HF0.out.trans F1 (fun _ _ h => h)); clear hb F1
  have s0 : w1.cell? ⟨w.heap.size, 0, none⟩ = some (.slice (some ⟨G, 0, none⟩) 1 c) := hb1.cell 0
  have s1 : w1.cell? ⟨w.heap.size, 1, none⟩ = some (.int .i64 code) := hb1.cell 1
  clear hb1
  go_upto_region 2 with fail
  generalize hW : w1.alloc _ = W1
  have F2 : Fr No w1 W1 := by rw [← hW]; exact (Fr.refl _ _).alloc _
  have hB2 : Blk W1 w1.heap.size [.slice (some ⟨G2, 0, none⟩) 1 c2, .int .i64 code] 38 := by rw [← hW]; exact Blk.new w1 _ _
  clear hW
  have s0 := F2.cell s0 id
  have s1 := F2.cell s1 id
  have t0 : W1.cell? ⟨w1.heap.size, 0, none⟩ = some (.slice (some ⟨G2, 0, none⟩) 1 c2) := hB2.cell 0
  have t1 : W1.cell? ⟨w1.heap.size, 1, none⟩ = some (.int .i64 code) := hB2.cell 1
  have HF2a := Lib.hid F2; clear F2 hB2
  go_wp2_with fail
  have F2 := HF2a.out
  refine (samefault_calls layer place code _ _ base W.heap.size W1 ((HL.out.fr HF1.out (fun _ _ => id)).fr F2 (fun _ _ => id)) (HL2.out.fr F2 (fun _ _ => id))).mono ?_
  rintro e w2 ⟨rfl, hf2⟩
  have HF2 := Lib.hid ((HF1.out.trans F2 (fun _ _ h => h)).trans hf2 (fun _ _ h => h)); clear hf2 F2
  go_wp2_with fail
  go_ret
  exact ⟨rfl, HF2.out⟩

end Go.Proofs.YtollgpnaadgncaaDoor
