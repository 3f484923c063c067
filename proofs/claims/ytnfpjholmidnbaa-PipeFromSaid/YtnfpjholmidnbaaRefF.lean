/- hartixref10: From. No condition. -/
import Derived.Test.YtnfpjholmidnbaaRefT
import Derived.Deep.Cut
namespace Go.Proofs.Ytnfpjholmidnbaa
open Go.RowKit

@[irreducible] def RefFromPost (q : List Int) (rd wr : Int) (ar aw : Bool) (w : World) (e : Ending) (w' : World) : Prop :=
  ∃ Q bv, e = .returned (.tuple #[.pointer (some ⟨Q, 0, none⟩), .bool true]) ∧ w.heap.size ≤ Q ∧ RefAt w' w.heap.size Q bv q rd wr ar aw ∧ (∀ k, bv.ownBlock = some k → w.heap.size ≤ k) ∧ Below w.heap.size w w'

set_option maxRecDepth 100000 in
set_option maxHeartbeats 3200000 in
theorem reffrom_calls (q : List Int) (v : Value) (rd wr : Int) (ar aw : Bool) (w : World) (hq : BSl w v q) (hs : Sound q rd wr) :
    Calls Try.prog 27 #[.agg #[v, .int .u32 rd, .int .u32 wr, .bool ar, .bool aw]] w (RefFromPost q rd wr ar aw w) := by
  obtain ⟨hs1, hs2⟩ := hs
  have hs3 : IntKind.u32.wrap (q.length : Int) = q.length := IntWalk.u32_in _ (by omega)
  have hs4 : decide ((512 : Int) < (q.length : Int)) = false := by simp; omega
  obtain ⟨ao, c, rfl⟩ := hq.shape
  have HQ := Lib.hid hq; clear hq
  go_enter Try.func27, Try.ntmps27
  go_upto_region 3 with fail
  generalize hW : w.alloc _ = W
  have F0 : Fr No w W := by rw [← hW]; exact (Fr.refl _ _).alloc _
  have HS : Blk W w.heap.size [.slice ao q.length c, .int .u32 rd, .int .u32 wr, .bool ar, .bool aw] 41 := by rw [← hW]; exact Blk.new w _ _
  clear hW
  have hSl := HS.lt
  obtain ⟨⟨s0, s1, s2, s3, s4⟩, _⟩ := slot5 HS
  clear HS
  go_region_held3 (fun w' => w'.cell? ⟨w.heap.size, 0, none⟩ = some (.slice ao q.length c) ∧ w'.cell? ⟨w.heap.size, 1, none⟩ = some (.int .u32 rd) ∧ w'.cell? ⟨w.heap.size, 2, none⟩ = some (.int .u32 wr) ∧ w'.cell? ⟨w.heap.size, 3, none⟩ = some (.bool ar) ∧ w'.cell? ⟨w.heap.size, 4, none⟩ = some (.bool aw))
    (first
      | go_keep
      | exact ⟨k0, k1, k2, k3, k4⟩)
    (first | (go_at_call 37; refine (copied_calls q _ _ ((HQ.out.no F0).no (Fr.refl No _).drew)).mono ?_; rintro e w1 ⟨v', rfl, hown, hbel⟩; obtain ⟨bo, cc, rfl⟩ := hown.shape; have HOW := Lib.hid hown; clear hown; have HBE := Lib.hid hbel; have hsz := hbel.size; have k0 := (hbel.cell (p := ⟨w.heap.size, 0, none⟩) hSl).trans s0; have k1 := (hbel.cell (p := ⟨w.heap.size, 1, none⟩) hSl).trans s1; have k2 := (hbel.cell (p := ⟨w.heap.size, 2, none⟩) hSl).trans s2; have k3 := (hbel.cell (p := ⟨w.heap.size, 3, none⟩) hSl).trans s3; have k4 := (hbel.cell (p := ⟨w.heap.size, 4, none⟩) hSl).trans s4; clear hbel))
  rename_i hHeld
  clear hHeld
  have hb : Below w.heap.size w w1 := (F0.drew.below).trans (HBE.out.mono (by simp; omega))
  have fin : RefFromPost q rd wr ar aw w (.returned (.tuple #[.pointer (some ⟨w1.heap.size, 0, none⟩), .bool true])) (w1.alloc (.cells #[.slice bo q.length cc, .int .u32 rd, .int .u32 wr, .bool ar, .bool aw] 72)) := by
    unfold RefFromPost
    have hsz2 : W.heap.size ≤ W.drew.heap.size := Nat.le_refl _
    refine ⟨_, _, rfl, hb.size, ⟨by have := hb.size; simp; omega, Blk.new w1 [.slice bo q.length cc, .int .u32 rd, .int .u32 wr, .bool ar, .bool aw] _, ?_⟩, fun k hk => ?_, hb.alloc hb.size _⟩
    · exact ((HOW.out.fr ((Fr.refl No w1).alloc _) (fun _ _ => id)).base (by simp; omega)).1
    · have := (HOW.out.lt k hk).1; simp at this; omega
  have FIN := Lib.hid fin; clear fin hb
  go_wp2
  go_ret2
  exact FIN.out

set_option maxRecDepth 100000 in
set_option maxHeartbeats 3200000 in
theorem reffrom_bad (q : List Int) (v : Value) (rd wr : Int) (ar aw : Bool) (w : World) (hq : BSl w v q) (hs : ¬ Sound q rd wr) :
    Calls Try.prog 27 #[.agg #[v, .int .u32 rd, .int .u32 wr, .bool ar, .bool aw]] w fun e w' => e = .returned (.tuple #[.pointer none, .bool false]) ∧ Below w.heap.size w w' := by
  obtain ⟨ao, c, rfl⟩ := hq.shape
  have hl := hq.len
  clear hq
  by_cases h5 : 512 < q.length
  · have hs4 : decide ((512 : Int) < (q.length : Int)) = true := by simp; omega
    go_enter Try.func27, Try.ntmps27
    go_wp2_with fail
    go_ret2
    exact ⟨rfl, (Below.refl _ _).alloc (Nat.le_refl _) _⟩
  · have hs4 : decide ((512 : Int) < (q.length : Int)) = false := by simp; omega
    have hs3 : IntKind.u32.wrap (q.length : Int) = q.length := IntWalk.u32_in _ (by omega)
    have hs2 : ((wr - rd) % 4294967296 != (q.length : Int)) = true := by
      have : ¬ IntKind.u32.wrap (wr - rd) = (q.length : Int) := fun h => hs ⟨by omega, h⟩
      rw [IntKind.wrap_u32] at this
      simpa using this
    go_enter Try.func27, Try.ntmps27
    go_wp2_with fail
    all_goals
      go_ret2
      exact ⟨rfl, (Below.refl _ _).alloc (Nat.le_refl _) _⟩

end Go.Proofs.Ytnfpjholmidnbaa
