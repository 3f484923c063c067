/- pipe.From: a state of no pipe; made. No condition. -/
import Derived.Test.YtnfpjholmidnbaaFrom
namespace Go.Proofs.Ytnfpjholmidnbaa
open Go.RowKit

/-- an error of one link: layer, place, number -/
def FaultAt (w : World) (v : Value) (layer : ByteArray) (place code : Int) : Prop :=
  ∃ F, v = .iface 76 (.pointer (some ⟨F, 0, none⟩)) ∧ Blk w F [.string layer, .int .i64 place, .iface 77 (.int .i64 code)] 79

theorem FaultAt.fr {S : Nat → Prop} {w w' : World} {v : Value} {l : ByteArray} {a c : Int} (h : FaultAt w v l a c) (hf : Fr S w w') (hS : ∀ k, S k → w.heap.size ≤ k) : FaultAt w' v l a c := by
  obtain ⟨F, rfl, hb⟩ := h
  exact ⟨F, rfl, hb.fr hf (fun h => by have := hS F h; have := hb.lt; omega)⟩

set_option maxRecDepth 100000 in
set_option maxHeartbeats 3200000 in
theorem from_bad (q : List Int) (v : Value) (rd wr : Int) (ar aw : Bool) (w : World) (hq : BSl w v q) (hs : ¬ Sound q rd wr) :
    Calls Try.prog 26 #[.agg #[v, .int .u32 rd, .int .u32 wr, .bool ar, .bool aw]] w fun e w' => ∃ i, e = .returned (.tuple #[.pointer none, .iface 76 i]) ∧ FaultAt w' (.iface 76 i) ⟨#[112, 105, 112, 101]⟩ 0 4 ∧ Below w.heap.size w w' := by
  obtain ⟨ao, c, rfl⟩ := hq.shape
  have hl := hq.len
  clear hq
  have fin : ∀ o, FaultAt ((w.alloc o).alloc (.cells #[.string ⟨#[112, 105, 112, 101]⟩, .int .i64 0, .iface 77 (.int .i64 4)] 79)) (.iface 76 (.pointer (some ⟨w.heap.size + 1, 0, none⟩))) ⟨#[112, 105, 112, 101]⟩ 0 4 ∧
        Below w.heap.size w ((w.alloc o).alloc (.cells #[.string ⟨#[112, 105, 112, 101]⟩, .int .i64 0, .iface 77 (.int .i64 4)] 79)) := fun o =>
    ⟨⟨w.heap.size + 1, rfl, by
      have := Blk.new (w.alloc o) [.string ⟨#[112, 105, 112, 101]⟩, .int .i64 0, .iface 77 (.int .i64 4)] 79
      simpa using this⟩, ((Below.refl _ _).alloc (Nat.le_refl _) _).alloc (by simp) _⟩
  have FIN := Lib.hid fin; clear fin
  by_cases h5 : 512 < q.length
  · have hs4 : decide ((512 : Int) < (q.length : Int)) = true := by simp; omega
    go_enter Try.func26, Try.ntmps26
    go_wp2_with fail
    go_ret2
    exact ⟨_, rfl, FIN.out _⟩
  · have hs4 : decide ((512 : Int) < (q.length : Int)) = false := by simp; omega
    have hs3 : IntKind.u32.wrap (q.length : Int) = q.length := IntWalk.u32_in _ (by omega)
    have hs2 : ((wr - rd) % 4294967296 != (q.length : Int)) = true := by
      have : ¬ IntKind.u32.wrap (wr - rd) = (q.length : Int) := fun h => hs ⟨by omega, h⟩
      rw [IntKind.wrap_u32] at this
      simpa using this
    go_enter Try.func26, Try.ntmps26
    go_wp2_with fail
    go_ret2
    exact ⟨_, rfl, FIN.out _⟩

/-- what a state makes -/
def MadeAt (w : World) (P : Nat) (q : List Int) (rd wr : Int) (ar aw : Bool) : Prop :=
  (Sound q rd wr ∧ PipeAt w P q rd wr (!ar) (!aw)) ∨ (¬ Sound q rd wr ∧ PipeAt w P [] 0 0 false false)

set_option maxRecDepth 100000 in
set_option maxHeartbeats 3200000 in
theorem made_calls (q : List Int) (v : Value) (rd wr : Int) (ar aw : Bool) (w : World) (hq : BSl w v q) (hr : 0 ≤ rd ∧ rd < 4294967296 ∧ 0 ≤ wr ∧ wr < 4294967296) :
    Calls Try.prog 24 #[.agg #[v, .int .u32 rd, .int .u32 wr, .bool ar, .bool aw]] w fun e w' => ∃ P, e = .returned (.pointer (some ⟨P, 0, none⟩)) ∧ w.heap.size ≤ P ∧ MadeAt w' P q rd wr ar aw ∧ Below w.heap.size w w' := by
  obtain ⟨ao, c, rfl⟩ := hq.shape
  have HQ := Lib.hid hq; clear hq
  by_cases hs : Sound q rd wr
  · have HS := Lib.hid hs; clear hs
    go_enter Try.func24, Try.ntmps24
    go_wp2_with fail
    generalize hW : w.alloc _ = W
    have F0 : Fr No w W := by rw [← hW]; exact (Fr.refl _ _).alloc _
    clear hW
    refine (from_calls q _ rd wr ar aw W (HQ.out.no F0) hr HS.out).mono ?_
    rintro e w1 ⟨P, rfl, h1, h2, h3⟩
    have FIN := Lib.hid (show w.heap.size ≤ P ∧ MadeAt w1 P q rd wr ar aw ∧ Below w.heap.size w w1 from ⟨Nat.le_trans F0.size h1, .inl ⟨HS.out, h2⟩, F0.below.trans (h3.mono F0.size)⟩)
    clear h1 h2 h3 F0
    go_wp2_with fail
    go_ret
    exact ⟨P, rfl, FIN.out⟩
  · have HS := Lib.hid hs; clear hs
    go_enter Try.func24, Try.ntmps24
    go_wp2_with fail
    generalize hW : w.alloc _ = W
    have F0 : Fr No w W := by rw [← hW]; exact (Fr.refl _ _).alloc _
    clear hW
    refine (from_bad q _ rd wr ar aw W (HQ.out.no F0) HS.out).mono ?_
    rintro e w1 ⟨i, rfl, h1, h3⟩
    have F1 := Lib.hid (F0.below.trans (h3.mono F0.size))
    clear h1 h3 F0
    go_wp2_with fail
    refine (new_calls w1).mono ?_
    rintro e w2 ⟨rfl, h1, h3⟩
    have FIN := Lib.hid (show w.heap.size ≤ w1.heap.size ∧ MadeAt w2 w1.heap.size q rd wr ar aw ∧ Below w.heap.size w w2 from ⟨F1.out.size, .inr ⟨HS.out, h1⟩, F1.out.trans (h3.mono F1.out.size)⟩)
    clear h1 h3
    go_wp2_with fail
    go_ret
    exact ⟨_, rfl, FIN.out⟩

end Go.Proofs.Ytnfpjholmidnbaa
