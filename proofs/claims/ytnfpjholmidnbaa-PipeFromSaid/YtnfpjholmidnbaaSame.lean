/- hartixlaw10.same, at states that are the same. No condition. -/
import Derived.Test.YtnfpjholmidnbaaPipeN
namespace Go.Proofs.Ytnfpjholmidnbaa
open Go.RowKit

theorem BSl.shape {w : World} {v : Value} {xs : List Int} (h : BSl w v xs) : ∃ ao c, v = .slice ao xs.length c := by
  obtain ⟨ao, c, rfl, _⟩ := h; exact ⟨ao, c, rfl⟩

set_option maxRecDepth 100000 in
set_option maxHeartbeats 3200000 in
theorem same_calls (xs : List Int) (v1 v2 : Value) (rd wr : Int) (ar aw : Bool) (w : World) (h1 : BSl w v1 xs) (h2 : BSl w v2 xs) :
    Calls Try.prog 14 #[.agg #[v1, .int .u32 rd, .int .u32 wr, .bool ar, .bool aw], .agg #[v2, .int .u32 rd, .int .u32 wr, .bool ar, .bool aw]] w fun e w' => e = .returned (.bool true) ∧ Fr No w w' := by
  obtain ⟨a1, c1, rfl⟩ := h1.shape
  obtain ⟨a2, c2, rfl⟩ := h2.shape
  have H1 := Lib.hid h1; clear h1
  have H2 := Lib.hid h2; clear h2
  go_enter Try.func14, Try.ntmps14
  go_wp2_with fail
  generalize hW : (w.alloc _).alloc _ = W
  have F : Fr No w W := by rw [← hW]; exact ((Fr.refl _ _).alloc _).alloc _
  have B1 : Blk W w.heap.size [.slice a1 xs.length c1, .int .u32 rd, .int .u32 wr, .bool ar, .bool aw] 41 := by rw [← hW]; exact (Blk.new w _ _).alloc _
  have B2 : Blk W (w.heap.size + 1) [.slice a2 xs.length c2, .int .u32 rd, .int .u32 wr, .bool ar, .bool aw] 41 := by rw [← hW]; have := Blk.new (w.alloc (.cells [Value.slice a1 xs.length c1, .int .u32 rd, .int .u32 wr, .bool ar, .bool aw].toArray 41)) [.slice a2 xs.length c2, .int .u32 rd, .int .u32 wr, .bool ar, .bool aw] 41; simpa using this
  clear hW
  obtain ⟨⟨s0, s1, s2, s3, s4⟩, _⟩ := slot5 B1
  obtain ⟨⟨t0, t1, t2, t3, t4⟩, _⟩ := slot5 B2
  clear B1 B2
  refine (bytes_calls xs xs _ _ W (H1.out.no F) (H2.out.no F)).mono ?_
  rintro e w' ⟨rfl, n, rfl⟩
  rw [show decide (xs = xs) = true from decide_eq_true rfl]
  have hu1 : (rd == rd) = true := by simp
  have hu2 : (wr == wr) = true := by simp
  go_wp2
  go_ret
  exact ⟨rfl, F.drewN n⟩

end Go.Proofs.Ytnfpjholmidnbaa
