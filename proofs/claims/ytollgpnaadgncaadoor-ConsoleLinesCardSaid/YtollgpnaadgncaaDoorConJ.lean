/- console: From joined; the methods of a console that no call made; states; works. No condition. -/
import Derived.Test.YtollgpnaadgncaaDoorConI
import Derived.Lib.SlBytesConst
namespace Go.Proofs.YtollgpnaadgncaaDoor
open Go.RowKit

theorem from_calls (d l : List Int) (v1 v2 : Value) (w : World) (h1 : BSl w v1 d) (h2 : BSl w v2 l) (g1 : InB d) (g2 : InB l) (hk : KeysAt w) :
    Calls Tryd.prog 11 #[.agg #[v1, v2]] w (FromPost d l w) := by
  by_cases hb : d.length + l.length > 128 ∨ (d.length + l.length = 128 ∧ l ≠ [])
  · exact from_size_calls d l v1 v2 w h1 h2 hb
  · refine from_scan_calls d l v1 v2 w h1 h2 g1 g2 hk (by omega) (fun h => ?_)
    refine Decidable.byContradiction fun hn => hb (.inr ⟨h, hn⟩)

/-- a console that neither New nor From made -/
def Nobody (w : World) (p : Value) : Prop := p = .pointer none ∨ ∃ b, p = .pointer (some ⟨b, 0, none⟩) ∧ w.cell? ⟨b, 0, none⟩ = some (.bool false)
theorem Nobody.fr {S : Nat → Prop} {w w' : World} {p : Value} (h : Nobody w p) (hf : Fr S w w') (hn : ∀ b o s, p = .pointer (some ⟨b, o, s⟩) → ¬ S b) : Nobody w' p := by
  rcases h with rfl | ⟨b, rfl, hc⟩
  · exact .inl rfl
  · exact .inr ⟨b, rfl, hf.cell hc (hn b 0 none rfl)⟩

theorem none_nobody {w : World} {p : Value} (h : Nobody w p) : Calls Tryd.prog 39 #[p] w fun e w' => e = .returned (.bool true) ∧ w = w' := by
  rcases h with rfl | ⟨b, rfl, hc⟩
  · exact none_nil_calls w
  · exact none_zero_calls b w hc

set_option maxHeartbeats 800000 in
theorem type_nobody {w : World} {p : Value} (h : Nobody w p) (c : Int) : Calls Tryd.prog 23 #[p, .int .u8 c] w fun e w' => e = .returned (.tuple #[.slice none 0 0, .bool false]) ∧ w = w' := by
  have H := Lib.hid (none_nobody h); clear h
  go_enter Tryd.func23, Tryd.ntmps23
  go_wp2_with (go_at_call 39; refine H.out.mono ?_; rintro e w' ⟨rfl, rfl⟩)
  go_ret2
  exact ⟨rfl, rfl⟩

set_option maxHeartbeats 800000 in
theorem ready_nobody {w : World} {p : Value} (h : Nobody w p) : Calls Tryd.prog 30 #[p] w fun e w' => e = .returned (.bool false) ∧ w = w' := by
  have H := Lib.hid (none_nobody h); clear h
  go_enter Tryd.func30, Tryd.ntmps30
  go_wp2_with (go_at_call 39; refine H.out.mono ?_; rintro e w' ⟨rfl, rfl⟩)
  go_ret
  exact ⟨rfl, rfl⟩

set_option maxHeartbeats 800000 in
theorem take_nobody {w : World} {p : Value} (h : Nobody w p) (n : Int) : Calls Tryd.prog 25 #[p, .int .i64 n] w fun e w' => e = .returned (.tuple #[.slice none 0 0, .bool false]) ∧ w = w' := by
  have H := Lib.hid (ready_nobody h); clear h
  go_enter Tryd.func25, Tryd.ntmps25
  go_wp2_with (go_at_call 30; refine H.out.mono ?_; rintro e w' ⟨rfl, rfl⟩)
  go_ret2
  exact ⟨rfl, rfl⟩

set_option maxHeartbeats 800000 in
theorem peek_nobody {w : World} {p : Value} (h : Nobody w p) (n : Int) : Calls Tryd.prog 17 #[p, .int .i64 n] w fun e w' => e = .returned (.tuple #[.slice none 0 0, .bool false]) ∧ w = w' := by
  have H := Lib.hid (ready_nobody h); clear h
  go_enter Tryd.func17, Tryd.ntmps17
  go_wp2_with (go_at_call 30; refine H.out.mono ?_; rintro e w' ⟨rfl, rfl⟩)
  go_ret2
  exact ⟨rfl, rfl⟩

set_option maxHeartbeats 800000 in
theorem state_nobody {w : World} {p : Value} (h : Nobody w p) : Calls Tryd.prog 16 #[p] w fun e w' =>
    e = .returned (.agg #[.slice none 0 0, .slice none 0 0]) ∧ Fr No w w' := by
  go_enter Tryd.func16, Tryd.ntmps16
  go_wp2_with fail
  generalize hW : w.alloc _ = W
  have F0 : Fr No w W := by rw [← hW]; exact (Fr.refl _ _).alloc _
  have HS : Blk W w.heap.size [.slice none 0 0, .slice none 0 0] 24 := by rw [← hW]; exact Blk.new w _ _
  clear hW
  have H := Lib.hid (none_nobody (h.fr F0 (fun _ _ _ _ => id))); clear h
  have s0 : W.cell? ⟨w.heap.size, 0, none⟩ = some (.slice none 0 0) := HS.cell 0
  have s1 : W.cell? ⟨w.heap.size, 1, none⟩ = some (.slice none 0 0) := HS.cell 1
  have f0 := HS.free 0
  have f1 := HS.free 1
  clear HS
  refine H.out.mono ?_
  rintro e w' ⟨rfl, rfl⟩
  go_wp2
  refine bodyPost_ret (v := .agg #[.slice none 0 0, .slice none 0 0]) (by simp [results, Tryd.results16, go_sem, s0, s1]) rfl ⟨rfl, ?_⟩
  have hb : Below w.heap.size w W := F0.below
  exact Fr.of_below ((hb.setCell (p := ⟨w.heap.size, 0, none⟩) (Nat.le_refl _) _).setCell (p := ⟨w.heap.size, 1, none⟩) (Nat.le_refl _) _)

set_option maxRecDepth 100000 in
set_option maxHeartbeats 3200000 in
/-- hartixlaw11.states, at states that are the same -/
theorem states_calls (d l : List Int) (v1 v2 u1 u2 : Value) (w : World) (h1 : BSl w v1 d) (h2 : BSl w v2 l) (k1 : BSl w u1 d) (k2 : BSl w u2 l) :
    Calls Tryd.prog 18 #[.agg #[v1, v2], .agg #[u1, u2]] w fun e w' => e = .returned (.bool true) ∧ Fr No w w' := by
  obtain ⟨a1, c1, rfl⟩ := h1.shape
  obtain ⟨a2, c2, rfl⟩ := h2.shape
  obtain ⟨a3, c3, rfl⟩ := k1.shape
  obtain ⟨a4, c4, rfl⟩ := k2.shape
  have H1 := Lib.hid h1; clear h1
  have H2 := Lib.hid h2; clear h2
  have K1 := Lib.hid k1; clear k1
  have K2 := Lib.hid k2; clear k2
  go_enter Tryd.func18, Tryd.ntmps18
  go_wp2_with fail
  generalize hW : (w.alloc _).alloc _ = W
  have F : Fr No w W := by rw [← hW]; exact ((Fr.refl _ _).alloc _).alloc _
  have B1 : Blk W w.heap.size [.slice a1 d.length c1, .slice a2 l.length c2] 24 := by rw [← hW]; exact (Blk.new w _ _).alloc _
  have B2 : Blk W (w.heap.size + 1) [.slice a3 d.length c3, .slice a4 l.length c4] 24 := by rw [← hW]; have := Blk.new (w.alloc (.cells [Value.slice a1 d.length c1, .slice a2 l.length c2].toArray 24)) [.slice a3 d.length c3, .slice a4 l.length c4] 24; simpa using this
  clear hW
  have HB1 := Lib.hid B1; clear B1
  have HB2 := Lib.hid B2; clear B2
  refine (bytes_calls d d _ _ W (H1.out.no F) (K1.out.no F)).mono ?_
  rintro e w' ⟨rfl, n, rfl⟩
  rw [show decide (d = d) = true from decide_eq_true rfl]
  have F2 : Fr No w (W.drewN n) := F.drewN n
  have s1 : (W.drewN n).cell? ⟨w.heap.size, 1, none⟩ = some (.slice a2 l.length c2) := (HB1.out.drewN n).cell 1
  have s2 : (W.drewN n).cell? ⟨w.heap.size + 1, 1, none⟩ = some (.slice a4 l.length c4) := (HB2.out.drewN n).cell 1
  generalize hV : W.drewN n = V at *
  clear hV
  have HF := Lib.hid F2; clear F F2
  go_wp2_with fail
  refine (bytes_calls l l _ _ V (H2.out.no HF.out) (K2.out.no HF.out)).mono ?_
  rintro e w' ⟨rfl, m, rfl⟩
  rw [show decide (l = l) = true from decide_eq_true rfl]
  go_wp2
  go_ret
  exact ⟨rfl, HF.out.drewN m⟩

end Go.Proofs.YtollgpnaadgncaaDoor
