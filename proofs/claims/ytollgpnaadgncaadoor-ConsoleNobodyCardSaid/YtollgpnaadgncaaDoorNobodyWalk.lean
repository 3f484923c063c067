/- ConsoleNobody: the walk. No condition. -/
import Derived.Test.YtollgpnaadgncaaDoorConW
namespace Go.Proofs.YtollgpnaadgncaaDoor
open Go.RowKit

set_option maxRecDepth 100000 in
set_option maxHeartbeats 3200000 in
theorem nobody_walk (c n : Int) (w : World) (hk : KeysAt w) :
    Calls Tryd.prog 9 #[.int .u8 c, .int .i64 n] w fun e w' => e = .returned (.bool true) ∧ Below w.heap.size w w' := by
  have hz := zcon_run
  have hn := zcon_ne
  have HK := Lib.hid hk; clear hk
  go_enter Tryd.func9, Tryd.ntmps9
  go_wp2_with fail
  refine (works_calls w HK.out).mono ?_
  rintro e w1 ⟨rfl, hB1⟩
  have HB1 := Lib.hid hB1; clear hB1
  go_wp2_with fail
  clear hz hn
  generalize hW : (w1.alloc _).alloc _ = W
  have hZ : Blk W w1.heap.size zcon.toList 70 := by
    rw [← hW]
    have := (Blk.new w1 zcon.toList 70).alloc (.cells #[.pointer none, .pointer (some ⟨w1.heap.size, 0, none⟩)] 26)
    simpa using this
  have hL : Blk W (w1.heap.size + 1) [.pointer none, .pointer (some ⟨w1.heap.size, 0, none⟩)] 26 := by
    rw [← hW]
    have := Blk.new (w1.alloc (.cells zcon 70)) [.pointer none, .pointer (some ⟨w1.heap.size, 0, none⟩)] 26
    simpa using this
  have F1 : Fr No w1 W := by rw [← hW]; exact ((Fr.refl _ _).alloc _).alloc _
  clear hW
  have HZ := Lib.hid hZ; clear hZ
  have HL := Lib.hid hL; clear hL
  have HBW := Lib.hid (HB1.out.trans (F1.below.mono HB1.out.size)); clear F1
  go_loopg [6] 2 (fun g i wr => (∃ k : Nat, k ≤ 2 ∧ g = 2 - k ∧ i = .int .i64 k) ∧ Fr No W wr)
  case atStart => exact ⟨⟨0, by omega, rfl, rfl⟩, Fr.refl _ _⟩
  case round =>
    obtain ⟨⟨k, hk, rfl, rfl⟩, hf⟩ := hrel
    have HF := Lib.hid hf; clear hf
    have hl := HL.out.fr HF.out id
    have p0 : wr.cell? ⟨w1.heap.size + 1, 0, none⟩ = some (.pointer none) := hl.cell 0
    have p1 : wr.cell? ⟨w1.heap.size + 1, 1, none⟩ = some (.pointer (some ⟨w1.heap.size, 0, none⟩)) := hl.cell 1
    clear hl
    have HNB0 := Lib.hid (show Nobody wr (.pointer none) from .inl rfl)
    have HNB1 := Lib.hid (show Nobody wr (.pointer (some ⟨w1.heap.size, 0, none⟩)) from .inr ⟨_, rfl, (HZ.out.fr HF.out id).cell 0⟩)
    by_cases hlt : k < 2
    · by_cases hk0 : k = 0
      case' pos =>
        subst hk0
        obtain ⟨P, hP⟩ : ∃ P, P = Value.pointer none := ⟨_, rfl⟩
        have HNB := HNB0
        have p2 := p0
        rw [← hP] at p2 HNB
      case' neg =>
        obtain rfl : k = 1 := by omega
        obtain ⟨P, hP⟩ : ∃ P, P = Value.pointer (some ⟨w1.heap.size, 0, none⟩) := ⟨_, rfl⟩
        have HNB := HNB1
        have p2 := p1
        rw [← hP] at p2 HNB
      all_goals
        clear p0 p1 HNB0 HNB1 hP
        go_wp2_with (first | (go_at_call 23; refine (type_nobody HNB.out _).mono ?_; rintro e w' ⟨rfl, rfl⟩) | (go_at_call 25; refine (take_nobody HNB.out _).mono ?_; rintro e w' ⟨rfl, rfl⟩) | (go_at_call 17; refine (peek_nobody HNB.out _).mono ?_; rintro e w' ⟨rfl, rfl⟩) | (go_at_call 30; refine (ready_nobody HNB.out).mono ?_; rintro e w' ⟨rfl, rfl⟩))
        refine (state_nobody HNB.out).mono ?_
        rintro e w5 ⟨rfl, hf5⟩
        have HF5 := Lib.hid hf5; clear hf5
        go_wp2_with fail
        refine (states_calls [] [] _ _ _ _ w5 (BSl.nil _) (BSl.nil _) (BSl.nil _) (BSl.nil _)).mono ?_
        rintro e w6 ⟨rfl, hf6⟩
        have HF6 := Lib.hid ((HF.out.trans HF5.out (fun _ _ h => h)).trans hf6 (fun _ _ h => h)); clear hf6
        go_wp2_with fail
      · go_roundg 0
        case measure => omega
        case rel => exact ⟨⟨2, by omega, rfl, by go_num⟩, HF6.out⟩
      · go_roundg 1
        case measure => omega
        case rel => exact ⟨⟨1, by omega, rfl, by go_num⟩, HF6.out⟩
    · obtain rfl : k = 2 := by omega
      go_wp2_with fail
      go_ret
      exact ⟨rfl, HBW.out.trans (HF.out.below.mono HBW.out.size)⟩

end Go.Proofs.YtollgpnaadgncaaDoor
