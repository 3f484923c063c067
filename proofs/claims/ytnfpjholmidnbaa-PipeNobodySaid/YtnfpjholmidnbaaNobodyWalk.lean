/- PipeNobody: the walk. No condition. -/
import Derived.Test.YtnfpjholmidnbaaSame
namespace Go.Proofs.Ytnfpjholmidnbaa
open Go.RowKit

theorem zpipe_zero : zpipe[0]? = some (.bool false) := by simp [zpipe]

/-- one round of PipeNobody's loop, at the pipe p -/
theorem nobody_two {w : World} {lb : Nat} {p0 p1 : Value} (h : Blk w lb [p0, p1] 24) : w.cell? ⟨lb, 0, none⟩ = some p0 ∧ w.cell? ⟨lb, 1, none⟩ = some p1 := ⟨h.cell 0, h.cell 1⟩

set_option maxRecDepth 100000 in
set_option maxHeartbeats 6400000 in
theorem nobody_walk (vb : Value) (n : Int) (w : World) :
    Calls Try.prog 5 #[vb, .int .i64 n] w fun e w' => e = .returned (.bool true) ∧ Below w.heap.size w w' := by
  have hz := zpipe_run
  have hzn := zpipe_ne
  have HZ := Lib.hid zpipe_zero
  obtain ⟨C, hC⟩ : ∃ C, C = zpipe := ⟨_, rfl⟩
  rw [← hC] at HZ
  simp only [← hC] at hz hzn
  clear hC
  go_enter Try.func5, Try.ntmps5
  go_wp2_with fail
  clear hz hzn
  generalize hW : (w.alloc _).alloc _ = W
  have hB : Below w.heap.size w W := by rw [← hW]; exact ((Below.refl _ _).alloc (Nat.le_refl _) _).alloc (by simp) _
  have hL : Blk W (w.heap.size + 1) [.pointer none, .pointer (some ⟨w.heap.size, 0, none⟩)] 24 := by
    rw [← hW]; have := Blk.new (w.alloc (.cells C 47)) [.pointer none, .pointer (some ⟨w.heap.size, 0, none⟩)] 24; simpa using this
  have hN : W.cell? ⟨w.heap.size, 0, none⟩ = some (.bool false) := by
    rw [← hW, World.cell?_alloc_lt _ _ _ (by simp), World.cell?_alloc_new, HZ.out]
  clear hW HZ
  have HB := Lib.hid hB; clear hB
  have HL := Lib.hid hL; clear hL
  have HN := Lib.hid hN; clear hN
  go_loopw [6] (fun i wr => ∃ k : Nat, k ≤ 2 ∧ i = .int .i64 k ∧ Blk wr (w.heap.size + 1) [.pointer none, .pointer (some ⟨w.heap.size, 0, none⟩)] 24 ∧ wr.cell? ⟨w.heap.size, 0, none⟩ = some (.bool false) ∧ Below w.heap.size w wr) (fun i _ => 2 - (intOf i).toNat)
  case atStart => exact ⟨0, Nat.zero_le _, rfl, HL.out, HN.out, HB.out⟩
  case round =>
    obtain ⟨k, hk, rfl, hL, hN, hB⟩ := hrel
    obtain ⟨l0, l1⟩ := nobody_two hL
    have HLR := Lib.hid hL
    have HNR := Lib.hid hN
    have HBR := Lib.hid hB
    by_cases hk2 : k = 2
    · subst hk2
      clear hL hN hB
      have kc := fun (w : World) (C : Array Value) (n c : Nat) => Lib.run_convert_bytes_const (P := Try.prog) w 34 5 C n c Try.underlying34 Try.underlying5
      clear l0 l1
      go_wp2_with fail
      refine (new_calls wr).mono ?_
      rintro e w1 ⟨rfl, hP, hB⟩
      have HP := Lib.hid hP; clear hP
      have HB1 := Lib.hid (HBR.out.trans (hB.mono HBR.out.size)); clear hB
      go_wp2_with fail
      clear kc
      generalize hW : w1.alloc _ = W1
      have F1 : Fr No w1 W1 := by rw [← hW]; exact (Fr.refl _ _).alloc _
      have hsl : BSl W1 (.slice (some ⟨w1.heap.size, 0, none⟩) 1 1) [97] := by
        refine ⟨_, 1, rfl, by simp, by omega, by simp, fun _ => ⟨w1.heap.size, 0, rfl, fun j hj => ?_⟩⟩
        rw [← hW, World.cell?_alloc_mark]
        match j, hj with
        | 0, _ => rfl
      clear hW
      have hB1 : Below w.heap.size w W1 := HB1.out.trans (F1.below.mono HB1.out.size)
      have hlt : wr.heap.size < w1.heap.size := HP.out.lt
      have hput := put_calls _ [] [97] 0 0 false false _ W1 (HP.out.fr F1 id) hsl (by simp [Value.ownBlock]; omega)
      rw [show putK [97] [] false = 1 by decide, show putHow [97] [] false = 1 by decide] at hput
      refine hput.mono ?_
      clear hput hsl
      rintro e w2 ⟨rfl, hP2, hF2⟩
      have HP2 := Lib.hid (show PipeAt w2 wr.heap.size [97] 0 1 false false by simpa using hP2)
      have hB2 := Fr.below_of hB1 hF2 hB1.size (fun k hk => by rw [hk]; exact HBR.out.size)
      have HB2 := Lib.hid hB2; clear hB2 hF2 hP2 hB1 F1
      go_wp2_with fail
      have htake := take_calls _ [97] 0 1 false false 2 w2 HP2.out (by omega) (by omega)
      rw [show takeK 2 [97] = 1 by decide, show takeHow 2 [97] false = 1 by decide] at htake
      refine htake.mono ?_
      clear htake
      rintro e w3 ⟨v3, rfl, ho3, hP3, hF3⟩
      have hB3 := Fr.below_of HB2.out hF3 HB2.out.size (fun k hk => by rw [hk]; exact HBR.out.size)
      have HB3 := Lib.hid hB3; clear hB3 hF3 hP3
      have HO3 := Lib.hid (show Own w3 w2.heap.size v3 [97] by simpa using ho3); clear ho3
      obtain ⟨a3, c3, rfl⟩ := HO3.out.shape
      have cv3 := conv_str (HO3.out.bsl (by simp)) (by simp)
      rw [show strOfNums [97] = ⟨#[97]⟩ from rfl] at cv3
      simp only [List.length_singleton] at cv3
      go_wp2_with fail
      go_ret
      exact ⟨rfl, HB3.out⟩
    · have hp : ∃ p, (wr.cell? ⟨w.heap.size + 1, k, none⟩ = some p) ∧ Nobody wr p ∧ (∀ b o s, p = .pointer (some ⟨b, o, s⟩) → b = w.heap.size) ∧ ∃ a, p = .pointer a := by
        have : k = 0 ∨ k = 1 := by omega
        rcases this with rfl | rfl
        · exact ⟨_, l0, .inl rfl, fun b o s h => (by cases h), _, rfl⟩
        · exact ⟨_, l1, .inr ⟨_, rfl, hN⟩, fun b o s h => (by cases h; rfl), _, rfl⟩
      obtain ⟨p, hc, hnb, hpb, a, rfl⟩ := hp
      have hlt : k < 2 := by omega
      clear hL hN hB l0 l1 hk2
      have HNB := Lib.hid hnb; clear hnb
      have HPB := Lib.hid hpb; clear hpb
      go_wp2_with (first
        | (go_at_call 18; refine (shut_nobody HNB.out _).mono ?_; rintro e w' ⟨rfl, rfl⟩)
        | (go_at_call 19; refine (put_nobody HNB.out _).mono ?_; rintro e w' ⟨rfl, rfl⟩)
        | (go_at_call 20; refine (take_nobody HNB.out _).mono ?_; rintro e w' ⟨rfl, rfl⟩))
      refine (state_nobody HNB.out).mono ?_
      rintro e w1 ⟨rfl, hb⟩
      have F1 := Lib.hid (Fr.of_below hb); clear hb
      have hsame := same_calls [] (.slice none 0 0) (.slice none 0 0) 0 0 false false w1 (BSl.nil _) (BSl.nil _)
      have HS := Lib.hid hsame; clear hsame hc
      go_wp2_with fail
      refine HS.out.mono ?_
      rintro e w2 ⟨rfl, hf⟩
      have F2 := Lib.hid (F1.out.trans hf (fun _ _ h => h)); clear hf
      go_wp2_with fail
      go_roundw
      case rel => exact ⟨k + 1, by omega, by go_num, HLR.out.fr F2.out id, F2.out.cell HNR.out id, HBR.out.trans (F2.out.below.mono HBR.out.size)⟩
      case measure => simp [intOf]; omega

end Go.Proofs.Ytnfpjholmidnbaa
