/- pipe.Pipe: the methods of a pipe that no call made; works. No condition. -/
import Derived.Test.YtnfpjholmidnbaaPipeE
import Derived.Lib.SlBytesConst
namespace Go.Proofs.Ytnfpjholmidnbaa
open Go.RowKit

/-- a pipe that neither New nor From made -/
def Nobody (w : World) (p : Value) : Prop := p = .pointer none ∨ ∃ b, p = .pointer (some ⟨b, 0, none⟩) ∧ w.cell? ⟨b, 0, none⟩ = some (.bool false)
theorem Nobody.fr {S : Nat → Prop} {w w' : World} {p : Value} (h : Nobody w p) (hf : Fr S w w') (hn : ∀ b o s, p = .pointer (some ⟨b, o, s⟩) → ¬ S b) : Nobody w' p := by
  rcases h with rfl | ⟨b, rfl, hc⟩
  · exact .inl rfl
  · exact .inr ⟨b, rfl, hf.cell hc (hn b 0 none rfl)⟩

theorem is_nobody {w : World} {p : Value} (h : Nobody w p) : Calls Try.prog 35 #[p] w fun e w' => e = .returned (.bool false) ∧ w = w' := by
  rcases h with rfl | ⟨b, rfl, hc⟩
  · exact is_nil_calls w
  · exact is_zero_calls b w hc

set_option maxHeartbeats 800000 in
theorem shut_nobody {w : World} {p : Value} (h : Nobody w p) (r : Bool) : Calls Try.prog 18 #[p, .bool r] w fun e w' => e = .returned (.tuple #[]) ∧ w = w' := by
  have H := Lib.hid (is_nobody h); clear h
  go_enter Try.func18, Try.ntmps18
  go_wp2_with (go_at_call 35; refine H.out.mono ?_; rintro e w' ⟨rfl, rfl⟩)
  go_returns
  exact ⟨rfl, rfl⟩

set_option maxHeartbeats 800000 in
theorem put_nobody {w : World} {p : Value} (h : Nobody w p) (v : Value) : Calls Try.prog 19 #[p, v] w fun e w' => e = .returned (.tuple #[.int .i64 0, .int .i64 3]) ∧ w = w' := by
  have H := Lib.hid (is_nobody h); clear h
  go_enter Try.func19, Try.ntmps19
  go_wp2_with (go_at_call 35; refine H.out.mono ?_; rintro e w' ⟨rfl, rfl⟩)
  go_ret2
  exact ⟨rfl, rfl⟩

set_option maxHeartbeats 800000 in
theorem take_nobody {w : World} {p : Value} (h : Nobody w p) (n : Int) : Calls Try.prog 20 #[p, .int .i64 n] w fun e w' => e = .returned (.tuple #[.slice none 0 0, .int .i64 1]) ∧ w = w' := by
  have H := Lib.hid (is_nobody h); clear h
  go_enter Try.func20, Try.ntmps20
  go_wp2_with (go_at_call 35; refine H.out.mono ?_; rintro e w' ⟨rfl, rfl⟩)
  go_ret2
  exact ⟨rfl, rfl⟩

set_option maxHeartbeats 800000 in
theorem state_nobody {w : World} {p : Value} (h : Nobody w p) : Calls Try.prog 15 #[p] w fun e w' =>
    e = .returned (.agg #[.slice none 0 0, .int .u32 0, .int .u32 0, .bool false, .bool false]) ∧ Below w.heap.size w w' := by
  go_enter Try.func15, Try.ntmps15
  go_wp2_with fail
  generalize hW : w.alloc _ = W
  have F0 : Fr No w W := by rw [← hW]; exact (Fr.refl _ _).alloc _
  have HS : Blk W w.heap.size [.slice none 0 0, .int .u32 0, .int .u32 0, .bool false, .bool false] 41 := by rw [← hW]; exact Blk.new w _ _
  clear hW
  have H := Lib.hid (is_nobody (h.fr F0 (fun _ _ _ _ => id))); clear h
  obtain ⟨⟨s0, s1, s2, s3, s4⟩, f0, f1, f2, f3, f4⟩ := slot5 HS
  clear HS
  refine H.out.mono ?_
  rintro e w' ⟨rfl, rfl⟩
  go_wp2
  refine bodyPost_ret (v := .agg #[.slice none 0 0, .int .u32 0, .int .u32 0, .bool false, .bool false]) (by simp [results, Try.results15, go_sem, s0, s1, s2, s3, s4]) rfl ⟨rfl, ?_⟩
  have hb : Below w.heap.size w W := F0.below
  exact ((((hb.setCell (p := ⟨w.heap.size, 0, none⟩) (Nat.le_refl _) _).setCell (p := ⟨w.heap.size, 1, none⟩) (Nat.le_refl _) _).setCell (p := ⟨w.heap.size, 2, none⟩) (Nat.le_refl _) _).setCell (p := ⟨w.heap.size, 3, none⟩) (Nat.le_refl _) _).setCell (p := ⟨w.heap.size, 4, none⟩) (Nat.le_refl _) _

/-- a slice of bytes turned into a string -/
theorem conv_str {w : World} {v : Value} {xs : List Int} (h : BSl w v xs) (hne : xs ≠ []) : (convert 34 9 v).run Try.prog w = .ok (.string (strOfNums xs)) w := by
  obtain ⟨ao, c, rfl, _, _, _, hc⟩ := h
  obtain ⟨b, o, rfl, hc2⟩ := hc hne
  exact run_convert_bytes_arg w 34 5 Try.underlying34 Try.underlying5 b o _ c xs rfl (fun i hi => by rw [hc2 i hi]; simp [List.getD]) 9 Try.underlying9

set_option maxRecDepth 100000 in
set_option maxHeartbeats 3200000 in
/-- a byte goes through -/
theorem works_calls (w : World) : Calls Try.prog 21 #[] w fun e w' => e = .returned (.bool true) ∧ Below w.heap.size w w' := by
  have kc := fun (w : World) (C : Array Value) (n c : Nat) => Lib.run_convert_bytes_const (P := Try.prog) w 34 5 C n c Try.underlying34 Try.underlying5
  go_enter Try.func21, Try.ntmps21
  go_wp2_with fail
  refine (new_calls w).mono ?_
  rintro e w1 ⟨rfl, hP, hB⟩
  have HB := Lib.hid hB; clear hB
  have HP := Lib.hid hP; clear hP
  go_wp2_with fail
  clear kc
  generalize hW : w1.alloc _ = W
  have F1 : Fr No w1 W := by rw [← hW]; exact (Fr.refl _ _).alloc _
  have hsl : BSl W (.slice (some ⟨w1.heap.size, 0, none⟩) 2 2) [97, 98] := by
    refine ⟨_, 2, rfl, by simp, by omega, by simp, fun _ => ⟨w1.heap.size, 0, rfl, fun j hj => ?_⟩⟩
    rw [← hW, World.cell?_alloc_mark]
    match j, hj with
    | 0, _ => rfl
    | 1, _ => rfl
  clear hW
  have hB1 : Below w.heap.size w W := HB.out.trans (F1.below.mono HB.out.size)
  have hlt : w.heap.size < w1.heap.size := HP.out.lt
  have HP1 := Lib.hid (HP.out.fr F1 id)
  have hput := put_calls _ [] [97, 98] 0 0 false false _ W HP1.out hsl (by simp [Value.ownBlock]; omega)
  rw [show putK [97, 98] [] false = 2 by decide, show putHow [97, 98] [] false = 1 by decide] at hput
  refine hput.mono ?_
  clear hput
  rintro e w2 ⟨rfl, hP2, hF2⟩
  have HP2 := Lib.hid (show PipeAt w2 w.heap.size [97, 98] 0 2 false false by simpa using hP2)
  have hB2 := Fr.below_of hB1 hF2 hB1.size (fun k hk => by rw [hk]; exact Nat.le_refl _)
  have HB2 := Lib.hid hB2; clear hB2 hF2 hP2 hsl hB1 HP1 F1 HP HB
  go_wp2_with fail
  have htake := take_calls _ [97, 98] 0 2 false false 1 w2 HP2.out (by omega) (by omega)
  rw [show takeK 1 [97, 98] = 1 by decide, show takeHow 1 [97, 98] false = 1 by decide] at htake
  refine htake.mono ?_
  clear htake
  rintro e w3 ⟨v3, rfl, ho3, hP3, hF3⟩
  have HP3 := Lib.hid (show PipeAt w3 w.heap.size [98] 1 2 false false by simpa using hP3)
  have hB3 := Fr.below_of HB2.out hF3 HB2.out.size (fun k hk => by rw [hk]; exact Nat.le_refl _)
  have HB3 := Lib.hid hB3; clear hB3 hF3 hP3
  have HO3 := Lib.hid (show Own w3 w2.heap.size v3 [97] by simpa using ho3); clear ho3
  have hsz3 : w.heap.size < w2.heap.size := HP2.out.lt
  go_wp2_with fail
  refine (state_calls _ [98] 1 2 false false w3 HP3.out).mono ?_
  rintro e w4 ⟨v4, rfl, ho4, hB4⟩
  have hs3 : BSl w4 v3 [97] := (HO3.out.bsl (by simp)).no (Fr.of_below hB4)
  have hs4 : BSl w4 v4 [98] := ho4.bsl (by simp)
  have HB4 := Lib.hid (HB3.out.trans (hB4.mono HB3.out.size)); clear hB4
  obtain ⟨a4, c4, rfl⟩ := ho4.shape
  obtain ⟨a3, c3, rfl⟩ := HO3.out.shape
  clear ho4
  have cv3 := fun o => conv_str (hs3.no ((Fr.refl No w4).alloc o)) (by simp)
  have cv4 := fun o => conv_str (hs4.no ((Fr.refl No w4).alloc o)) (by simp)
  rw [show strOfNums [97] = ⟨#[97]⟩ from rfl] at cv3
  rw [show strOfNums [98] = ⟨#[98]⟩ from rfl] at cv4
  clear hs3 hs4
  simp only [List.length_singleton] at cv3 cv4
  go_wp2_with fail
  go_ret
  exact ⟨rfl, HB4.out.alloc HB4.out.size _⟩

end Go.Proofs.Ytnfpjholmidnbaa
