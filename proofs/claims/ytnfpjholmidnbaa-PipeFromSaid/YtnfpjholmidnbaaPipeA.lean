/- pipe.Pipe: what the struct's block holds ('PipeAt'), pipe.New, is, Shut. No condition. -/
import Derived.Test.YtnfpjholmidnbaaLend
namespace Go.Proofs.Ytnfpjholmidnbaa
open Go.RowKit

/-- the cells of a Pipe that was made -/
def pcells (ring : List Int) (at_ held : Nat) (rd wr : Int) (sr sw : Bool) : List Value :=
  (Value.bool true :: ring.map (Value.int .u8)) ++ [.int .i64 at_, .int .i64 held, .int .u32 rd, .int .u32 wr, .bool sr, .bool sw]

section
variable {ring : List Int} {at_ held : Nat} {rd wr : Int} {sr sw : Bool}
theorem pcells_made : (pcells ring at_ held rd wr sr sw)[0]? = some (.bool true) := rfl
theorem pcells_ring (h : ring.length = 512) (j : Nat) (hj : j < 512) : (pcells ring at_ held rd wr sr sw)[1 + j]? = some (.int .u8 (ring[j]?.getD 0)) := by
  unfold pcells
  rw [List.getElem?_append_left (by simp; omega), Nat.add_comm, List.getElem?_cons_succ]
  simp [List.getElem?_eq_getElem (show j < ring.length by omega)]
theorem pcells_tail (h : ring.length = 512) (j : Nat) : (pcells ring at_ held rd wr sr sw)[513 + j]? = [Value.int .i64 at_, .int .i64 held, .int .u32 rd, .int .u32 wr, .bool sr, .bool sw][j]? := by
  unfold pcells
  rw [List.getElem?_append_right (by simp; omega)]
  congr 1; simp [h]
theorem pcells_set (h : ring.length = 512) (j : Nat) (v : Value) : (pcells ring at_ held rd wr sr sw).set (513 + j) v = (Value.bool true :: ring.map (Value.int .u8)) ++ ([Value.int .i64 at_, .int .i64 held, .int .u32 rd, .int .u32 wr, .bool sr, .bool sw].set j v) := by
  unfold pcells
  rw [List.set_append_right _ _ (by simp; omega)]
  congr 2; simp [h]
end

/-- Block b is a Pipe that was made, with the bytes q in it, the counts rd and wr, the ends shut as sr (reader) and sw (writer) say. -/
def PipeAt (w : World) (b : Nat) (q : List Int) (rd wr : Int) (sr sw : Bool) : Prop :=
  (0 ≤ rd ∧ rd < 4294967296 ∧ 0 ≤ wr ∧ wr < 4294967296) ∧ ∃ (ring : List Int) (at_ : Nat), ring.length = 512 ∧ at_ < 512 ∧ q.length ≤ 512 ∧ (∀ i, i < q.length → ring[(at_ + i) % 512]? = q[i]?) ∧ Blk w b (pcells ring at_ q.length rd wr sr sw) 47

theorem PipeAt.lt {w : World} {b : Nat} {q : List Int} {rd wr : Int} {sr sw : Bool} (h : PipeAt w b q rd wr sr sw) : b < w.heap.size := by
  obtain ⟨_, _, _, _, _, _, _, h⟩ := h; exact h.lt
theorem PipeAt.fr {S : Nat → Prop} {w w' : World} {b : Nat} {q : List Int} {rd wr : Int} {sr sw : Bool} (h : PipeAt w b q rd wr sr sw) (hf : Fr S w w') (hn : ¬ S b) : PipeAt w' b q rd wr sr sw := by
  obtain ⟨hr, ring, a, h1, h2, h3, h4, h⟩ := h; exact ⟨hr, ring, a, h1, h2, h3, h4, h.fr hf hn⟩
theorem PipeAt.bound {w : World} {b : Nat} {q : List Int} {rd wr : Int} {sr sw : Bool} (h : PipeAt w b q rd wr sr sw) : q.length ≤ 512 := by
  obtain ⟨_, _, _, _, _, h, _⟩ := h; exact h

set_option maxHeartbeats 800000 in
theorem is_calls (b : Nat) (w : World) (h0 : w.cell? ⟨b, 0, none⟩ = some (.bool true)) :
    Calls Try.prog 35 #[.pointer (some ⟨b, 0, none⟩)] w fun e w' => e = .returned (.bool true) ∧ w = w' := by
  go_enter Try.func35, Try.ntmps35
  go_wp2
  go_ret
  exact ⟨rfl, rfl⟩

set_option maxHeartbeats 800000 in
theorem is_nil_calls (w : World) :
    Calls Try.prog 35 #[.pointer none] w fun e w' => e = .returned (.bool false) ∧ w = w' := by
  go_enter Try.func35, Try.ntmps35
  go_wp2
  go_ret
  exact ⟨rfl, rfl⟩

set_option maxHeartbeats 800000 in
theorem is_zero_calls (b : Nat) (w : World) (h0 : w.cell? ⟨b, 0, none⟩ = some (.bool false)) :
    Calls Try.prog 35 #[.pointer (some ⟨b, 0, none⟩)] w fun e w' => e = .returned (.bool false) ∧ w = w' := by
  go_enter Try.func35, Try.ntmps35
  go_wp2
  go_ret
  exact ⟨rfl, rfl⟩

def z512 : List Int := List.replicate 512 0
theorem z512_length : z512.length = 512 := List.length_replicate
/-- the zero value's cells -/
def zpipe : Array Value := ((Value.bool false :: z512.map (Value.int .u8)) ++ [Value.int .i64 0, Value.int .i64 0, Value.int .u32 0, Value.int .u32 0, Value.bool false, Value.bool false]).toArray
theorem zpipe_run (w : World) : (zeroValue 47).run Try.prog w = .ok (.agg zpipe) w := by kernel_rfl
theorem zpipe_ne : ¬ zpipe = #[] := by intro h; have := congrArg Array.size h; simp [zpipe] at this
theorem zpipe_set : zpipe.setIfInBounds 0 (.bool true) = (pcells z512 0 0 0 0 false false).toArray := by
  simp only [zpipe, pcells, List.setIfInBounds_toArray, List.cons_append, List.set_cons_zero]; rfl

set_option maxHeartbeats 800000 in
theorem new_calls (w : World) :
    Calls Try.prog 11 #[] w fun e w' => e = .returned (.pointer (some ⟨w.heap.size, 0, none⟩)) ∧ PipeAt w' w.heap.size [] 0 0 false false ∧ Below w.heap.size w w' := by
  have hz := zpipe_run
  have hn := zpipe_ne
  have hs := zpipe_set
  obtain ⟨C, hC⟩ : ∃ C, C = (pcells z512 0 0 0 0 false false).toArray := ⟨_, rfl⟩
  rw [← hC] at hs
  have HC := Lib.hid hC; clear hC
  go_enter Try.func11, Try.ntmps11
  go_wp2
  go_ret
  refine ⟨rfl, ⟨by omega, z512, 0, z512_length, by omega, by simp, by simp, ?_⟩, (Below.refl _ _).alloc (Nat.le_refl _) _⟩
  rw [HC.out]
  exact Blk.new w _ _

set_option maxHeartbeats 800000 in
theorem shut_calls (b : Nat) (q : List Int) (rd wr : Int) (sr sw r : Bool) (w : World) (h : PipeAt w b q rd wr sr sw) :
    Calls Try.prog 18 #[.pointer (some ⟨b, 0, none⟩), .bool r] w fun e w' => e = .returned (.tuple #[]) ∧ PipeAt w' b q rd wr (sr || r) (sw || !r) ∧ Fr (· = b) w w' := by
  obtain ⟨hr, ring, at_, h1, h2, h3, h4, hb⟩ := h
  have c0 : w.cell? ⟨b, 0, none⟩ = some (.bool true) := (hb.cell 0).trans pcells_made
  have c4 : w.cell? ⟨b, 517, none⟩ = some (.bool sr) := (hb.cell 517).trans (pcells_tail h1 4)
  have c5 : w.cell? ⟨b, 518, none⟩ = some (.bool sw) := (hb.cell 518).trans (pcells_tail h1 5)
  have f4 := hb.free 517
  have f5 := hb.free 518
  have HB := Lib.hid hb; clear hb
  have H1 := Lib.hid h1; clear h1
  have H4 := Lib.hid h4; clear h4
  cases r
  · go_enter Try.func18, Try.ntmps18
    go_wp2_with (go_at_call 35; refine (is_calls b _ c0).mono ?_; rintro e w' ⟨rfl, rfl⟩)
    go_end0
    refine ⟨rfl, ⟨hr, ring, at_, H1.out, h2, h3, H4.out, ?_⟩, (Fr.refl (· = b) w).setCell (p := ⟨b, 518, none⟩) (fun _ => rfl) _⟩
    have := HB.out.set 518 (.bool true)
    rw [pcells_set H1.out 5] at this
    simpa [pcells] using this
  · go_enter Try.func18, Try.ntmps18
    go_wp2_with (go_at_call 35; refine (is_calls b _ c0).mono ?_; rintro e w' ⟨rfl, rfl⟩)
    go_end0
    refine ⟨rfl, ⟨hr, ring, at_, H1.out, h2, h3, H4.out, ?_⟩, (Fr.refl (· = b) w).setCell (p := ⟨b, 517, none⟩) (fun _ => rfl) _⟩
    have := HB.out.set 517 (.bool true)
    rw [pcells_set H1.out 4] at this
    simpa [pcells] using this

end Go.Proofs.Ytnfpjholmidnbaa
