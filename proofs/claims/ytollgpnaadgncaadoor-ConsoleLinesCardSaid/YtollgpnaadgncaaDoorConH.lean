/- console: From. No condition. -/
import Derived.Test.YtollgpnaadgncaaDoorConG
namespace Go.Proofs.YtollgpnaadgncaaDoor
open Go.RowKit

/-- an error of one link: layer, place, number -/
def FaultAt (w : World) (v : Value) (layer : ByteArray) (place code : Int) : Prop :=
  ∃ F, v = .iface 74 (.pointer (some ⟨F, 0, none⟩)) ∧ Blk w F [.string layer, .int .i64 place, .iface 75 (.int .i64 code)] 77

theorem FaultAt.fr {S : Nat → Prop} {w w' : World} {v : Value} {l : ByteArray} {a c : Int} (h : FaultAt w v l a c) (hf : Fr S w w') (hS : ∀ k, S k → w.heap.size ≤ k) : FaultAt w' v l a c := by
  obtain ⟨F, rfl, hb⟩ := h
  exact ⟨F, rfl, hb.fr hf (fun h => by have := hS F h; have := hb.lt; omega)⟩

/-- all are bytes -/
def InB (l : List Int) : Prop := ∀ x ∈ l, 0 ≤ x ∧ x ≤ 255
/-- one that never stands among the bytes -/
def Nev (b : Int) : Prop := b = 0 ∨ b = 21 ∨ b = 8 ∨ b = 127 ∨ b = 13
instance (b : Int) : Decidable (Nev b) := by unfold Nev; infer_instance
/-- bytes that may be a console's: those that are ready, the line -/
def okS (d l : List Int) : Prop := d.length + l.length ≤ 128 ∧ (d.length + l.length = 128 → l = []) ∧ (∀ x ∈ d, ¬ Nev x) ∧ (∀ x ∈ l, ¬ Nev x ∧ x ≠ 10 ∧ x ≠ 4)

@[irreducible] def FromPost (d l : List Int) (w : World) (e : Ending) (w' : World) : Prop :=
  (okS d l ∧ ∃ P, e = .returned (.tuple #[.pointer (some ⟨P, 0, none⟩), .nilIface]) ∧ w.heap.size ≤ P ∧ ConAt w' P (d ++ l) d.length ∧ Below w.heap.size w w') ∨
  (¬ okS d l ∧ ∃ i, e = .returned (.tuple #[.pointer none, .iface 74 i]) ∧ FaultAt w' (.iface 74 i) ⟨#[99, 111, 110, 115, 111, 108, 101]⟩ 0 4 ∧ Below w.heap.size w w')

theorem zcon_set3 (r a : Nat) : ((zcon.setIfInBounds 0 (.bool true)).setIfInBounds 129 (.int .i64 r)).setIfInBounds 130 (.int .i64 a) = (ccells z128 r a).toArray := by
  rw [zcon_set, List.setIfInBounds_toArray, List.setIfInBounds_toArray]
  congr 1

/-- the fault -/
theorem from_fault {d l : List Int} {w W : World} {F : Nat} (hn : ¬ okS d l) (hF : F = W.heap.size) (hf : Fr No w W) :
    FromPost d l w (.returned (.tuple #[.pointer none, .iface 74 (.pointer (some ⟨F, 0, none⟩))])) (W.alloc (.cells #[.string ⟨#[99, 111, 110, 115, 111, 108, 101]⟩, .int .i64 0, .iface 75 (.int .i64 4)] 77)) := by
  subst hF
  unfold FromPost
  refine .inr ⟨hn, _, rfl, ⟨W.heap.size, rfl, Blk.new W [.string ⟨#[99, 111, 110, 115, 111, 108, 101]⟩, .int .i64 0, .iface 75 (.int .i64 4)] _⟩, (hf.alloc _).below⟩

set_option maxRecDepth 100000 in
set_option maxHeartbeats 3200000 in
/-- too many -/
theorem from_size_calls (d l : List Int) (v1 v2 : Value) (w : World) (h1 : BSl w v1 d) (h2 : BSl w v2 l) (hb : d.length + l.length > 128 ∨ (d.length + l.length = 128 ∧ l ≠ [])) :
    Calls Tryd.prog 11 #[.agg #[v1, v2]] w (FromPost d l w) := by
  have hd := h1.len
  have hl := h2.len
  obtain ⟨a1, c1, rfl⟩ := h1.shape
  obtain ⟨a2, c2, rfl⟩ := h2.shape
  have hno : ¬ okS d l := by
    rintro ⟨k1, k2, _⟩
    rcases hb with hb | ⟨hb, hb2⟩
    · omega
    · exact hb2 (k2 hb)
  have hsum : (d.length : Int) + l.length = (d.length + l.length : Nat) := by omega
  obtain ⟨N, hN⟩ : ∃ N, N = d.length + l.length := ⟨_, rfl⟩
  rw [← hN] at hb hsum
  have FIN := Lib.hid (fun (W : World) (F : Nat) => @from_fault d l w W F hno)
  have hNb : N ≤ 281474976710656 := by omega
  clear hno hN h1 h2
  rcases hb with hb | ⟨hb, hb2⟩
  · have t0 : decide ((128 : Int) < (N : Int)) = true := by simp; omega
    go_enter Tryd.func11, Tryd.ntmps11
    go_wp2
    all_goals
      refine wp_loop_rounds 1 ?_
      rw [rounds_succ]
      go_wp2
      all_goals
        refine wp_loop_rounds 1 ?_
        rw [rounds_succ]
        go_wp2
        all_goals
          go_ret2
          exact FIN.out _ _ (by simp) ((Fr.refl _ _).alloc _)
  · have hb3 : 0 < l.length := List.length_pos_iff.2 hb2
    have t0 : decide ((0 : Int) < (l.length : Int)) = true := by simp; omega
    have t1 : decide ((l.length : Int) > 0) = true := by simp; omega
    obtain rfl : N = 128 := hb
    clear hb2
    go_enter Tryd.func11, Tryd.ntmps11
    go_wp2
    all_goals
      refine wp_loop_rounds 1 ?_
      rw [rounds_succ]
      go_wp2
      all_goals
        refine wp_loop_rounds 1 ?_
        rw [rounds_succ]
        go_wp2
        all_goals
          go_ret2
          exact FIN.out _ _ (by simp) ((Fr.refl _ _).alloc _)

end Go.Proofs.YtollgpnaadgncaaDoor
