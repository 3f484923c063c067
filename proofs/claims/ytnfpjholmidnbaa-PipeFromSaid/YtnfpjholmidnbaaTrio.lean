/- A pipe, its reference and a shelf, apart from each other. No condition. -/
import Derived.Test.YtnfpjholmidnbaaShelfP
namespace Go.Proofs.Ytnfpjholmidnbaa
open Go.RowKit

structure Trio (w : World) (base P Q B : Nat) (bv kv wv : Value) (ks ws : List Value) (Y : Nat → List Int) (q : List Int) (rd wt : Int) (sr sw : Bool) (n : Nat) : Prop where
  pipe : PipeAt w P q rd wt sr sw
  ref : RefAt w base Q bv q rd wt (!sr) (!sw)
  shelf : ShelfAt w base B kv wv ks ws Y n
  off : ∀ k, bv.ownBlock = some k → ¬ SBlk (ks ++ ws) k
  low : base ≤ P ∧ base ≤ Q ∧ base ≤ B

section
variable {w : World} {base P Q B : Nat} {bv kv wv : Value} {ks ws : List Value} {Y : Nat → List Int} {q : List Int} {rd wt : Int} {sr sw : Bool} {n : Nat}

theorem pipe_blk (h : PipeAt w P q rd wt sr sw) : ∃ cs, Blk w P cs 47 := by obtain ⟨_, r, a, _, _, _, _, hb⟩ := h; exact ⟨_, hb⟩

theorem shelf_row_blk {t : TypeId} {b : Nat} {cs : List Value} (h : ShelfAt w base B kv wv ks ws Y n) (hb : Blk w b cs t) (h1 : t ≠ 33) (h2 : t ≠ 34) (h3 : t ≠ 5) : ¬ ShFP B kv wv ks ws b := by
  rintro (hk | hk | hk | ⟨v, hv, hk⟩)
  · subst hk
    have h4 := h.blk
    exact Blk.ne hb h4 h1 rfl
  · exact blk_row_ne hb h.kept h2 b hk rfl
  · exact blk_row_ne hb h.was h2 b hk rfl
  · rcases List.mem_append.1 hv with hv | hv
    · obtain ⟨j, hj, rfl⟩ := List.getElem_of_mem hv
      exact blk_row_ne hb (h.krow j _ (List.getElem?_eq_getElem hj)).1 h3 b hk rfl
    · obtain ⟨j, hj, rfl⟩ := List.getElem_of_mem hv
      exact blk_row_ne hb (h.wrow j _ (List.getElem?_eq_getElem hj)) h3 b hk rfl

theorem shelf_row_off {v : Value} {m : Nat} {xs : List Value} {base' : Nat} (h : ShelfAt w base B kv wv ks ws Y n) (hv : w.ownsRow base' 5 1 v m xs) (hoff : ∀ k, v.ownBlock = some k → ¬ SBlk (ks ++ ws) k) : ∀ k, v.ownBlock = some k → ¬ ShFP B kv wv ks ws k := by
  rintro k hk (hh | hh | hh | hh)
  · exact blk_row_ne h.blk hv (by decide) k hk hh
  · exact row_apart hv h.kept (by decide) k hk hh
  · exact row_apart hv h.was (by decide) k hk hh
  · exact hoff k hk hh

theorem Trio.pr (h : Trio w base P Q B bv kv wv ks ws Y q rd wt sr sw n) : ¬ RefFP Q bv P := by
  obtain ⟨cs, hb⟩ := pipe_blk h.pipe
  rintro (hk | hk)
  · subst hk; exact Blk.ne hb h.ref.2.1 (by decide) rfl
  · exact blk_row_ne hb h.ref.2.2 (by decide) P hk rfl
theorem Trio.ps (h : Trio w base P Q B bv kv wv ks ws Y q rd wt sr sw n) : ¬ ShFP B kv wv ks ws P := by
  obtain ⟨cs, hb⟩ := pipe_blk h.pipe
  exact shelf_row_blk h.shelf hb (by decide) (by decide) (by decide)
theorem Trio.rs (h : Trio w base P Q B bv kv wv ks ws Y q rd wt sr sw n) : ∀ k, RefFP Q bv k → ¬ ShFP B kv wv ks ws k := by
  rintro k (rfl | hk)
  · exact shelf_row_blk h.shelf h.ref.2.1 (by decide) (by decide) (by decide)
  · exact shelf_row_off h.shelf h.ref.2.2 h.off k hk

/-- nothing of the three has turned -/
theorem Trio.fr {S : Nat → Prop} {w' : World} (h : Trio w base P Q B bv kv wv ks ws Y q rd wt sr sw n) (hf : Fr S w w') (h1 : ¬ S P) (h2 : ∀ k, RefFP Q bv k → ¬ S k) (h3 : ∀ k, ShFP B kv wv ks ws k → ¬ S k) : Trio w' base P Q B bv kv wv ks ws Y q rd wt sr sw n :=
  ⟨h.pipe.fr hf h1, h.ref.fr hf h2, h.shelf.fr hf h3, h.off, h.low⟩
theorem Trio.no {w' : World} (h : Trio w base P Q B bv kv wv ks ws Y q rd wt sr sw n) (hf : Fr No w w') : Trio w' base P Q B bv kv wv ks ws Y q rd wt sr sw n := h.fr hf id (fun _ _ => id) (fun _ _ => id)

/-- what an act leaves -/
@[irreducible] def ActPost (base P Q B : Nat) (bv kv wv : Value) (ks ws : List Value) (n : Nat) (w : World) (e : Ending) (w' : World) : Prop :=
  ∃ (bv' kv' wv' : Value) (ks' ws' : List Value) (Y' : Nat → List Int) (q' : List Int) (rd' wt' : Int) (sr' sw' : Bool) (n' : Nat), e = .returned (.bool true) ∧ Trio w' base P Q B bv' kv' wv' ks' ws' Y' q' rd' wt' sr' sw' n' ∧ n' ≤ n + 2 ∧
    (∀ k, bv'.ownBlock = some k → bv.ownBlock = some k ∨ w.heap.size ≤ k) ∧ (∀ k, ShFP B kv' wv' ks' ws' k → ShFP B kv wv ks ws k ∨ w.heap.size ≤ k) ∧ Fr (fun k => k = P ∨ RefFP Q bv k ∨ ShFP B kv wv ks ws k) w w'

/-- pipe and reference have turned alike, the shelf has not -/
theorem act_pair {w' : World} {bv' : Value} {q' : List Int} {rd' wt' : Int} {sr' sw' : Bool} (h : Trio w base P Q B bv kv wv ks ws Y q rd wt sr sw n) (hP : PipeAt w' P q' rd' wt' sr' sw') (hR : RefAt w' base Q bv' q' rd' wt' (!sr') (!sw'))
    (hb : ∀ k, bv'.ownBlock = some k → bv.ownBlock = some k ∨ w.heap.size ≤ k) (hf : Fr (fun k => k = P ∨ RefFP Q bv k) w w') : ActPost base P Q B bv kv wv ks ws n w (.returned (.bool true)) w' := by
  unfold ActPost
  refine ⟨bv', kv, wv, ks, ws, Y, q', rd', wt', sr', sw', n, rfl, ⟨hP, hR, h.shelf.fr hf (fun k hk hs => ?_), fun k hk hs => ?_, h.low⟩, by omega, hb, fun k hk => .inl hk, hf.mono (fun k hk => hk.elim .inl (fun h => .inr (.inl h)))⟩
  · rcases hs with rfl | hs
    · exact h.ps hk
    · exact h.rs k hs hk
  · rcases hb k hk with h1 | h1
    · exact h.off k h1 hs
    · have := h.shelf.lt k (.inr (.inr (.inr hs))); omega

/-- a put on the shelf -/
theorem trio_put {w' : World} {l : Value} {xs : List Int} (h : Trio w base P Q B bv kv wv ks ws Y q rd wt sr sw n) (hl : Row 5 .u8 w base l xs) (hlr : ∀ k, l.ownBlock = some k → ¬ RefFP Q bv k) (hp : ShelfPost base B kv wv ks ws n l w (.returned (.bool true)) w') :
    ∃ (kv' wv' : Value) (ks' ws' : List Value) (Y' : Nat → List Int), Trio w' base P Q B bv kv' wv' ks' ws' Y' q rd wt sr sw (n + 1) ∧ (∀ k, ShFP B kv' wv' ks' ws' k → ShFP B kv wv ks ws k ∨ l.ownBlock = some k ∨ w.heap.size ≤ k) ∧
      Fr (fun k => ShFP B kv wv ks ws k ∨ l.ownBlock = some k) w w' := by
  unfold ShelfPost at hp
  obtain ⟨kv', wv', ks', ws', Y', _, hs, hfp, hf⟩ := hp
  obtain ⟨cs, hb⟩ := pipe_blk h.pipe
  refine ⟨kv', wv', ks', ws', Y', ⟨h.pipe.fr hf ?_, h.ref.fr hf (fun k hk hh => ?_), hs, fun k hk hh => ?_, h.low⟩, hfp, hf⟩
  · rintro (h1 | h1)
    · exact h.ps h1
    · exact blk_row_ne hb hl (by decide) P h1 rfl
  · rcases hh with h1 | h1
    · exact h.rs k hk h1
    · exact hlr k h1 hk
  · rcases hfp k (.inr (.inr (.inr hh))) with h1 | h1 | h1
    · exact h.rs k (.inr hk) h1
    · exact hlr k h1 (.inr hk)
    · have := h.ref.lt k (.inr hk); omega

/-- pipe and reference have turned alike: the three -/
theorem trio_pair {w' : World} {bv' : Value} {q' : List Int} {rd' wt' : Int} {sr' sw' : Bool} (h : Trio w base P Q B bv kv wv ks ws Y q rd wt sr sw n) (hP : PipeAt w' P q' rd' wt' sr' sw') (hR : RefAt w' base Q bv' q' rd' wt' (!sr') (!sw'))
    (hb : ∀ k, bv'.ownBlock = some k → bv.ownBlock = some k ∨ w.heap.size ≤ k) (hf : Fr (fun k => k = P ∨ RefFP Q bv k) w w') : Trio w' base P Q B bv' kv wv ks ws Y q' rd' wt' sr' sw' n := by
  refine ⟨hP, hR, h.shelf.fr hf (fun k hk hs => ?_), fun k hk hs => ?_, h.low⟩
  · rcases hs with rfl | hs
    · exact h.ps hk
    · exact h.rs k hs hk
  · rcases hb k hk with h1 | h1
    · exact h.off k h1 hs
    · have := h.shelf.lt k (.inr (.inr (.inr hs))); omega

end
end Go.Proofs.Ytnfpjholmidnbaa
