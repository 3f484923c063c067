/- The arguments of the console's statements: bytes, states. No condition. -/
import Derived.Test.YtollgpnaadgncaaDoorOpen
import Derived.Test.YtollgpnaadgncaaDoorConH
namespace Go.Proofs.YtollgpnaadgncaaDoor
open Go.RowKit

/-- a state, as plain data -/
structure CStateD where
  ready : List Int
  line : List Int

def RdCState (w : World) (cs : List Value) (a : CStateD) : Prop := ∃ v1 v2, cs = [v1, v2] ∧ BSl w v1 a.ready ∧ BSl w v2 a.line ∧ InB a.ready ∧ InB a.line
def I64 (x : Int) : Prop := -9223372036854775808 ≤ x ∧ x ≤ 9223372036854775807

section
variable {H : Type} (enc : TypeId × Value → H) (W : World)

theorem opens_bytes : Opens enc Tryd.prog W (fun _ => true) true 22 (RdSl (RdInt .u8) 1 1) (fun xs => (xs.map fun _ => 1).sum) :=
  opens_slice enc Tryd.prog W _ _ Tryd.underlying22 (by kernel_rfl) (by omega) (by kernel_rfl) (opens_int enc Tryd.prog W _ _ Tryd.underlying5)

theorem sum_ones {α : Type} (xs : List α) : (xs.map fun _ => 1).sum = xs.length := by
  induction xs with
  | nil => rfl
  | cons x xs ih => simp only [List.map_cons, List.sum_cons, List.length_cons]; omega

theorem opens_cstate : Opens enc Tryd.prog W (fun _ => true) true 24 RdCState (fun a => a.ready.length + a.line.length) := by
  refine (opens_struct enc Tryd.prog W _ _ Tryd.underlying24 (N := 2) (by kernel_rfl)
    (opensF_cons enc Tryd.prog W _ _ (sz := 1) (by kernel_rfl) (opens_bytes enc W)
      (opensF_cons enc Tryd.prog W _ _ (sz := 1) (by kernel_rfl) (opens_bytes enc W) (opensF_nil enc Tryd.prog W _ _)))).map enc Tryd.prog W _ _
    (fun x => ⟨x.1, x.2.1⟩) ?_ ?_
  · rintro cs ⟨x0, x1, _⟩ ⟨hl, ⟨v0, h0, s0⟩, ⟨v1, h1, s1⟩, _⟩
    obtain ⟨hb0, hu0⟩ := bsl_of_slv s0
    obtain ⟨hb1, hu1⟩ := bsl_of_slv s1
    refine ⟨v0, v1, ?_, hb0, hb1, hu0, hu1⟩
    match cs, hl with
    | [c0, c1], _ => simp at h0 h1; simp [h0, h1]
  · rintro ⟨x0, x1, _⟩
    simp only [sum_ones]
    omega
end
end Go.Proofs.YtollgpnaadgncaaDoor
