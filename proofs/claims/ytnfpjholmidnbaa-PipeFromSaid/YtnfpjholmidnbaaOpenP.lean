/- The arguments of the pipe's statements: bytes, acts, states. No condition. -/
import Derived.Test.YtnfpjholmidnbaaOpen
namespace Go.Proofs.Ytnfpjholmidnbaa
open Go.RowKit

/-- one act, as plain data -/
structure ActD where
  kind : Int
  which : Int
  data : List Int
  n : Int

def I64 (x : Int) : Prop := -9223372036854775808 ≤ x ∧ x ≤ 9223372036854775807

def RdAct (w : World) (cs : List Value) (a : ActD) : Prop :=
  ∃ v, cs = [.int .i64 a.kind, .int .i64 a.which, v, .int .i64 a.n] ∧ BSl w v a.data ∧ I64 a.kind ∧ I64 a.which ∧ I64 a.n ∧ ∀ x ∈ a.data, 0 ≤ x ∧ x ≤ 255

section
variable {H : Type} (enc : TypeId × Value → H) (W : World)

theorem opens_bytes : Opens enc Try.prog W (fun _ => true) true 34 (RdSl (RdInt .u8) 1 1) (fun xs => (xs.map fun _ => 1).sum) :=
  opens_slice enc Try.prog W _ _ Try.underlying34 (by kernel_rfl) (by omega) (by kernel_rfl) (opens_int enc Try.prog W _ _ Try.underlying5)

theorem sum_ones {α : Type} (xs : List α) : (xs.map fun _ => 1).sum = xs.length := by
  induction xs with
  | nil => rfl
  | cons x xs ih => simp only [List.map_cons, List.sum_cons, List.length_cons]; omega

theorem cells_one {cs : List Value} {v : Value} {j : Nat} (h : (cs.drop j).take 1 = [v]) : cs[j]? = some v := by
  have := congrArg (fun l => l[0]?) h
  simpa [List.getElem?_take, List.getElem?_drop] using this

theorem opens_act : Opens enc Try.prog W (fun _ => true) true 36 RdAct (fun a => a.data.length + 1) := by
  refine (opens_struct enc Try.prog W _ _ Try.underlying36 (N := 4) (by kernel_rfl)
    (opensF_cons enc Try.prog W _ _ (sz := 1) (by kernel_rfl) (opens_int enc Try.prog W _ _ Try.underlying3)
      (opensF_cons enc Try.prog W _ _ (sz := 1) (by kernel_rfl) (opens_int enc Try.prog W _ _ Try.underlying3)
        (opensF_cons enc Try.prog W _ _ (sz := 1) (by kernel_rfl) (opens_bytes enc W)
          (opensF_cons enc Try.prog W _ _ (sz := 1) (by kernel_rfl) (opens_int enc Try.prog W _ _ Try.underlying3) (opensF_nil enc Try.prog W _ _)))))).map enc Try.prog W _ _
    (fun x => ⟨x.1, x.2.1, x.2.2.1, x.2.2.2.1⟩) ?_ ?_
  · rintro cs ⟨x0, x1, x2, x3, _⟩ ⟨hl, ⟨h0, w0⟩, ⟨h1, w1⟩, ⟨v, h2, s2⟩, ⟨h3, w3⟩, _⟩
    obtain ⟨hb, hu⟩ := bsl_of_slv s2
    refine ⟨v, ?_, hb, wf_i64 w0, wf_i64 w1, wf_i64 w3, hu⟩
    match cs, hl with
    | [c0, c1, c2, c3], _ => simp at h0 h1 h2 h3; simp [h0, h1, h2, h3]
  · rintro ⟨x0, x1, x2, x3, _⟩
    simp only [sum_ones]
    omega

/-- acts: how they lie -/
abbrev Acts := SlV RdAct 4 48

theorem opens_acts : Opens enc Try.prog W (fun _ => true) true 23 (RdSl RdAct 4 48) (fun xs => (xs.map fun a => a.data.length + 1).sum) :=
  opens_slice enc Try.prog W _ _ Try.underlying23 (by kernel_rfl) (by omega) (by kernel_rfl) (opens_act enc W)

/-- a pipe's state as plain data -/
structure PSt where
  bytes : List Int
  reads : Int
  writes : Int
  reader : Bool
  writer : Bool

def RdPSt (w : World) (cs : List Value) (s : PSt) : Prop :=
  ∃ v, cs = [v, .int .u32 s.reads, .int .u32 s.writes, .bool s.reader, .bool s.writer] ∧ BSl w v s.bytes ∧ (0 ≤ s.reads ∧ s.reads ≤ 4294967295) ∧ (0 ≤ s.writes ∧ s.writes ≤ 4294967295) ∧ ∀ x ∈ s.bytes, 0 ≤ x ∧ x ≤ 255

theorem opens_pstate : Opens enc Try.prog W (fun _ => true) true 41 RdPSt (fun s => s.bytes.length) := by
  refine (opens_struct enc Try.prog W _ _ Try.underlying41 (N := 5) (by kernel_rfl)
    (opensF_cons enc Try.prog W _ _ (sz := 1) (by kernel_rfl) (opens_bytes enc W)
      (opensF_cons enc Try.prog W _ _ (sz := 1) (by kernel_rfl) (opens_int enc Try.prog W _ _ Try.underlying39)
        (opensF_cons enc Try.prog W _ _ (sz := 1) (by kernel_rfl) (opens_int enc Try.prog W _ _ Try.underlying39)
          (opensF_cons enc Try.prog W _ _ (sz := 1) (by kernel_rfl) (opens_bool enc Try.prog W _ _ Try.underlying4)
            (opensF_cons enc Try.prog W _ _ (sz := 1) (by kernel_rfl) (opens_bool enc Try.prog W _ _ Try.underlying4) (opensF_nil enc Try.prog W _ _))))))).map enc Try.prog W _ _
    (fun x => ⟨x.1, x.2.1, x.2.2.1, x.2.2.2.1, x.2.2.2.2.1⟩) ?_ ?_
  · rintro cs ⟨x0, x1, x2, x3, x4, _⟩ ⟨hl, ⟨v, h0, s0⟩, ⟨h1, w1⟩, ⟨h2, w2⟩, h3, h4, _⟩
    obtain ⟨hb, hu⟩ := bsl_of_slv s0
    refine ⟨v, ?_, hb, wf_u32 w1, wf_u32 w2, hu⟩
    match cs, hl with
    | [c0, c1, c2, c3, c4], _ => simp [RdBool] at h0 h1 h2 h3 h4; simp [h0, h1, h2, h3, h4]
  · rintro ⟨x0, x1, x2, x3, x4, _⟩
    simp only [sum_ones]
    omega
end

end Go.Proofs.Ytnfpjholmidnbaa
