/-
  No cell of these rows narrows 'for every input' (looked for: loops, veiled, ifaces, maps, wideKeys, modest, calm, conditions, laid).
  DERIVED. THE GIVEN ROWS OF THIS SEAT. 8 by the template 'for every input the law returns true; each argument reads behind the call as it read before'; 0 by the template 'total and deterministic' (their statements: YtnfpjholmidnbaaTotals.lean).
  GIVEN WITH THE SEED: the statements are not yours to turn. If you find one false, say at which input.
  Laid BY PROGRAM, IN A SANDBOX (cutbox-rows.mjs): the forced cells as the released guide's own fill.sh prints them over the translation 414ee6401c01ce9c… (all of the seat's roots in one cut). By AI agents, Wed Nov 11 2026. No macro, syntax, notation, axiom, sorry.
-/
import Derived.Test.YtnfpjholmidnbaaChecked
import GoSem.Claim
import GoSem.ClaimJoined
import GoSem.ClaimMapViews
import Derived.JoinedTies
import Derived.KernelRfl
namespace Go.Proofs.Ytnfpjholmidnbaa
/- THE CELL 'sum', in the pinned program and in every row, IS THE sha256 OF THE DUMP (.gsa) THAT YtnfpjholmidnbaaProg.lean LOADS. Nothing in Lean hashes anything: it is a label: what it is worth is what the hold of that sum in a sandbox is worth. -/
noncomputable def Try.pinned : Pinned := { name := "ytnfpjholmidnbaa", sum := "414ee6401c01ce9c7e216db75ed938c2493f0d5f0983b6c513760fe37423a2c6", checked := Try.checked }
namespace Rows
def none {H : Type} : Left H := { results := [], args := [] }

/-- 'hartixlaw10.PipeNames': WHATEVER THE INPUT: true; the input reads as it did. -/
def pipeNamesSpec : ChangeSpec := { name := "pipeNames", fn := fun _ => fun
  | [] => { results := [.lit (.bool true)], args := [] }
  | _ => none }
def pipeNamesRow : OpenClaim := { program := "ytnfpjholmidnbaa", sum := "414ee6401c01ce9c7e216db75ed938c2493f0d5f0983b6c513760fe37423a2c6", func := "hartix/hartixlaw10.PipeNames", spec := "pipeNames", apart := false }
def PipeNamesSaid : Prop := pipeNamesRow.holds Try.pinned (OpenSpec.ofChange pipeNamesSpec)

/-- ITS FALSE NEIGHBOUR: 'it returns false'. Refute it at one input. -/
def pipeNamesWrong : ChangeSpec := { name := "pipeNames", fn := fun _ => fun
  | [] => { results := [.lit (.bool false)], args := [] }
  | _ => none }
def PipeNamesWrongFalsely : Prop := pipeNamesRow.holds Try.pinned (OpenSpec.ofChange pipeNamesWrong)

/-- 'hartixlaw10.PipePlays': WHATEVER THE INPUT: true; the input reads as it did. -/
def pipePlaysSpec : ChangeSpec := { name := "pipePlays", fn := fun _ => fun
  | [d] => { results := [.lit (.bool true)], args := [d] }
  | _ => none }
def pipePlaysRow : OpenClaim := { program := "ytnfpjholmidnbaa", sum := "414ee6401c01ce9c7e216db75ed938c2493f0d5f0983b6c513760fe37423a2c6", func := "hartix/hartixlaw10.PipePlays", spec := "pipePlays", apart := false }
def PipePlaysSaid : Prop := pipePlaysRow.holds Try.pinned (OpenSpec.ofChange pipePlaysSpec)

/-- ITS FALSE NEIGHBOUR: 'it returns false'. Refute it at one input. -/
def pipePlaysWrong : ChangeSpec := { name := "pipePlays", fn := fun _ => fun
  | [d] => { results := [.lit (.bool false)], args := [d] }
  | _ => none }
def PipePlaysWrongFalsely : Prop := pipePlaysRow.holds Try.pinned (OpenSpec.ofChange pipePlaysWrong)

/-- 'hartixlaw10.PipeNobody': WHATEVER THE INPUT: true; the input reads as it did. -/
def pipeNobodySpec : ChangeSpec := { name := "pipeNobody", fn := fun _ => fun
  | [d1, d2] => { results := [.lit (.bool true)], args := [d1, d2] }
  | _ => none }
def pipeNobodyRow : OpenClaim := { program := "ytnfpjholmidnbaa", sum := "414ee6401c01ce9c7e216db75ed938c2493f0d5f0983b6c513760fe37423a2c6", func := "hartix/hartixlaw10.PipeNobody", spec := "pipeNobody", apart := false }
def PipeNobodySaid : Prop := pipeNobodyRow.holds Try.pinned (OpenSpec.ofChange pipeNobodySpec)

/-- ITS FALSE NEIGHBOUR: 'it returns false'. Refute it at one input. -/
def pipeNobodyWrong : ChangeSpec := { name := "pipeNobody", fn := fun _ => fun
  | [d1, d2] => { results := [.lit (.bool false)], args := [d1, d2] }
  | _ => none }
def PipeNobodyWrongFalsely : Prop := pipeNobodyRow.holds Try.pinned (OpenSpec.ofChange pipeNobodyWrong)

/-- 'hartixlaw10.PipeOrder': WHATEVER THE INPUT: true; the input reads as it did. -/
def pipeOrderSpec : ChangeSpec := { name := "pipeOrder", fn := fun _ => fun
  | [d] => { results := [.lit (.bool true)], args := [d] }
  | _ => none }
def pipeOrderRow : OpenClaim := { program := "ytnfpjholmidnbaa", sum := "414ee6401c01ce9c7e216db75ed938c2493f0d5f0983b6c513760fe37423a2c6", func := "hartix/hartixlaw10.PipeOrder", spec := "pipeOrder", apart := false }
def PipeOrderSaid : Prop := pipeOrderRow.holds Try.pinned (OpenSpec.ofChange pipeOrderSpec)

/-- ITS FALSE NEIGHBOUR: 'it returns false'. Refute it at one input. -/
def pipeOrderWrong : ChangeSpec := { name := "pipeOrder", fn := fun _ => fun
  | [d] => { results := [.lit (.bool false)], args := [d] }
  | _ => none }
def PipeOrderWrongFalsely : Prop := pipeOrderRow.holds Try.pinned (OpenSpec.ofChange pipeOrderWrong)

/-- 'hartixlaw10.PipeWaits': WHATEVER THE INPUT: true; the input reads as it did. -/
def pipeWaitsSpec : ChangeSpec := { name := "pipeWaits", fn := fun _ => fun
  | [d] => { results := [.lit (.bool true)], args := [d] }
  | _ => none }
def pipeWaitsRow : OpenClaim := { program := "ytnfpjholmidnbaa", sum := "414ee6401c01ce9c7e216db75ed938c2493f0d5f0983b6c513760fe37423a2c6", func := "hartix/hartixlaw10.PipeWaits", spec := "pipeWaits", apart := false }
def PipeWaitsSaid : Prop := pipeWaitsRow.holds Try.pinned (OpenSpec.ofChange pipeWaitsSpec)

/-- ITS FALSE NEIGHBOUR: 'it returns false'. Refute it at one input. -/
def pipeWaitsWrong : ChangeSpec := { name := "pipeWaits", fn := fun _ => fun
  | [d] => { results := [.lit (.bool false)], args := [d] }
  | _ => none }
def PipeWaitsWrongFalsely : Prop := pipeWaitsRow.holds Try.pinned (OpenSpec.ofChange pipeWaitsWrong)

/-- 'hartixlaw10.PipeJoins': WHATEVER THE INPUT: true; the input reads as it did. -/
def pipeJoinsSpec : ChangeSpec := { name := "pipeJoins", fn := fun _ => fun
  | [d1, d2, d3, d4, d5] => { results := [.lit (.bool true)], args := [d1, d2, d3, d4, d5] }
  | _ => none }
def pipeJoinsRow : OpenClaim := { program := "ytnfpjholmidnbaa", sum := "414ee6401c01ce9c7e216db75ed938c2493f0d5f0983b6c513760fe37423a2c6", func := "hartix/hartixlaw10.PipeJoins", spec := "pipeJoins", apart := false }
def PipeJoinsSaid : Prop := pipeJoinsRow.holds Try.pinned (OpenSpec.ofChange pipeJoinsSpec)

/-- ITS FALSE NEIGHBOUR: 'it returns false'. Refute it at one input. -/
def pipeJoinsWrong : ChangeSpec := { name := "pipeJoins", fn := fun _ => fun
  | [d1, d2, d3, d4, d5] => { results := [.lit (.bool false)], args := [d1, d2, d3, d4, d5] }
  | _ => none }
def PipeJoinsWrongFalsely : Prop := pipeJoinsRow.holds Try.pinned (OpenSpec.ofChange pipeJoinsWrong)

/-- 'hartixlaw10.PipeFrom': WHATEVER THE INPUT: true; the input reads as it did. -/
def pipeFromSpec : ChangeSpec := { name := "pipeFrom", fn := fun _ => fun
  | [d1, d2] => { results := [.lit (.bool true)], args := [d1, d2] }
  | _ => none }
def pipeFromRow : OpenClaim := { program := "ytnfpjholmidnbaa", sum := "414ee6401c01ce9c7e216db75ed938c2493f0d5f0983b6c513760fe37423a2c6", func := "hartix/hartixlaw10.PipeFrom", spec := "pipeFrom", apart := false }
def PipeFromSaid : Prop := pipeFromRow.holds Try.pinned (OpenSpec.ofChange pipeFromSpec)

/-- ITS FALSE NEIGHBOUR: 'it returns false'. Refute it at one input. -/
def pipeFromWrong : ChangeSpec := { name := "pipeFrom", fn := fun _ => fun
  | [d1, d2] => { results := [.lit (.bool false)], args := [d1, d2] }
  | _ => none }
def PipeFromWrongFalsely : Prop := pipeFromRow.holds Try.pinned (OpenSpec.ofChange pipeFromWrong)

/-- 'hartixlaw10.PipeRounds': WHATEVER THE INPUT: true; the input reads as it did. -/
def pipeRoundsSpec : ChangeSpec := { name := "pipeRounds", fn := fun _ => fun
  | [d1, d2, d3] => { results := [.lit (.bool true)], args := [d1, d2, d3] }
  | _ => none }
def pipeRoundsRow : OpenClaim := { program := "ytnfpjholmidnbaa", sum := "414ee6401c01ce9c7e216db75ed938c2493f0d5f0983b6c513760fe37423a2c6", func := "hartix/hartixlaw10.PipeRounds", spec := "pipeRounds", apart := false }
def PipeRoundsSaid : Prop := pipeRoundsRow.holds Try.pinned (OpenSpec.ofChange pipeRoundsSpec)

/-- ITS FALSE NEIGHBOUR: 'it returns false'. Refute it at one input. -/
def pipeRoundsWrong : ChangeSpec := { name := "pipeRounds", fn := fun _ => fun
  | [d1, d2, d3] => { results := [.lit (.bool false)], args := [d1, d2, d3] }
  | _ => none }
def PipeRoundsWrongFalsely : Prop := pipeRoundsRow.holds Try.pinned (OpenSpec.ofChange pipeRoundsWrong)

/- THE SECOND FORM. 'bulk': how many values and letters a reading holds, each counted each time it is reached (what is shared counts as often as it is met; a slice's spare places count too). A statement '..UptoSaid' is the law's where the arguments, and the package variables that the reading takes, are together of bulk at most 1048576: NARROWER than '..Said'. Prove '..Said' where nothing that the law and all that it calls make is longer than what came in: it says more and counts as full. Else prove '..UptoSaid'. A law counts once. -/
mutual
def uptoBulk {H : Type} : DataW H → Nat
  | .lit (.string bytes) => bytes.length + 1
  | .lit _ => 1
  | .nil => 1
  | .ptr d => uptoBulk d + 1
  | .slice elems spare => uptoBulkAll elems + uptoBulkAll spare + 1
  | .agg parts => uptoBulkAll parts + 1
  | .iface _ d => uptoBulk d + 1
  | .map entries => uptoBulkEntries entries + 1
  | .held _ => 1
def uptoBulkAll {H : Type} : List (DataW H) → Nat
  | [] => 0
  | d :: r => uptoBulk d + uptoBulkAll r
def uptoBulkEntries {H : Type} : List (Lit × DataW H) → Nat
  | [] => 0
  | x :: r => uptoBulkEntry x + uptoBulkEntries r
def uptoBulkEntry {H : Type} : Lit × DataW H → Nat
  | (.string bytes, d) => bytes.length + uptoBulk d + 1
  | (_, d) => uptoBulk d + 1
 end
def uptoSmall : (H : Type) → List (DataW H) → Bool := fun _ ds => decide (uptoBulkAll ds ≤ 1048576)
def OpenSpec.upto (s : _root_.Go.ChangeSpec) : _root_.Go.OpenSpec := { _root_.Go.OpenSpec.ofChange s with cond := some uptoSmall }

/-- 'hartixlaw10.PipeNames', WHERE WHAT IT READS IS OF BULK AT MOST 1048576: true; the input reads as it did. -/
def pipeNamesUptoRow : OpenClaim := { program := "ytnfpjholmidnbaa", sum := "414ee6401c01ce9c7e216db75ed938c2493f0d5f0983b6c513760fe37423a2c6", func := "hartix/hartixlaw10.PipeNames", spec := "pipeNames", apart := false, narrowed := true }
def PipeNamesUptoSaid : Prop := pipeNamesUptoRow.holds Try.pinned (OpenSpec.upto pipeNamesSpec)

/-- 'hartixlaw10.PipePlays', WHERE WHAT IT READS IS OF BULK AT MOST 1048576: true; the input reads as it did. -/
def pipePlaysUptoRow : OpenClaim := { program := "ytnfpjholmidnbaa", sum := "414ee6401c01ce9c7e216db75ed938c2493f0d5f0983b6c513760fe37423a2c6", func := "hartix/hartixlaw10.PipePlays", spec := "pipePlays", apart := false, narrowed := true }
def PipePlaysUptoSaid : Prop := pipePlaysUptoRow.holds Try.pinned (OpenSpec.upto pipePlaysSpec)

/-- 'hartixlaw10.PipeNobody', WHERE WHAT IT READS IS OF BULK AT MOST 1048576: true; the input reads as it did. -/
def pipeNobodyUptoRow : OpenClaim := { program := "ytnfpjholmidnbaa", sum := "414ee6401c01ce9c7e216db75ed938c2493f0d5f0983b6c513760fe37423a2c6", func := "hartix/hartixlaw10.PipeNobody", spec := "pipeNobody", apart := false, narrowed := true }
def PipeNobodyUptoSaid : Prop := pipeNobodyUptoRow.holds Try.pinned (OpenSpec.upto pipeNobodySpec)

/-- 'hartixlaw10.PipeOrder', WHERE WHAT IT READS IS OF BULK AT MOST 1048576: true; the input reads as it did. -/
def pipeOrderUptoRow : OpenClaim := { program := "ytnfpjholmidnbaa", sum := "414ee6401c01ce9c7e216db75ed938c2493f0d5f0983b6c513760fe37423a2c6", func := "hartix/hartixlaw10.PipeOrder", spec := "pipeOrder", apart := false, narrowed := true }
def PipeOrderUptoSaid : Prop := pipeOrderUptoRow.holds Try.pinned (OpenSpec.upto pipeOrderSpec)

/-- 'hartixlaw10.PipeWaits', WHERE WHAT IT READS IS OF BULK AT MOST 1048576: true; the input reads as it did. -/
def pipeWaitsUptoRow : OpenClaim := { program := "ytnfpjholmidnbaa", sum := "414ee6401c01ce9c7e216db75ed938c2493f0d5f0983b6c513760fe37423a2c6", func := "hartix/hartixlaw10.PipeWaits", spec := "pipeWaits", apart := false, narrowed := true }
def PipeWaitsUptoSaid : Prop := pipeWaitsUptoRow.holds Try.pinned (OpenSpec.upto pipeWaitsSpec)

/-- 'hartixlaw10.PipeJoins', WHERE WHAT IT READS IS OF BULK AT MOST 1048576: true; the input reads as it did. -/
def pipeJoinsUptoRow : OpenClaim := { program := "ytnfpjholmidnbaa", sum := "414ee6401c01ce9c7e216db75ed938c2493f0d5f0983b6c513760fe37423a2c6", func := "hartix/hartixlaw10.PipeJoins", spec := "pipeJoins", apart := false, narrowed := true }
def PipeJoinsUptoSaid : Prop := pipeJoinsUptoRow.holds Try.pinned (OpenSpec.upto pipeJoinsSpec)

/-- 'hartixlaw10.PipeFrom', WHERE WHAT IT READS IS OF BULK AT MOST 1048576: true; the input reads as it did. -/
def pipeFromUptoRow : OpenClaim := { program := "ytnfpjholmidnbaa", sum := "414ee6401c01ce9c7e216db75ed938c2493f0d5f0983b6c513760fe37423a2c6", func := "hartix/hartixlaw10.PipeFrom", spec := "pipeFrom", apart := false, narrowed := true }
def PipeFromUptoSaid : Prop := pipeFromUptoRow.holds Try.pinned (OpenSpec.upto pipeFromSpec)

/-- 'hartixlaw10.PipeRounds', WHERE WHAT IT READS IS OF BULK AT MOST 1048576: true; the input reads as it did. -/
def pipeRoundsUptoRow : OpenClaim := { program := "ytnfpjholmidnbaa", sum := "414ee6401c01ce9c7e216db75ed938c2493f0d5f0983b6c513760fe37423a2c6", func := "hartix/hartixlaw10.PipeRounds", spec := "pipeRounds", apart := false, narrowed := true }
def PipeRoundsUptoSaid : Prop := pipeRoundsUptoRow.holds Try.pinned (OpenSpec.upto pipeRoundsSpec)

end Rows
end Go.Proofs.Ytnfpjholmidnbaa
