/-
  No cell of these rows narrows 'for every input' (looked for: loops, veiled, ifaces, maps, wideKeys, modest, calm, conditions, laid).
  DERIVED. THE GIVEN ROWS OF THIS SEAT. 7 by the template 'for every input the law returns true; each argument reads behind the call as it read before'; 0 by the template 'total and deterministic' (their statements: YtnkfehiajemkdaaTotals.lean).
  GIVEN WITH THE SEED: the statements are not yours to turn. If you find one false, say at which input.
  Laid BY PROGRAM, IN A SANDBOX (cutbox-rows.mjs): the forced cells as the released guide's own fill.sh prints them over the translation 6e8142bd6814034a… (all of the seat's roots in one cut). By AI agents, Wed Nov 11 2026. No macro, syntax, notation, axiom, sorry.
-/
import Derived.Test.YtnkfehiajemkdaaChecked
import GoSem.Claim
import GoSem.ClaimJoined
import GoSem.ClaimMapViews
import Derived.JoinedTies
import Derived.KernelRfl
namespace Go.Proofs.Ytnkfehiajemkdaa
/- THE CELL 'sum', in the pinned program and in every row, IS THE sha256 OF THE DUMP (.gsa) THAT YtnkfehiajemkdaaProg.lean LOADS. Nothing in Lean hashes anything: it is a label: what it is worth is what the hold of that sum in a sandbox is worth. -/
noncomputable def Try.pinned : Pinned := { name := "ytnkfehiajemkdaa", sum := "6e8142bd6814034a4d25f2c9f35cc9757f9c1573133285ddf4455a0599ee1e6b", checked := Try.checked }
namespace Rows
def none {H : Type} : Left H := { results := [], args := [] }

/-- 'hartixlaw17.CensusNames': WHATEVER THE INPUT: true; the input reads as it did. -/
def censusNamesSpec : ChangeSpec := { name := "censusNames", fn := fun _ => fun
  | [] => { results := [.lit (.bool true)], args := [] }
  | _ => none }
def censusNamesRow : OpenClaim := { program := "ytnkfehiajemkdaa", sum := "6e8142bd6814034a4d25f2c9f35cc9757f9c1573133285ddf4455a0599ee1e6b", func := "hartix/hartixlaw17.CensusNames", spec := "censusNames", plainKeys := false, apart := false }
def CensusNamesSaid : Prop := censusNamesRow.holds Try.pinned (OpenSpec.ofChange censusNamesSpec)

/-- ITS FALSE NEIGHBOUR: 'it returns false'. Refute it at one input. -/
def censusNamesWrong : ChangeSpec := { name := "censusNames", fn := fun _ => fun
  | [] => { results := [.lit (.bool false)], args := [] }
  | _ => none }
def CensusNamesWrongFalsely : Prop := censusNamesRow.holds Try.pinned (OpenSpec.ofChange censusNamesWrong)

/-- 'hartixlaw17.CensusAlike': WHATEVER THE INPUT: true; the input reads as it did. -/
def censusAlikeSpec : ChangeSpec := { name := "censusAlike", fn := fun _ => fun
  | [d1, d2] => { results := [.lit (.bool true)], args := [d1, d2] }
  | _ => none }
def censusAlikeRow : OpenClaim := { program := "ytnkfehiajemkdaa", sum := "6e8142bd6814034a4d25f2c9f35cc9757f9c1573133285ddf4455a0599ee1e6b", func := "hartix/hartixlaw17.CensusAlike", spec := "censusAlike", unfollowed := true, recurses := true, plainKeys := false, apart := false }
def CensusAlikeSaid : Prop := censusAlikeRow.holds Try.pinned (OpenSpec.ofChange censusAlikeSpec)

/-- ITS FALSE NEIGHBOUR: 'it returns false'. Refute it at one input. -/
def censusAlikeWrong : ChangeSpec := { name := "censusAlike", fn := fun _ => fun
  | [d1, d2] => { results := [.lit (.bool false)], args := [d1, d2] }
  | _ => none }
def CensusAlikeWrongFalsely : Prop := censusAlikeRow.holds Try.pinned (OpenSpec.ofChange censusAlikeWrong)

/-- 'hartixlaw17.CensusTells': WHATEVER THE INPUT: true; the input reads as it did. -/
def censusTellsSpec : ChangeSpec := { name := "censusTells", fn := fun _ => fun
  | [d1, d2, d3] => { results := [.lit (.bool true)], args := [d1, d2, d3] }
  | _ => none }
def censusTellsRow : OpenClaim := { program := "ytnkfehiajemkdaa", sum := "6e8142bd6814034a4d25f2c9f35cc9757f9c1573133285ddf4455a0599ee1e6b", func := "hartix/hartixlaw17.CensusTells", spec := "censusTells", unfollowed := true, recurses := true, plainKeys := false, apart := false }
def CensusTellsSaid : Prop := censusTellsRow.holds Try.pinned (OpenSpec.ofChange censusTellsSpec)

/-- ITS FALSE NEIGHBOUR: 'it returns false'. Refute it at one input. -/
def censusTellsWrong : ChangeSpec := { name := "censusTells", fn := fun _ => fun
  | [d1, d2, d3] => { results := [.lit (.bool false)], args := [d1, d2, d3] }
  | _ => none }
def CensusTellsWrongFalsely : Prop := censusTellsRow.holds Try.pinned (OpenSpec.ofChange censusTellsWrong)

/-- 'hartixlaw17.CensusTakes': WHATEVER THE INPUT: true; the input reads as it did. -/
def censusTakesSpec : ChangeSpec := { name := "censusTakes", fn := fun _ => fun
  | [d1, d2, d3] => { results := [.lit (.bool true)], args := [d1, d2, d3] }
  | _ => none }
def censusTakesRow : OpenClaim := { program := "ytnkfehiajemkdaa", sum := "6e8142bd6814034a4d25f2c9f35cc9757f9c1573133285ddf4455a0599ee1e6b", func := "hartix/hartixlaw17.CensusTakes", spec := "censusTakes", unfollowed := true, recurses := true, plainKeys := false, apart := false }
def CensusTakesSaid : Prop := censusTakesRow.holds Try.pinned (OpenSpec.ofChange censusTakesSpec)

/-- ITS FALSE NEIGHBOUR: 'it returns false'. Refute it at one input. -/
def censusTakesWrong : ChangeSpec := { name := "censusTakes", fn := fun _ => fun
  | [d1, d2, d3] => { results := [.lit (.bool false)], args := [d1, d2, d3] }
  | _ => none }
def CensusTakesWrongFalsely : Prop := censusTakesRow.holds Try.pinned (OpenSpec.ofChange censusTakesWrong)

/-- 'hartixlaw17.CensusSums': WHATEVER THE INPUT: true; the input reads as it did. -/
def censusSumsSpec : ChangeSpec := { name := "censusSums", fn := fun _ => fun
  | [d1, d2, d3] => { results := [.lit (.bool true)], args := [d1, d2, d3] }
  | _ => none }
def censusSumsRow : OpenClaim := { program := "ytnkfehiajemkdaa", sum := "6e8142bd6814034a4d25f2c9f35cc9757f9c1573133285ddf4455a0599ee1e6b", func := "hartix/hartixlaw17.CensusSums", spec := "censusSums", unfollowed := true, recurses := true, plainKeys := false, apart := false }
def CensusSumsSaid : Prop := censusSumsRow.holds Try.pinned (OpenSpec.ofChange censusSumsSpec)

/-- ITS FALSE NEIGHBOUR: 'it returns false'. Refute it at one input. -/
def censusSumsWrong : ChangeSpec := { name := "censusSums", fn := fun _ => fun
  | [d1, d2, d3] => { results := [.lit (.bool false)], args := [d1, d2, d3] }
  | _ => none }
def CensusSumsWrongFalsely : Prop := censusSumsRow.holds Try.pinned (OpenSpec.ofChange censusSumsWrong)

/-- 'hartixlaw17.CensusApart': WHATEVER THE INPUT: true; the input reads as it did. -/
def censusApartSpec : ChangeSpec := { name := "censusApart", fn := fun _ => fun
  | [d1, d2, d3] => { results := [.lit (.bool true)], args := [d1, d2, d3] }
  | _ => none }
def censusApartRow : OpenClaim := { program := "ytnkfehiajemkdaa", sum := "6e8142bd6814034a4d25f2c9f35cc9757f9c1573133285ddf4455a0599ee1e6b", func := "hartix/hartixlaw17.CensusApart", spec := "censusApart", unfollowed := true, recurses := true, plainKeys := false, apart := false }
def CensusApartSaid : Prop := censusApartRow.holds Try.pinned (OpenSpec.ofChange censusApartSpec)

/-- ITS FALSE NEIGHBOUR: 'it returns false'. Refute it at one input. -/
def censusApartWrong : ChangeSpec := { name := "censusApart", fn := fun _ => fun
  | [d1, d2, d3] => { results := [.lit (.bool false)], args := [d1, d2, d3] }
  | _ => none }
def CensusApartWrongFalsely : Prop := censusApartRow.holds Try.pinned (OpenSpec.ofChange censusApartWrong)

/-- 'hartixlaw17.CensusMoved': WHATEVER THE INPUT: true; the input reads as it did. -/
def censusMovedSpec : ChangeSpec := { name := "censusMoved", fn := fun _ => fun
  | [d1, d2, d3, d4] => { results := [.lit (.bool true)], args := [d1, d2, d3, d4] }
  | _ => none }
def censusMovedRow : OpenClaim := { program := "ytnkfehiajemkdaa", sum := "6e8142bd6814034a4d25f2c9f35cc9757f9c1573133285ddf4455a0599ee1e6b", func := "hartix/hartixlaw17.CensusMoved", spec := "censusMoved", unfollowed := true, recurses := true, plainKeys := false, apart := false }
def CensusMovedSaid : Prop := censusMovedRow.holds Try.pinned (OpenSpec.ofChange censusMovedSpec)

/-- ITS FALSE NEIGHBOUR: 'it returns false'. Refute it at one input. -/
def censusMovedWrong : ChangeSpec := { name := "censusMoved", fn := fun _ => fun
  | [d1, d2, d3, d4] => { results := [.lit (.bool false)], args := [d1, d2, d3, d4] }
  | _ => none }
def CensusMovedWrongFalsely : Prop := censusMovedRow.holds Try.pinned (OpenSpec.ofChange censusMovedWrong)

/- THE SECOND FORM. 'bulk': how many values and letters a reading holds, each counted each time it is reached (what is shared counts as often as it is met; a slice's spare places count too). A statement '..UptoSaid' is the law's where the arguments, and the package variables that the reading takes, are together of bulk at most 1048576: NARROWER than '..Said'. Prove '..Said' where nothing that the law and all that it calls make is longer than what came in: it says more and counts as full. Else prove '..UptoSaid'. A law counts once. -/
mutual
def uptoBulk {H : Type} : DataW H → Nat
  | .lit (.string bytes) => bytes.length + 1
  | .lit _ => 1
  | .nil => 1
  | .ptr d => uptoBulk d + 1
  | .slice elems spare => uptoBulkAll elems + uptoBulkAll spare + 1
  | .agg parts => uptoBulkAll parts + 1
  | .iface _ d => uptoBulk d + 1
  | .map entries => uptoBulkEntries entries + 1
  | .held _ => 1
def uptoBulkAll {H : Type} : List (DataW H) → Nat
  | [] => 0
  | d :: r => uptoBulk d + uptoBulkAll r
def uptoBulkEntries {H : Type} : List (Lit × DataW H) → Nat
  | [] => 0
  | x :: r => uptoBulkEntry x + uptoBulkEntries r
def uptoBulkEntry {H : Type} : Lit × DataW H → Nat
  | (.string bytes, d) => bytes.length + uptoBulk d + 1
  | (_, d) => uptoBulk d + 1
 end
def uptoSmall : (H : Type) → List (DataW H) → Bool := fun _ ds => decide (uptoBulkAll ds ≤ 1048576)
def OpenSpec.upto (s : _root_.Go.ChangeSpec) : _root_.Go.OpenSpec := { _root_.Go.OpenSpec.ofChange s with cond := some uptoSmall }

/-- 'hartixlaw17.CensusNames', WHERE WHAT IT READS IS OF BULK AT MOST 1048576: true; the input reads as it did. -/
def censusNamesUptoRow : OpenClaim := { program := "ytnkfehiajemkdaa", sum := "6e8142bd6814034a4d25f2c9f35cc9757f9c1573133285ddf4455a0599ee1e6b", func := "hartix/hartixlaw17.CensusNames", spec := "censusNames", plainKeys := false, apart := false, narrowed := true }
def CensusNamesUptoSaid : Prop := censusNamesUptoRow.holds Try.pinned (OpenSpec.upto censusNamesSpec)

/-- 'hartixlaw17.CensusAlike', WHERE WHAT IT READS IS OF BULK AT MOST 1048576: true; the input reads as it did. -/
def censusAlikeUptoRow : OpenClaim := { program := "ytnkfehiajemkdaa", sum := "6e8142bd6814034a4d25f2c9f35cc9757f9c1573133285ddf4455a0599ee1e6b", func := "hartix/hartixlaw17.CensusAlike", spec := "censusAlike", unfollowed := true, recurses := true, plainKeys := false, apart := false, narrowed := true }
def CensusAlikeUptoSaid : Prop := censusAlikeUptoRow.holds Try.pinned (OpenSpec.upto censusAlikeSpec)

/-- 'hartixlaw17.CensusTells', WHERE WHAT IT READS IS OF BULK AT MOST 1048576: true; the input reads as it did. -/
def censusTellsUptoRow : OpenClaim := { program := "ytnkfehiajemkdaa", sum := "6e8142bd6814034a4d25f2c9f35cc9757f9c1573133285ddf4455a0599ee1e6b", func := "hartix/hartixlaw17.CensusTells", spec := "censusTells", unfollowed := true, recurses := true, plainKeys := false, apart := false, narrowed := true }
def CensusTellsUptoSaid : Prop := censusTellsUptoRow.holds Try.pinned (OpenSpec.upto censusTellsSpec)

/-- 'hartixlaw17.CensusTakes', WHERE WHAT IT READS IS OF BULK AT MOST 1048576: true; the input reads as it did. -/
def censusTakesUptoRow : OpenClaim := { program := "ytnkfehiajemkdaa", sum := "6e8142bd6814034a4d25f2c9f35cc9757f9c1573133285ddf4455a0599ee1e6b", func := "hartix/hartixlaw17.CensusTakes", spec := "censusTakes", unfollowed := true, recurses := true, plainKeys := false, apart := false, narrowed := true }
def CensusTakesUptoSaid : Prop := censusTakesUptoRow.holds Try.pinned (OpenSpec.upto censusTakesSpec)

/-- 'hartixlaw17.CensusSums', WHERE WHAT IT READS IS OF BULK AT MOST 1048576: true; the input reads as it did. -/
def censusSumsUptoRow : OpenClaim := { program := "ytnkfehiajemkdaa", sum := "6e8142bd6814034a4d25f2c9f35cc9757f9c1573133285ddf4455a0599ee1e6b", func := "hartix/hartixlaw17.CensusSums", spec := "censusSums", unfollowed := true, recurses := true, plainKeys := false, apart := false, narrowed := true }
def CensusSumsUptoSaid : Prop := censusSumsUptoRow.holds Try.pinned (OpenSpec.upto censusSumsSpec)

/-- 'hartixlaw17.CensusApart', WHERE WHAT IT READS IS OF BULK AT MOST 1048576: true; the input reads as it did. -/
def censusApartUptoRow : OpenClaim := { program := "ytnkfehiajemkdaa", sum := "6e8142bd6814034a4d25f2c9f35cc9757f9c1573133285ddf4455a0599ee1e6b", func := "hartix/hartixlaw17.CensusApart", spec := "censusApart", unfollowed := true, recurses := true, plainKeys := false, apart := false, narrowed := true }
def CensusApartUptoSaid : Prop := censusApartUptoRow.holds Try.pinned (OpenSpec.upto censusApartSpec)

/-- 'hartixlaw17.CensusMoved', WHERE WHAT IT READS IS OF BULK AT MOST 1048576: true; the input reads as it did. -/
def censusMovedUptoRow : OpenClaim := { program := "ytnkfehiajemkdaa", sum := "6e8142bd6814034a4d25f2c9f35cc9757f9c1573133285ddf4455a0599ee1e6b", func := "hartix/hartixlaw17.CensusMoved", spec := "censusMoved", unfollowed := true, recurses := true, plainKeys := false, apart := false, narrowed := true }
def CensusMovedUptoSaid : Prop := censusMovedUptoRow.holds Try.pinned (OpenSpec.upto censusMovedSpec)

end Rows
end Go.Proofs.Ytnkfehiajemkdaa
