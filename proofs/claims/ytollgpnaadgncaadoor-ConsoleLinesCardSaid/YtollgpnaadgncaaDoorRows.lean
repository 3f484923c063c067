/-
  NARROWER THAN 'FOR EVERY INPUT', by the rows' own cells (each row's printed sentence says how): ConsoleFroms: laid · ConsoleEcho: laid · ConsoleFresh: laid · ConsoleLines: laid · ConsoleParts: laid · ConsolePlays: laid · ConsoleNobody: laid.
  DERIVED. THE GIVEN ROWS OF THIS SEAT. 7 by the template 'for every input the law returns true; each argument reads behind the call as it read before'; 0 by the template 'total and deterministic' (their statements: YtollgpnaadgncaaDoorTotals.lean).
  GIVEN WITH THE SEED: the statements are not yours to turn. If you find one false, say at which input.
  Laid BY PROGRAM, IN A SANDBOX (cutbox-rows.mjs): the forced cells as the released guide's own fill.sh prints them over the translation 90faf869d4f988d8… (all of the seat's roots in one cut). By AI agents, Wed Nov 11 2026. No macro, syntax, notation, axiom, sorry.
-/
import Derived.Test.YtollgpnaadgncaaDoorChecked
import GoSem.Claim
import GoSem.ClaimJoined
import GoSem.ClaimMapViews
import Derived.JoinedTies
import Derived.KernelRfl
namespace Go.Proofs.YtollgpnaadgncaaDoor
/- THE CELL 'sum', in the pinned program and in every row, IS THE sha256 OF THE DUMP (.gsa) THAT YtollgpnaadgncaaDoorProg.lean LOADS. Nothing in Lean hashes anything: it is a label: what it is worth is what the hold of that sum in a sandbox is worth. -/
noncomputable def Tryd.pinned : Pinned := { name := "ytollgpnaadgncaadoor", sum := "90faf869d4f988d8d154bf8ea23a624b433180489028341f4ddede0f93180524", checked := Tryd.checked }
namespace Rows
def none {H : Type} : Left H := { results := [], args := [] }

/- WHAT THE LISTED PACKAGE-LEVEL VARIABLES READ AS WHEN THE CALL BEGINS. Each datum BY PROGRAM (the guide's laid-datum.mjs) off the statement by which the dump's own 'gosem.cut.vars' lays the variable. In a bare row this is a premise. The card (YtollgpnaadgncaaDoorCards.lean) ties it to the program's text. -/
def laid_hartix_console_keys {H : Type} : DataW H := .agg [.agg [.lit (.int .i64 0), .lit (.int .i64 1)], .agg [.lit (.int .i64 21), .lit (.int .i64 2)], .agg [.lit (.int .i64 8), .lit (.int .i64 3)], .agg [.lit (.int .i64 127), .lit (.int .i64 4)], .agg [.lit (.int .i64 4), .lit (.int .i64 5)], .agg [.lit (.int .i64 10), .lit (.int .i64 0)]]

/-- 'hartixlaw11.ConsoleFroms': WHATEVER THE INPUT: true; the input reads as it did. -/
def consoleFromsSpec : ChangeSpec := { name := "consoleFroms", fn := fun _ => fun
  | [d] => { results := [.lit (.bool true)], args := [d] }
  | _ => none }
def consoleFromsRow : OpenClaim := { program := "ytollgpnaadgncaadoor", sum := "90faf869d4f988d8d154bf8ea23a624b433180489028341f4ddede0f93180524", func := "hartix/hartixlaw11.ConsoleFroms", spec := "consoleFroms", named := ["hartix/console.keys"], apart := false, laid := [("hartix/console.keys", laid_hartix_console_keys)] }
def ConsoleFromsSaid : Prop := consoleFromsRow.holds Tryd.pinned (OpenSpec.ofChange consoleFromsSpec)

/-- ITS FALSE NEIGHBOUR: 'it returns false'. Refute it at one input. -/
def consoleFromsWrong : ChangeSpec := { name := "consoleFroms", fn := fun _ => fun
  | [d] => { results := [.lit (.bool false)], args := [d] }
  | _ => none }
def ConsoleFromsWrongFalsely : Prop := consoleFromsRow.holds Tryd.pinned (OpenSpec.ofChange consoleFromsWrong)

/-- 'hartixlaw11.ConsoleEcho': WHATEVER THE INPUT: true; the input reads as it did. -/
def consoleEchoSpec : ChangeSpec := { name := "consoleEcho", fn := fun _ => fun
  | [d] => { results := [.lit (.bool true)], args := [d] }
  | _ => none }
def consoleEchoRow : OpenClaim := { program := "ytollgpnaadgncaadoor", sum := "90faf869d4f988d8d154bf8ea23a624b433180489028341f4ddede0f93180524", func := "hartix/hartixlaw11.ConsoleEcho", spec := "consoleEcho", named := ["hartix/console.keys"], apart := false, laid := [("hartix/console.keys", laid_hartix_console_keys)] }
def ConsoleEchoSaid : Prop := consoleEchoRow.holds Tryd.pinned (OpenSpec.ofChange consoleEchoSpec)

/-- ITS FALSE NEIGHBOUR: 'it returns false'. Refute it at one input. -/
def consoleEchoWrong : ChangeSpec := { name := "consoleEcho", fn := fun _ => fun
  | [d] => { results := [.lit (.bool false)], args := [d] }
  | _ => none }
def ConsoleEchoWrongFalsely : Prop := consoleEchoRow.holds Tryd.pinned (OpenSpec.ofChange consoleEchoWrong)

/-- 'hartixlaw11.ConsoleFresh': WHATEVER THE INPUT: true; the input reads as it did. -/
def consoleFreshSpec : ChangeSpec := { name := "consoleFresh", fn := fun _ => fun
  | [d] => { results := [.lit (.bool true)], args := [d] }
  | _ => none }
def consoleFreshRow : OpenClaim := { program := "ytollgpnaadgncaadoor", sum := "90faf869d4f988d8d154bf8ea23a624b433180489028341f4ddede0f93180524", func := "hartix/hartixlaw11.ConsoleFresh", spec := "consoleFresh", named := ["hartix/console.keys"], apart := false, laid := [("hartix/console.keys", laid_hartix_console_keys)] }
def ConsoleFreshSaid : Prop := consoleFreshRow.holds Tryd.pinned (OpenSpec.ofChange consoleFreshSpec)

/-- ITS FALSE NEIGHBOUR: 'it returns false'. Refute it at one input. -/
def consoleFreshWrong : ChangeSpec := { name := "consoleFresh", fn := fun _ => fun
  | [d] => { results := [.lit (.bool false)], args := [d] }
  | _ => none }
def ConsoleFreshWrongFalsely : Prop := consoleFreshRow.holds Tryd.pinned (OpenSpec.ofChange consoleFreshWrong)

/-- 'hartixlaw11.ConsoleLines': WHATEVER THE INPUT: true; the input reads as it did. -/
def consoleLinesSpec : ChangeSpec := { name := "consoleLines", fn := fun _ => fun
  | [d] => { results := [.lit (.bool true)], args := [d] }
  | _ => none }
def consoleLinesRow : OpenClaim := { program := "ytollgpnaadgncaadoor", sum := "90faf869d4f988d8d154bf8ea23a624b433180489028341f4ddede0f93180524", func := "hartix/hartixlaw11.ConsoleLines", spec := "consoleLines", named := ["hartix/console.keys"], apart := false, laid := [("hartix/console.keys", laid_hartix_console_keys)] }
def ConsoleLinesSaid : Prop := consoleLinesRow.holds Tryd.pinned (OpenSpec.ofChange consoleLinesSpec)

/-- ITS FALSE NEIGHBOUR: 'it returns false'. Refute it at one input. -/
def consoleLinesWrong : ChangeSpec := { name := "consoleLines", fn := fun _ => fun
  | [d] => { results := [.lit (.bool false)], args := [d] }
  | _ => none }
def ConsoleLinesWrongFalsely : Prop := consoleLinesRow.holds Tryd.pinned (OpenSpec.ofChange consoleLinesWrong)

/-- 'hartixlaw11.ConsoleParts': WHATEVER THE INPUT: true; the input reads as it did. -/
def consolePartsSpec : ChangeSpec := { name := "consoleParts", fn := fun _ => fun
  | [d1, d2, d3] => { results := [.lit (.bool true)], args := [d1, d2, d3] }
  | _ => none }
def consolePartsRow : OpenClaim := { program := "ytollgpnaadgncaadoor", sum := "90faf869d4f988d8d154bf8ea23a624b433180489028341f4ddede0f93180524", func := "hartix/hartixlaw11.ConsoleParts", spec := "consoleParts", named := ["hartix/console.keys"], apart := false, laid := [("hartix/console.keys", laid_hartix_console_keys)] }
def ConsolePartsSaid : Prop := consolePartsRow.holds Tryd.pinned (OpenSpec.ofChange consolePartsSpec)

/-- ITS FALSE NEIGHBOUR: 'it returns false'. Refute it at one input. -/
def consolePartsWrong : ChangeSpec := { name := "consoleParts", fn := fun _ => fun
  | [d1, d2, d3] => { results := [.lit (.bool false)], args := [d1, d2, d3] }
  | _ => none }
def ConsolePartsWrongFalsely : Prop := consolePartsRow.holds Tryd.pinned (OpenSpec.ofChange consolePartsWrong)

/-- 'hartixlaw11.ConsolePlays': WHATEVER THE INPUT: true; the input reads as it did. -/
def consolePlaysSpec : ChangeSpec := { name := "consolePlays", fn := fun _ => fun
  | [d1, d2] => { results := [.lit (.bool true)], args := [d1, d2] }
  | _ => none }
def consolePlaysRow : OpenClaim := { program := "ytollgpnaadgncaadoor", sum := "90faf869d4f988d8d154bf8ea23a624b433180489028341f4ddede0f93180524", func := "hartix/hartixlaw11.ConsolePlays", spec := "consolePlays", named := ["hartix/console.keys"], apart := false, laid := [("hartix/console.keys", laid_hartix_console_keys)] }
def ConsolePlaysSaid : Prop := consolePlaysRow.holds Tryd.pinned (OpenSpec.ofChange consolePlaysSpec)

/-- ITS FALSE NEIGHBOUR: 'it returns false'. Refute it at one input. -/
def consolePlaysWrong : ChangeSpec := { name := "consolePlays", fn := fun _ => fun
  | [d1, d2] => { results := [.lit (.bool false)], args := [d1, d2] }
  | _ => none }
def ConsolePlaysWrongFalsely : Prop := consolePlaysRow.holds Tryd.pinned (OpenSpec.ofChange consolePlaysWrong)

/-- 'hartixlaw11.ConsoleNobody': WHATEVER THE INPUT: true; the input reads as it did. -/
def consoleNobodySpec : ChangeSpec := { name := "consoleNobody", fn := fun _ => fun
  | [d1, d2] => { results := [.lit (.bool true)], args := [d1, d2] }
  | _ => none }
def consoleNobodyRow : OpenClaim := { program := "ytollgpnaadgncaadoor", sum := "90faf869d4f988d8d154bf8ea23a624b433180489028341f4ddede0f93180524", func := "hartix/hartixlaw11.ConsoleNobody", spec := "consoleNobody", named := ["hartix/console.keys"], apart := false, laid := [("hartix/console.keys", laid_hartix_console_keys)] }
def ConsoleNobodySaid : Prop := consoleNobodyRow.holds Tryd.pinned (OpenSpec.ofChange consoleNobodySpec)

/-- ITS FALSE NEIGHBOUR: 'it returns false'. Refute it at one input. -/
def consoleNobodyWrong : ChangeSpec := { name := "consoleNobody", fn := fun _ => fun
  | [d1, d2] => { results := [.lit (.bool false)], args := [d1, d2] }
  | _ => none }
def ConsoleNobodyWrongFalsely : Prop := consoleNobodyRow.holds Tryd.pinned (OpenSpec.ofChange consoleNobodyWrong)

/- THE SECOND FORM. 'bulk': how many values and letters a reading holds, each counted each time it is reached (what is shared counts as often as it is met; a slice's spare places count too). A statement '..UptoSaid' is the law's where the arguments, and the package variables that the reading takes, are together of bulk at most 1048576: NARROWER than '..Said'. Prove '..Said' where nothing that the law and all that it calls make is longer than what came in: it says more and counts as full. Else prove '..UptoSaid'. A law counts once. -/
mutual
def uptoBulk {H : Type} : DataW H → Nat
  | .lit (.string bytes) => bytes.length + 1
  | .lit _ => 1
  | .nil => 1
  | .ptr d => uptoBulk d + 1
  | .slice elems spare => uptoBulkAll elems + uptoBulkAll spare + 1
  | .agg parts => uptoBulkAll parts + 1
  | .iface _ d => uptoBulk d + 1
  | .map entries => uptoBulkEntries entries + 1
  | .held _ => 1
def uptoBulkAll {H : Type} : List (DataW H) → Nat
  | [] => 0
  | d :: r => uptoBulk d + uptoBulkAll r
def uptoBulkEntries {H : Type} : List (Lit × DataW H) → Nat
  | [] => 0
  | x :: r => uptoBulkEntry x + uptoBulkEntries r
def uptoBulkEntry {H : Type} : Lit × DataW H → Nat
  | (.string bytes, d) => bytes.length + uptoBulk d + 1
  | (_, d) => uptoBulk d + 1
 end
def uptoSmall : (H : Type) → List (DataW H) → Bool := fun _ ds => decide (uptoBulkAll ds ≤ 1048576)
def OpenSpec.upto (s : _root_.Go.ChangeSpec) : _root_.Go.OpenSpec := { _root_.Go.OpenSpec.ofChange s with cond := some uptoSmall }

/-- 'hartixlaw11.ConsoleFroms', WHERE WHAT IT READS IS OF BULK AT MOST 1048576: true; the input reads as it did. -/
def consoleFromsUptoRow : OpenClaim := { program := "ytollgpnaadgncaadoor", sum := "90faf869d4f988d8d154bf8ea23a624b433180489028341f4ddede0f93180524", func := "hartix/hartixlaw11.ConsoleFroms", spec := "consoleFroms", named := ["hartix/console.keys"], apart := false, laid := [("hartix/console.keys", laid_hartix_console_keys)], narrowed := true }
def ConsoleFromsUptoSaid : Prop := consoleFromsUptoRow.holds Tryd.pinned (OpenSpec.upto consoleFromsSpec)

/-- 'hartixlaw11.ConsoleEcho', WHERE WHAT IT READS IS OF BULK AT MOST 1048576: true; the input reads as it did. -/
def consoleEchoUptoRow : OpenClaim := { program := "ytollgpnaadgncaadoor", sum := "90faf869d4f988d8d154bf8ea23a624b433180489028341f4ddede0f93180524", func := "hartix/hartixlaw11.ConsoleEcho", spec := "consoleEcho", named := ["hartix/console.keys"], apart := false, laid := [("hartix/console.keys", laid_hartix_console_keys)], narrowed := true }
def ConsoleEchoUptoSaid : Prop := consoleEchoUptoRow.holds Tryd.pinned (OpenSpec.upto consoleEchoSpec)

/-- 'hartixlaw11.ConsoleFresh', WHERE WHAT IT READS IS OF BULK AT MOST 1048576: true; the input reads as it did. -/
def consoleFreshUptoRow : OpenClaim := { program := "ytollgpnaadgncaadoor", sum := "90faf869d4f988d8d154bf8ea23a624b433180489028341f4ddede0f93180524", func := "hartix/hartixlaw11.ConsoleFresh", spec := "consoleFresh", named := ["hartix/console.keys"], apart := false, laid := [("hartix/console.keys", laid_hartix_console_keys)], narrowed := true }
def ConsoleFreshUptoSaid : Prop := consoleFreshUptoRow.holds Tryd.pinned (OpenSpec.upto consoleFreshSpec)

/-- 'hartixlaw11.ConsoleLines', WHERE WHAT IT READS IS OF BULK AT MOST 1048576: true; the input reads as it did. -/
def consoleLinesUptoRow : OpenClaim := { program := "ytollgpnaadgncaadoor", sum := "90faf869d4f988d8d154bf8ea23a624b433180489028341f4ddede0f93180524", func := "hartix/hartixlaw11.ConsoleLines", spec := "consoleLines", named := ["hartix/console.keys"], apart := false, laid := [("hartix/console.keys", laid_hartix_console_keys)], narrowed := true }
def ConsoleLinesUptoSaid : Prop := consoleLinesUptoRow.holds Tryd.pinned (OpenSpec.upto consoleLinesSpec)

/-- 'hartixlaw11.ConsoleParts', WHERE WHAT IT READS IS OF BULK AT MOST 1048576: true; the input reads as it did. -/
def consolePartsUptoRow : OpenClaim := { program := "ytollgpnaadgncaadoor", sum := "90faf869d4f988d8d154bf8ea23a624b433180489028341f4ddede0f93180524", func := "hartix/hartixlaw11.ConsoleParts", spec := "consoleParts", named := ["hartix/console.keys"], apart := false, laid := [("hartix/console.keys", laid_hartix_console_keys)], narrowed := true }
def ConsolePartsUptoSaid : Prop := consolePartsUptoRow.holds Tryd.pinned (OpenSpec.upto consolePartsSpec)

/-- 'hartixlaw11.ConsolePlays', WHERE WHAT IT READS IS OF BULK AT MOST 1048576: true; the input reads as it did. -/
def consolePlaysUptoRow : OpenClaim := { program := "ytollgpnaadgncaadoor", sum := "90faf869d4f988d8d154bf8ea23a624b433180489028341f4ddede0f93180524", func := "hartix/hartixlaw11.ConsolePlays", spec := "consolePlays", named := ["hartix/console.keys"], apart := false, laid := [("hartix/console.keys", laid_hartix_console_keys)], narrowed := true }
def ConsolePlaysUptoSaid : Prop := consolePlaysUptoRow.holds Tryd.pinned (OpenSpec.upto consolePlaysSpec)

/-- 'hartixlaw11.ConsoleNobody', WHERE WHAT IT READS IS OF BULK AT MOST 1048576: true; the input reads as it did. -/
def consoleNobodyUptoRow : OpenClaim := { program := "ytollgpnaadgncaadoor", sum := "90faf869d4f988d8d154bf8ea23a624b433180489028341f4ddede0f93180524", func := "hartix/hartixlaw11.ConsoleNobody", spec := "consoleNobody", named := ["hartix/console.keys"], apart := false, laid := [("hartix/console.keys", laid_hartix_console_keys)], narrowed := true }
def ConsoleNobodyUptoSaid : Prop := consoleNobodyUptoRow.holds Tryd.pinned (OpenSpec.upto consoleNobodySpec)

end Rows
end Go.Proofs.YtollgpnaadgncaaDoor
