/-
  No cell of these rows narrows 'for every input' (looked for: loops, veiled, ifaces, maps, wideKeys, modest, calm, conditions, laid).
  DERIVED. THE GIVEN ROWS OF THIS SEAT. 3 by the template 'for every input the law returns true; each argument reads behind the call as it read before'; 0 by the template 'total and deterministic' (their statements: YtggngmmbpkoooaaTotals.lean).
  GIVEN WITH THE SEED: the statements are not yours to turn. If you find one false, say at which input.
  Laid BY PROGRAM, IN A SANDBOX (cutbox-rows.mjs): the forced cells as the released guide's own fill.sh prints them over the translation 98ebc51fe3c23a67… (all of the seat's roots in one cut). By AI agents, Wed Nov 11 2026. No macro, syntax, notation, axiom, sorry.
-/
import Derived.Test.YtggngmmbpkoooaaChecked
import GoSem.Claim
import GoSem.ClaimJoined
import GoSem.ClaimMapViews
import Derived.JoinedTies
import Derived.KernelRfl
namespace Go.Proofs.Ytggngmmbpkoooaa
/- THE CELL 'sum', in the pinned program and in every row, IS THE sha256 OF THE DUMP (.gsa) THAT YtggngmmbpkoooaaProg.lean LOADS. Nothing in Lean hashes anything: it is a label: what it is worth is what the hold of that sum in a sandbox is worth. -/
noncomputable def Try.pinned : Pinned := { name := "ytggngmmbpkoooaa", sum := "98ebc51fe3c23a672a9f6f59ae0868b0519fb57282d4d77136bca436f99c22e8", checked := Try.checked }
namespace Rows
def none {H : Type} : Left H := { results := [], args := [] }

/-- 'trellislaw2.HeadExact': WHATEVER THE INPUT: true; the input reads as it did. -/
def headExactSpec : ChangeSpec := { name := "headExact", fn := fun _ => fun
  | [d] => { results := [.lit (.bool true)], args := [d] }
  | _ => none }
def headExactRow : OpenClaim := { program := "ytggngmmbpkoooaa", sum := "98ebc51fe3c23a672a9f6f59ae0868b0519fb57282d4d77136bca436f99c22e8", func := "trellis/trellislaw2.HeadExact", spec := "headExact", apart := false }
def HeadExactSaid : Prop := headExactRow.holds Try.pinned (OpenSpec.ofChange headExactSpec)

/-- ITS FALSE NEIGHBOUR: 'it returns false'. Refute it at one input. -/
def headExactWrong : ChangeSpec := { name := "headExact", fn := fun _ => fun
  | [d] => { results := [.lit (.bool false)], args := [d] }
  | _ => none }
def HeadExactWrongFalsely : Prop := headExactRow.holds Try.pinned (OpenSpec.ofChange headExactWrong)

/-- 'trellislaw2.HeadThere': WHATEVER THE INPUT: true; the input reads as it did. -/
def headThereSpec : ChangeSpec := { name := "headThere", fn := fun _ => fun
  | [d] => { results := [.lit (.bool true)], args := [d] }
  | _ => none }
def headThereRow : OpenClaim := { program := "ytggngmmbpkoooaa", sum := "98ebc51fe3c23a672a9f6f59ae0868b0519fb57282d4d77136bca436f99c22e8", func := "trellis/trellislaw2.HeadThere", spec := "headThere", apart := false }
def HeadThereSaid : Prop := headThereRow.holds Try.pinned (OpenSpec.ofChange headThereSpec)

/-- ITS FALSE NEIGHBOUR: 'it returns false'. Refute it at one input. -/
def headThereWrong : ChangeSpec := { name := "headThere", fn := fun _ => fun
  | [d] => { results := [.lit (.bool false)], args := [d] }
  | _ => none }
def HeadThereWrongFalsely : Prop := headThereRow.holds Try.pinned (OpenSpec.ofChange headThereWrong)

/-- 'trellislaw2.HeadBack': WHATEVER THE INPUT: true; the input reads as it did. -/
def headBackSpec : ChangeSpec := { name := "headBack", fn := fun _ => fun
  | [d] => { results := [.lit (.bool true)], args := [d] }
  | _ => none }
def headBackRow : OpenClaim := { program := "ytggngmmbpkoooaa", sum := "98ebc51fe3c23a672a9f6f59ae0868b0519fb57282d4d77136bca436f99c22e8", func := "trellis/trellislaw2.HeadBack", spec := "headBack", apart := false }
def HeadBackSaid : Prop := headBackRow.holds Try.pinned (OpenSpec.ofChange headBackSpec)

/-- ITS FALSE NEIGHBOUR: 'it returns false'. Refute it at one input. -/
def headBackWrong : ChangeSpec := { name := "headBack", fn := fun _ => fun
  | [d] => { results := [.lit (.bool false)], args := [d] }
  | _ => none }
def HeadBackWrongFalsely : Prop := headBackRow.holds Try.pinned (OpenSpec.ofChange headBackWrong)

/- THE SECOND FORM. 'bulk': how many values and letters a reading holds, each counted each time it is reached (what is shared counts as often as it is met; a slice's spare places count too). A statement '..UptoSaid' is the law's where the arguments, and the package variables that the reading takes, are together of bulk at most 1048576: NARROWER than '..Said'. Prove '..Said' where nothing that the law and all that it calls make is longer than what came in: it says more and counts as full. Else prove '..UptoSaid'. A law counts once. -/
mutual
def uptoBulk {H : Type} : DataW H → Nat
  | .lit (.string bytes) => bytes.length + 1
  | .lit _ => 1
  | .nil => 1
  | .ptr d => uptoBulk d + 1
  | .slice elems spare => uptoBulkAll elems + uptoBulkAll spare + 1
  | .agg parts => uptoBulkAll parts + 1
  | .iface _ d => uptoBulk d + 1
  | .map entries => uptoBulkEntries entries + 1
  | .held _ => 1
def uptoBulkAll {H : Type} : List (DataW H) → Nat
  | [] => 0
  | d :: r => uptoBulk d + uptoBulkAll r
def uptoBulkEntries {H : Type} : List (Lit × DataW H) → Nat
  | [] => 0
  | x :: r => uptoBulkEntry x + uptoBulkEntries r
def uptoBulkEntry {H : Type} : Lit × DataW H → Nat
  | (.string bytes, d) => bytes.length + uptoBulk d + 1
  | (_, d) => uptoBulk d + 1
 end
def uptoSmall : (H : Type) → List (DataW H) → Bool := fun _ ds => decide (uptoBulkAll ds ≤ 1048576)
def OpenSpec.upto (s : _root_.Go.ChangeSpec) : _root_.Go.OpenSpec := { _root_.Go.OpenSpec.ofChange s with cond := some uptoSmall }

/-- 'trellislaw2.HeadExact', WHERE WHAT IT READS IS OF BULK AT MOST 1048576: true; the input reads as it did. -/
def headExactUptoRow : OpenClaim := { program := "ytggngmmbpkoooaa", sum := "98ebc51fe3c23a672a9f6f59ae0868b0519fb57282d4d77136bca436f99c22e8", func := "trellis/trellislaw2.HeadExact", spec := "headExact", apart := false, narrowed := true }
def HeadExactUptoSaid : Prop := headExactUptoRow.holds Try.pinned (OpenSpec.upto headExactSpec)

/-- 'trellislaw2.HeadThere', WHERE WHAT IT READS IS OF BULK AT MOST 1048576: true; the input reads as it did. -/
def headThereUptoRow : OpenClaim := { program := "ytggngmmbpkoooaa", sum := "98ebc51fe3c23a672a9f6f59ae0868b0519fb57282d4d77136bca436f99c22e8", func := "trellis/trellislaw2.HeadThere", spec := "headThere", apart := false, narrowed := true }
def HeadThereUptoSaid : Prop := headThereUptoRow.holds Try.pinned (OpenSpec.upto headThereSpec)

/-- 'trellislaw2.HeadBack', WHERE WHAT IT READS IS OF BULK AT MOST 1048576: true; the input reads as it did. -/
def headBackUptoRow : OpenClaim := { program := "ytggngmmbpkoooaa", sum := "98ebc51fe3c23a672a9f6f59ae0868b0519fb57282d4d77136bca436f99c22e8", func := "trellis/trellislaw2.HeadBack", spec := "headBack", apart := false, narrowed := true }
def HeadBackUptoSaid : Prop := headBackUptoRow.holds Try.pinned (OpenSpec.upto headBackSpec)

end Rows
end Go.Proofs.Ytggngmmbpkoooaa
