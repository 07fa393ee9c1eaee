/-
  No cell of these rows narrows 'for every input' (looked for: loops, veiled, ifaces, maps, wideKeys, modest, calm, conditions, laid).
  DERIVED. THE GIVEN ROWS OF THIS SEAT. 3 by the template 'for every input the law returns true; each argument reads behind the call as it read before'; 0 by the template 'total and deterministic' (their statements: YtemjdmgfilbfaaaGreatTotals.lean).
  GIVEN WITH THE SEED: the statements are not yours to turn. If you find one false, say at which input.
  Laid BY PROGRAM, IN A SANDBOX (cutbox-rows.mjs): the forced cells as the released guide's own fill.sh prints them over the translation 8532a8c5375534c6… (all of the seat's roots in one cut). By AI agents, Wed Nov 11 2026. No macro, syntax, notation, axiom, sorry.
-/
import Derived.Test.YtemjdmgfilbfaaaGreatChecked
import GoSem.Claim
import GoSem.ClaimJoined
import GoSem.ClaimMapViews
import Derived.JoinedTies
import Derived.KernelRfl
namespace Go.Proofs.YtemjdmgfilbfaaaGreat
/- THE CELL 'sum', in the pinned program and in every row, IS THE sha256 OF THE DUMP (.gsa) THAT YtemjdmgfilbfaaaGreatProg.lean LOADS. Nothing in Lean hashes anything: it is a label: what it is worth is what the hold of that sum in a sandbox is worth. -/
noncomputable def Tryz.pinned : Pinned := { name := "ytemjdmgfilbfaaagreat", sum := "8532a8c5375534c68b636c6ba3602cca5a757ca5896ae18b550a5c53673d8d37", checked := Tryz.checked }
namespace Rows
def none {H : Type} : Left H := { results := [], args := [] }

/-- 'tramwaylaw13.PdomapDoes': WHATEVER THE INPUT: true; the input reads as it did. -/
def pdomapDoesSpec : ChangeSpec := { name := "pdomapDoes", fn := fun _ => fun
  | [d1, d2, d3] => { results := [.lit (.bool true)], args := [d1, d2, d3] }
  | _ => none }
def pdomapDoesRow : OpenClaim := { program := "ytemjdmgfilbfaaagreat", sum := "8532a8c5375534c68b636c6ba3602cca5a757ca5896ae18b550a5c53673d8d37", func := "tramway/tramwaylaw13.PdomapDoes", spec := "pdomapDoes", inPlace := ["internal/bytealg.abigen_runtime_cmpstring"], unfollowed := true, recurses := true, plainKeys := false, apart := false }
def PdomapDoesSaid : Prop := pdomapDoesRow.holds Tryz.pinned (OpenSpec.ofChange pdomapDoesSpec)

/-- ITS FALSE NEIGHBOUR: 'it returns false'. Refute it at one input. -/
def pdomapDoesWrong : ChangeSpec := { name := "pdomapDoes", fn := fun _ => fun
  | [d1, d2, d3] => { results := [.lit (.bool false)], args := [d1, d2, d3] }
  | _ => none }
def PdomapDoesWrongFalsely : Prop := pdomapDoesRow.holds Tryz.pinned (OpenSpec.ofChange pdomapDoesWrong)

/-- 'tramwaylaw21.DcfLast': WHATEVER THE INPUT: true; the input reads as it did. -/
def dcfLastSpec : ChangeSpec := { name := "dcfLast", fn := fun _ => fun
  | [d1, d2] => { results := [.lit (.bool true)], args := [d1, d2] }
  | _ => none }
def dcfLastRow : OpenClaim := { program := "ytemjdmgfilbfaaagreat", sum := "8532a8c5375534c68b636c6ba3602cca5a757ca5896ae18b550a5c53673d8d37", func := "tramway/tramwaylaw21.DcfLast", spec := "dcfLast", inPlace := ["internal/bytealg.abigen_runtime_cmpstring"], unfollowed := true, recurses := true, plainKeys := false, apart := false }
def DcfLastSaid : Prop := dcfLastRow.holds Tryz.pinned (OpenSpec.ofChange dcfLastSpec)

/-- ITS FALSE NEIGHBOUR: 'it returns false'. Refute it at one input. -/
def dcfLastWrong : ChangeSpec := { name := "dcfLast", fn := fun _ => fun
  | [d1, d2] => { results := [.lit (.bool false)], args := [d1, d2] }
  | _ => none }
def DcfLastWrongFalsely : Prop := dcfLastRow.holds Tryz.pinned (OpenSpec.ofChange dcfLastWrong)

/-- 'tramwaylaw21.DcfReads': WHATEVER THE INPUT: true; the input reads as it did. -/
def dcfReadsSpec : ChangeSpec := { name := "dcfReads", fn := fun _ => fun
  | [d1, d2] => { results := [.lit (.bool true)], args := [d1, d2] }
  | _ => none }
def dcfReadsRow : OpenClaim := { program := "ytemjdmgfilbfaaagreat", sum := "8532a8c5375534c68b636c6ba3602cca5a757ca5896ae18b550a5c53673d8d37", func := "tramway/tramwaylaw21.DcfReads", spec := "dcfReads", inPlace := ["internal/bytealg.abigen_runtime_cmpstring"], unfollowed := true, recurses := true, plainKeys := false, apart := false }
def DcfReadsSaid : Prop := dcfReadsRow.holds Tryz.pinned (OpenSpec.ofChange dcfReadsSpec)

/-- ITS FALSE NEIGHBOUR: 'it returns false'. Refute it at one input. -/
def dcfReadsWrong : ChangeSpec := { name := "dcfReads", fn := fun _ => fun
  | [d1, d2] => { results := [.lit (.bool false)], args := [d1, d2] }
  | _ => none }
def DcfReadsWrongFalsely : Prop := dcfReadsRow.holds Tryz.pinned (OpenSpec.ofChange dcfReadsWrong)

/- THE SECOND FORM. 'bulk': how many values and letters a reading holds, each counted each time it is reached (what is shared counts as often as it is met; a slice's spare places count too). A statement '..UptoSaid' is the law's where the arguments, and the package variables that the reading takes, are together of bulk at most 1048576: NARROWER than '..Said'. Prove '..Said' where nothing that the law and all that it calls make is longer than what came in: it says more and counts as full. Else prove '..UptoSaid'. A law counts once. -/
mutual
def uptoBulk {H : Type} : DataW H → Nat
  | .lit (.string bytes) => bytes.length + 1
  | .lit _ => 1
  | .nil => 1
  | .ptr d => uptoBulk d + 1
  | .slice elems spare => uptoBulkAll elems + uptoBulkAll spare + 1
  | .agg parts => uptoBulkAll parts + 1
  | .iface _ d => uptoBulk d + 1
  | .map entries => uptoBulkEntries entries + 1
  | .held _ => 1
def uptoBulkAll {H : Type} : List (DataW H) → Nat
  | [] => 0
  | d :: r => uptoBulk d + uptoBulkAll r
def uptoBulkEntries {H : Type} : List (Lit × DataW H) → Nat
  | [] => 0
  | x :: r => uptoBulkEntry x + uptoBulkEntries r
def uptoBulkEntry {H : Type} : Lit × DataW H → Nat
  | (.string bytes, d) => bytes.length + uptoBulk d + 1
  | (_, d) => uptoBulk d + 1
 end
def uptoSmall : (H : Type) → List (DataW H) → Bool := fun _ ds => decide (uptoBulkAll ds ≤ 1048576)
def OpenSpec.upto (s : _root_.Go.ChangeSpec) : _root_.Go.OpenSpec := { _root_.Go.OpenSpec.ofChange s with cond := some uptoSmall }

/-- 'tramwaylaw13.PdomapDoes', WHERE WHAT IT READS IS OF BULK AT MOST 1048576: true; the input reads as it did. -/
def pdomapDoesUptoRow : OpenClaim := { program := "ytemjdmgfilbfaaagreat", sum := "8532a8c5375534c68b636c6ba3602cca5a757ca5896ae18b550a5c53673d8d37", func := "tramway/tramwaylaw13.PdomapDoes", spec := "pdomapDoes", inPlace := ["internal/bytealg.abigen_runtime_cmpstring"], unfollowed := true, recurses := true, plainKeys := false, apart := false, narrowed := true }
def PdomapDoesUptoSaid : Prop := pdomapDoesUptoRow.holds Tryz.pinned (OpenSpec.upto pdomapDoesSpec)

/-- 'tramwaylaw21.DcfLast', WHERE WHAT IT READS IS OF BULK AT MOST 1048576: true; the input reads as it did. -/
def dcfLastUptoRow : OpenClaim := { program := "ytemjdmgfilbfaaagreat", sum := "8532a8c5375534c68b636c6ba3602cca5a757ca5896ae18b550a5c53673d8d37", func := "tramway/tramwaylaw21.DcfLast", spec := "dcfLast", inPlace := ["internal/bytealg.abigen_runtime_cmpstring"], unfollowed := true, recurses := true, plainKeys := false, apart := false, narrowed := true }
def DcfLastUptoSaid : Prop := dcfLastUptoRow.holds Tryz.pinned (OpenSpec.upto dcfLastSpec)

/-- 'tramwaylaw21.DcfReads', WHERE WHAT IT READS IS OF BULK AT MOST 1048576: true; the input reads as it did. -/
def dcfReadsUptoRow : OpenClaim := { program := "ytemjdmgfilbfaaagreat", sum := "8532a8c5375534c68b636c6ba3602cca5a757ca5896ae18b550a5c53673d8d37", func := "tramway/tramwaylaw21.DcfReads", spec := "dcfReads", inPlace := ["internal/bytealg.abigen_runtime_cmpstring"], unfollowed := true, recurses := true, plainKeys := false, apart := false, narrowed := true }
def DcfReadsUptoSaid : Prop := dcfReadsUptoRow.holds Tryz.pinned (OpenSpec.upto dcfReadsSpec)

end Rows
end Go.Proofs.YtemjdmgfilbfaaaGreat
