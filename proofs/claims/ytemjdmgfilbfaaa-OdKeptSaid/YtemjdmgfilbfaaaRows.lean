/-
  No cell of these rows narrows 'for every input' (looked for: loops, veiled, ifaces, maps, wideKeys, modest, calm, conditions, laid).
  DERIVED. THE GIVEN ROWS OF THIS SEAT. 9 by the template 'for every input the law returns true; each argument reads behind the call as it read before'; 0 by the template 'total and deterministic' (their statements: YtemjdmgfilbfaaaTotals.lean).
  GIVEN WITH THE SEED: the statements are not yours to turn. If you find one false, say at which input.
  Laid BY PROGRAM, IN A SANDBOX (cutbox-rows.mjs): the forced cells as the released guide's own fill.sh prints them over the translation 93e0e45664299c07… (all of the seat's roots in one cut). By AI agents, Wed Nov 11 2026. No macro, syntax, notation, axiom, sorry.
-/
import Derived.Test.YtemjdmgfilbfaaaChecked
import GoSem.Claim
import GoSem.ClaimJoined
import GoSem.ClaimMapViews
import Derived.JoinedTies
import Derived.KernelRfl
namespace Go.Proofs.Ytemjdmgfilbfaaa
/- THE CELL 'sum', in the pinned program and in every row, IS THE sha256 OF THE DUMP (.gsa) THAT YtemjdmgfilbfaaaProg.lean LOADS. Nothing in Lean hashes anything: it is a label: what it is worth is what the hold of that sum in a sandbox is worth. -/
noncomputable def Try.pinned : Pinned := { name := "ytemjdmgfilbfaaa", sum := "93e0e45664299c07b0098f0ca560ff2037a5a21df7d909f96dc4215339412439", checked := Try.checked }
namespace Rows
def none {H : Type} : Left H := { results := [], args := [] }

/-- 'tramwaylaw08.OdLimits': WHATEVER THE INPUT: true; the input reads as it did. -/
def odLimitsSpec : ChangeSpec := { name := "odLimits", fn := fun _ => fun
  | [d1, d2] => { results := [.lit (.bool true)], args := [d1, d2] }
  | _ => none }
def odLimitsRow : OpenClaim := { program := "ytemjdmgfilbfaaa", sum := "93e0e45664299c07b0098f0ca560ff2037a5a21df7d909f96dc4215339412439", func := "tramway/tramwaylaw08.OdLimits", spec := "odLimits", inPlace := ["internal/bytealg.abigen_runtime_cmpstring"], unfollowed := true, recurses := true, plainKeys := false, apart := false }
def OdLimitsSaid : Prop := odLimitsRow.holds Try.pinned (OpenSpec.ofChange odLimitsSpec)

/-- ITS FALSE NEIGHBOUR: 'it returns false'. Refute it at one input. -/
def odLimitsWrong : ChangeSpec := { name := "odLimits", fn := fun _ => fun
  | [d1, d2] => { results := [.lit (.bool false)], args := [d1, d2] }
  | _ => none }
def OdLimitsWrongFalsely : Prop := odLimitsRow.holds Try.pinned (OpenSpec.ofChange odLimitsWrong)

/-- 'tramwaylaw08.OdOrder': WHATEVER THE INPUT: true; the input reads as it did. -/
def odOrderSpec : ChangeSpec := { name := "odOrder", fn := fun _ => fun
  | [d1, d2] => { results := [.lit (.bool true)], args := [d1, d2] }
  | _ => none }
def odOrderRow : OpenClaim := { program := "ytemjdmgfilbfaaa", sum := "93e0e45664299c07b0098f0ca560ff2037a5a21df7d909f96dc4215339412439", func := "tramway/tramwaylaw08.OdOrder", spec := "odOrder", inPlace := ["internal/bytealg.abigen_runtime_cmpstring"], unfollowed := true, recurses := true, plainKeys := false, apart := false }
def OdOrderSaid : Prop := odOrderRow.holds Try.pinned (OpenSpec.ofChange odOrderSpec)

/-- ITS FALSE NEIGHBOUR: 'it returns false'. Refute it at one input. -/
def odOrderWrong : ChangeSpec := { name := "odOrder", fn := fun _ => fun
  | [d1, d2] => { results := [.lit (.bool false)], args := [d1, d2] }
  | _ => none }
def OdOrderWrongFalsely : Prop := odOrderRow.holds Try.pinned (OpenSpec.ofChange odOrderWrong)

/-- 'tramwaylaw08.OdApart': WHATEVER THE INPUT: true; the input reads as it did. -/
def odApartSpec : ChangeSpec := { name := "odApart", fn := fun _ => fun
  | [d1, d2] => { results := [.lit (.bool true)], args := [d1, d2] }
  | _ => none }
def odApartRow : OpenClaim := { program := "ytemjdmgfilbfaaa", sum := "93e0e45664299c07b0098f0ca560ff2037a5a21df7d909f96dc4215339412439", func := "tramway/tramwaylaw08.OdApart", spec := "odApart", inPlace := ["internal/bytealg.abigen_runtime_cmpstring"], unfollowed := true, recurses := true, plainKeys := false, apart := false }
def OdApartSaid : Prop := odApartRow.holds Try.pinned (OpenSpec.ofChange odApartSpec)

/-- ITS FALSE NEIGHBOUR: 'it returns false'. Refute it at one input. -/
def odApartWrong : ChangeSpec := { name := "odApart", fn := fun _ => fun
  | [d1, d2] => { results := [.lit (.bool false)], args := [d1, d2] }
  | _ => none }
def OdApartWrongFalsely : Prop := odApartRow.holds Try.pinned (OpenSpec.ofChange odApartWrong)

/-- 'tramwaylaw08.OdKept': WHATEVER THE INPUT: true; the input reads as it did. -/
def odKeptSpec : ChangeSpec := { name := "odKept", fn := fun _ => fun
  | [d1, d2] => { results := [.lit (.bool true)], args := [d1, d2] }
  | _ => none }
def odKeptRow : OpenClaim := { program := "ytemjdmgfilbfaaa", sum := "93e0e45664299c07b0098f0ca560ff2037a5a21df7d909f96dc4215339412439", func := "tramway/tramwaylaw08.OdKept", spec := "odKept", inPlace := ["internal/bytealg.abigen_runtime_cmpstring"], unfollowed := true, recurses := true, plainKeys := false, apart := false }
def OdKeptSaid : Prop := odKeptRow.holds Try.pinned (OpenSpec.ofChange odKeptSpec)

/-- ITS FALSE NEIGHBOUR: 'it returns false'. Refute it at one input. -/
def odKeptWrong : ChangeSpec := { name := "odKept", fn := fun _ => fun
  | [d1, d2] => { results := [.lit (.bool false)], args := [d1, d2] }
  | _ => none }
def OdKeptWrongFalsely : Prop := odKeptRow.holds Try.pinned (OpenSpec.ofChange odKeptWrong)

/-- 'tramwaylaw08.OdActs': WHATEVER THE INPUT: true; the input reads as it did. -/
def odActsSpec : ChangeSpec := { name := "odActs", fn := fun _ => fun
  | [d1, d2] => { results := [.lit (.bool true)], args := [d1, d2] }
  | _ => none }
def odActsRow : OpenClaim := { program := "ytemjdmgfilbfaaa", sum := "93e0e45664299c07b0098f0ca560ff2037a5a21df7d909f96dc4215339412439", func := "tramway/tramwaylaw08.OdActs", spec := "odActs", inPlace := ["internal/bytealg.abigen_runtime_cmpstring"], unfollowed := true, recurses := true, plainKeys := false, apart := false }
def OdActsSaid : Prop := odActsRow.holds Try.pinned (OpenSpec.ofChange odActsSpec)

/-- ITS FALSE NEIGHBOUR: 'it returns false'. Refute it at one input. -/
def odActsWrong : ChangeSpec := { name := "odActs", fn := fun _ => fun
  | [d1, d2] => { results := [.lit (.bool false)], args := [d1, d2] }
  | _ => none }
def OdActsWrongFalsely : Prop := odActsRow.holds Try.pinned (OpenSpec.ofChange odActsWrong)

/-- 'tramwaylaw13.PdomapSize': WHATEVER THE INPUT: true; the input reads as it did. -/
def pdomapSizeSpec : ChangeSpec := { name := "pdomapSize", fn := fun _ => fun
  | [d1, d2] => { results := [.lit (.bool true)], args := [d1, d2] }
  | _ => none }
def pdomapSizeRow : OpenClaim := { program := "ytemjdmgfilbfaaa", sum := "93e0e45664299c07b0098f0ca560ff2037a5a21df7d909f96dc4215339412439", func := "tramway/tramwaylaw13.PdomapSize", spec := "pdomapSize", inPlace := ["internal/bytealg.abigen_runtime_cmpstring"], unfollowed := true, recurses := true, plainKeys := false, apart := false }
def PdomapSizeSaid : Prop := pdomapSizeRow.holds Try.pinned (OpenSpec.ofChange pdomapSizeSpec)

/-- ITS FALSE NEIGHBOUR: 'it returns false'. Refute it at one input. -/
def pdomapSizeWrong : ChangeSpec := { name := "pdomapSize", fn := fun _ => fun
  | [d1, d2] => { results := [.lit (.bool false)], args := [d1, d2] }
  | _ => none }
def PdomapSizeWrongFalsely : Prop := pdomapSizeRow.holds Try.pinned (OpenSpec.ofChange pdomapSizeWrong)

/-- 'tramwaylaw13.PdomapJoined': WHATEVER THE INPUT: true; the input reads as it did. -/
def pdomapJoinedSpec : ChangeSpec := { name := "pdomapJoined", fn := fun _ => fun
  | [d1, d2, d3] => { results := [.lit (.bool true)], args := [d1, d2, d3] }
  | _ => none }
def pdomapJoinedRow : OpenClaim := { program := "ytemjdmgfilbfaaa", sum := "93e0e45664299c07b0098f0ca560ff2037a5a21df7d909f96dc4215339412439", func := "tramway/tramwaylaw13.PdomapJoined", spec := "pdomapJoined", inPlace := ["internal/bytealg.abigen_runtime_cmpstring"], unfollowed := true, recurses := true, plainKeys := false, apart := false }
def PdomapJoinedSaid : Prop := pdomapJoinedRow.holds Try.pinned (OpenSpec.ofChange pdomapJoinedSpec)

/-- ITS FALSE NEIGHBOUR: 'it returns false'. Refute it at one input. -/
def pdomapJoinedWrong : ChangeSpec := { name := "pdomapJoined", fn := fun _ => fun
  | [d1, d2, d3] => { results := [.lit (.bool false)], args := [d1, d2, d3] }
  | _ => none }
def PdomapJoinedWrongFalsely : Prop := pdomapJoinedRow.holds Try.pinned (OpenSpec.ofChange pdomapJoinedWrong)

/-- 'tramwaylaw13.PdomapBack': WHATEVER THE INPUT: true; the input reads as it did. -/
def pdomapBackSpec : ChangeSpec := { name := "pdomapBack", fn := fun _ => fun
  | [d1, d2, d3] => { results := [.lit (.bool true)], args := [d1, d2, d3] }
  | _ => none }
def pdomapBackRow : OpenClaim := { program := "ytemjdmgfilbfaaa", sum := "93e0e45664299c07b0098f0ca560ff2037a5a21df7d909f96dc4215339412439", func := "tramway/tramwaylaw13.PdomapBack", spec := "pdomapBack", inPlace := ["internal/bytealg.abigen_runtime_cmpstring"], unfollowed := true, recurses := true, plainKeys := false, apart := false }
def PdomapBackSaid : Prop := pdomapBackRow.holds Try.pinned (OpenSpec.ofChange pdomapBackSpec)

/-- ITS FALSE NEIGHBOUR: 'it returns false'. Refute it at one input. -/
def pdomapBackWrong : ChangeSpec := { name := "pdomapBack", fn := fun _ => fun
  | [d1, d2, d3] => { results := [.lit (.bool false)], args := [d1, d2, d3] }
  | _ => none }
def PdomapBackWrongFalsely : Prop := pdomapBackRow.holds Try.pinned (OpenSpec.ofChange pdomapBackWrong)

/-- 'tramwaylaw21.DcfJoin': WHATEVER THE INPUT: true; the input reads as it did. -/
def dcfJoinSpec : ChangeSpec := { name := "dcfJoin", fn := fun _ => fun
  | [d1, d2, d3] => { results := [.lit (.bool true)], args := [d1, d2, d3] }
  | _ => none }
def dcfJoinRow : OpenClaim := { program := "ytemjdmgfilbfaaa", sum := "93e0e45664299c07b0098f0ca560ff2037a5a21df7d909f96dc4215339412439", func := "tramway/tramwaylaw21.DcfJoin", spec := "dcfJoin", inPlace := ["internal/bytealg.abigen_runtime_cmpstring"], unfollowed := true, recurses := true, plainKeys := false, apart := false }
def DcfJoinSaid : Prop := dcfJoinRow.holds Try.pinned (OpenSpec.ofChange dcfJoinSpec)

/-- ITS FALSE NEIGHBOUR: 'it returns false'. Refute it at one input. -/
def dcfJoinWrong : ChangeSpec := { name := "dcfJoin", fn := fun _ => fun
  | [d1, d2, d3] => { results := [.lit (.bool false)], args := [d1, d2, d3] }
  | _ => none }
def DcfJoinWrongFalsely : Prop := dcfJoinRow.holds Try.pinned (OpenSpec.ofChange dcfJoinWrong)

/- THE SECOND FORM. 'bulk': how many values and letters a reading holds, each counted each time it is reached (what is shared counts as often as it is met; a slice's spare places count too). A statement '..UptoSaid' is the law's where the arguments, and the package variables that the reading takes, are together of bulk at most 1048576: NARROWER than '..Said'. Prove '..Said' where nothing that the law and all that it calls make is longer than what came in: it says more and counts as full. Else prove '..UptoSaid'. A law counts once. -/
mutual
def uptoBulk {H : Type} : DataW H → Nat
  | .lit (.string bytes) => bytes.length + 1
  | .lit _ => 1
  | .nil => 1
  | .ptr d => uptoBulk d + 1
  | .slice elems spare => uptoBulkAll elems + uptoBulkAll spare + 1
  | .agg parts => uptoBulkAll parts + 1
  | .iface _ d => uptoBulk d + 1
  | .map entries => uptoBulkEntries entries + 1
  | .held _ => 1
def uptoBulkAll {H : Type} : List (DataW H) → Nat
  | [] => 0
  | d :: r => uptoBulk d + uptoBulkAll r
def uptoBulkEntries {H : Type} : List (Lit × DataW H) → Nat
  | [] => 0
  | x :: r => uptoBulkEntry x + uptoBulkEntries r
def uptoBulkEntry {H : Type} : Lit × DataW H → Nat
  | (.string bytes, d) => bytes.length + uptoBulk d + 1
  | (_, d) => uptoBulk d + 1
 end
def uptoSmall : (H : Type) → List (DataW H) → Bool := fun _ ds => decide (uptoBulkAll ds ≤ 1048576)
def OpenSpec.upto (s : _root_.Go.ChangeSpec) : _root_.Go.OpenSpec := { _root_.Go.OpenSpec.ofChange s with cond := some uptoSmall }

/-- 'tramwaylaw08.OdLimits', WHERE WHAT IT READS IS OF BULK AT MOST 1048576: true; the input reads as it did. -/
def odLimitsUptoRow : OpenClaim := { program := "ytemjdmgfilbfaaa", sum := "93e0e45664299c07b0098f0ca560ff2037a5a21df7d909f96dc4215339412439", func := "tramway/tramwaylaw08.OdLimits", spec := "odLimits", inPlace := ["internal/bytealg.abigen_runtime_cmpstring"], unfollowed := true, recurses := true, plainKeys := false, apart := false, narrowed := true }
def OdLimitsUptoSaid : Prop := odLimitsUptoRow.holds Try.pinned (OpenSpec.upto odLimitsSpec)

/-- 'tramwaylaw08.OdOrder', WHERE WHAT IT READS IS OF BULK AT MOST 1048576: true; the input reads as it did. -/
def odOrderUptoRow : OpenClaim := { program := "ytemjdmgfilbfaaa", sum := "93e0e45664299c07b0098f0ca560ff2037a5a21df7d909f96dc4215339412439", func := "tramway/tramwaylaw08.OdOrder", spec := "odOrder", inPlace := ["internal/bytealg.abigen_runtime_cmpstring"], unfollowed := true, recurses := true, plainKeys := false, apart := false, narrowed := true }
def OdOrderUptoSaid : Prop := odOrderUptoRow.holds Try.pinned (OpenSpec.upto odOrderSpec)

/-- 'tramwaylaw08.OdApart', WHERE WHAT IT READS IS OF BULK AT MOST 1048576: true; the input reads as it did. -/
def odApartUptoRow : OpenClaim := { program := "ytemjdmgfilbfaaa", sum := "93e0e45664299c07b0098f0ca560ff2037a5a21df7d909f96dc4215339412439", func := "tramway/tramwaylaw08.OdApart", spec := "odApart", inPlace := ["internal/bytealg.abigen_runtime_cmpstring"], unfollowed := true, recurses := true, plainKeys := false, apart := false, narrowed := true }
def OdApartUptoSaid : Prop := odApartUptoRow.holds Try.pinned (OpenSpec.upto odApartSpec)

/-- 'tramwaylaw08.OdKept', WHERE WHAT IT READS IS OF BULK AT MOST 1048576: true; the input reads as it did. -/
def odKeptUptoRow : OpenClaim := { program := "ytemjdmgfilbfaaa", sum := "93e0e45664299c07b0098f0ca560ff2037a5a21df7d909f96dc4215339412439", func := "tramway/tramwaylaw08.OdKept", spec := "odKept", inPlace := ["internal/bytealg.abigen_runtime_cmpstring"], unfollowed := true, recurses := true, plainKeys := false, apart := false, narrowed := true }
def OdKeptUptoSaid : Prop := odKeptUptoRow.holds Try.pinned (OpenSpec.upto odKeptSpec)

/-- 'tramwaylaw08.OdActs', WHERE WHAT IT READS IS OF BULK AT MOST 1048576: true; the input reads as it did. -/
def odActsUptoRow : OpenClaim := { program := "ytemjdmgfilbfaaa", sum := "93e0e45664299c07b0098f0ca560ff2037a5a21df7d909f96dc4215339412439", func := "tramway/tramwaylaw08.OdActs", spec := "odActs", inPlace := ["internal/bytealg.abigen_runtime_cmpstring"], unfollowed := true, recurses := true, plainKeys := false, apart := false, narrowed := true }
def OdActsUptoSaid : Prop := odActsUptoRow.holds Try.pinned (OpenSpec.upto odActsSpec)

/-- 'tramwaylaw13.PdomapSize', WHERE WHAT IT READS IS OF BULK AT MOST 1048576: true; the input reads as it did. -/
def pdomapSizeUptoRow : OpenClaim := { program := "ytemjdmgfilbfaaa", sum := "93e0e45664299c07b0098f0ca560ff2037a5a21df7d909f96dc4215339412439", func := "tramway/tramwaylaw13.PdomapSize", spec := "pdomapSize", inPlace := ["internal/bytealg.abigen_runtime_cmpstring"], unfollowed := true, recurses := true, plainKeys := false, apart := false, narrowed := true }
def PdomapSizeUptoSaid : Prop := pdomapSizeUptoRow.holds Try.pinned (OpenSpec.upto pdomapSizeSpec)

/-- 'tramwaylaw13.PdomapJoined', WHERE WHAT IT READS IS OF BULK AT MOST 1048576: true; the input reads as it did. -/
def pdomapJoinedUptoRow : OpenClaim := { program := "ytemjdmgfilbfaaa", sum := "93e0e45664299c07b0098f0ca560ff2037a5a21df7d909f96dc4215339412439", func := "tramway/tramwaylaw13.PdomapJoined", spec := "pdomapJoined", inPlace := ["internal/bytealg.abigen_runtime_cmpstring"], unfollowed := true, recurses := true, plainKeys := false, apart := false, narrowed := true }
def PdomapJoinedUptoSaid : Prop := pdomapJoinedUptoRow.holds Try.pinned (OpenSpec.upto pdomapJoinedSpec)

/-- 'tramwaylaw13.PdomapBack', WHERE WHAT IT READS IS OF BULK AT MOST 1048576: true; the input reads as it did. -/
def pdomapBackUptoRow : OpenClaim := { program := "ytemjdmgfilbfaaa", sum := "93e0e45664299c07b0098f0ca560ff2037a5a21df7d909f96dc4215339412439", func := "tramway/tramwaylaw13.PdomapBack", spec := "pdomapBack", inPlace := ["internal/bytealg.abigen_runtime_cmpstring"], unfollowed := true, recurses := true, plainKeys := false, apart := false, narrowed := true }
def PdomapBackUptoSaid : Prop := pdomapBackUptoRow.holds Try.pinned (OpenSpec.upto pdomapBackSpec)

/-- 'tramwaylaw21.DcfJoin', WHERE WHAT IT READS IS OF BULK AT MOST 1048576: true; the input reads as it did. -/
def dcfJoinUptoRow : OpenClaim := { program := "ytemjdmgfilbfaaa", sum := "93e0e45664299c07b0098f0ca560ff2037a5a21df7d909f96dc4215339412439", func := "tramway/tramwaylaw21.DcfJoin", spec := "dcfJoin", inPlace := ["internal/bytealg.abigen_runtime_cmpstring"], unfollowed := true, recurses := true, plainKeys := false, apart := false, narrowed := true }
def DcfJoinUptoSaid : Prop := dcfJoinUptoRow.holds Try.pinned (OpenSpec.upto dcfJoinSpec)

end Rows
end Go.Proofs.Ytemjdmgfilbfaaa
