/-
  No cell of these rows narrows 'for every input' (looked for: loops, veiled, ifaces, maps, wideKeys, modest, calm, conditions, laid).
  DERIVED. THE GIVEN ROWS OF THIS SEAT. 5 by the template 'for every input the law returns true; each argument reads behind the call as it read before'; 0 by the template 'total and deterministic' (their statements: YtjjmkpjclhielaaTotals.lean).
  GIVEN WITH THE SEED: the statements are not yours to turn. If you find one false, say at which input.
  Laid BY PROGRAM, IN A SANDBOX (cutbox-rows.mjs): the forced cells as the released guide's own fill.sh prints them over the translation 364b595bdb344c1f… (all of the seat's roots in one cut). By AI agents, Wed Nov 11 2026. No macro, syntax, notation, axiom, sorry.
-/
import Derived.Test.YtjjmkpjclhielaaChecked
import GoSem.Claim
import GoSem.ClaimJoined
import GoSem.ClaimMapViews
import Derived.JoinedTies
import Derived.KernelRfl
namespace Go.Proofs.Ytjjmkpjclhielaa
/- THE CELL 'sum', in the pinned program and in every row, IS THE sha256 OF THE DUMP (.gsa) THAT YtjjmkpjclhielaaProg.lean LOADS. Nothing in Lean hashes anything: it is a label: what it is worth is what the hold of that sum in a sandbox is worth. -/
noncomputable def Try.pinned : Pinned := { name := "ytjjmkpjclhielaa", sum := "364b595bdb344c1f65c27b259f2a46666a05f4eaf530591788970e660d57a6c3", checked := Try.checked }
namespace Rows
def none {H : Type} : Left H := { results := [], args := [] }

/-- 'tramwaylaw23.BootEnds': WHATEVER THE INPUT: true; the input reads as it did. -/
def bootEndsSpec : ChangeSpec := { name := "bootEnds", fn := fun _ => fun
  | [d1, d2, d3] => { results := [.lit (.bool true)], args := [d1, d2, d3] }
  | _ => none }
def bootEndsRow : OpenClaim := { program := "ytjjmkpjclhielaa", sum := "364b595bdb344c1f65c27b259f2a46666a05f4eaf530591788970e660d57a6c3", func := "tramway/tramwaylaw23.BootEnds", spec := "bootEnds", unfollowed := true, recurses := true, apart := false }
def BootEndsSaid : Prop := bootEndsRow.holds Try.pinned (OpenSpec.ofChange bootEndsSpec)

/-- ITS FALSE NEIGHBOUR: 'it returns false'. Refute it at one input. -/
def bootEndsWrong : ChangeSpec := { name := "bootEnds", fn := fun _ => fun
  | [d1, d2, d3] => { results := [.lit (.bool false)], args := [d1, d2, d3] }
  | _ => none }
def BootEndsWrongFalsely : Prop := bootEndsRow.holds Try.pinned (OpenSpec.ofChange bootEndsWrong)

/-- 'tramwaylaw23.BootJudges': WHATEVER THE INPUT: true; the input reads as it did. -/
def bootJudgesSpec : ChangeSpec := { name := "bootJudges", fn := fun _ => fun
  | [d1, d2] => { results := [.lit (.bool true)], args := [d1, d2] }
  | _ => none }
def bootJudgesRow : OpenClaim := { program := "ytjjmkpjclhielaa", sum := "364b595bdb344c1f65c27b259f2a46666a05f4eaf530591788970e660d57a6c3", func := "tramway/tramwaylaw23.BootJudges", spec := "bootJudges", unfollowed := true, recurses := true, apart := false }
def BootJudgesSaid : Prop := bootJudgesRow.holds Try.pinned (OpenSpec.ofChange bootJudgesSpec)

/-- ITS FALSE NEIGHBOUR: 'it returns false'. Refute it at one input. -/
def bootJudgesWrong : ChangeSpec := { name := "bootJudges", fn := fun _ => fun
  | [d1, d2] => { results := [.lit (.bool false)], args := [d1, d2] }
  | _ => none }
def BootJudgesWrongFalsely : Prop := bootJudgesRow.holds Try.pinned (OpenSpec.ofChange bootJudgesWrong)

/-- 'tramwaylaw23.BootMay': WHATEVER THE INPUT: true; the input reads as it did. -/
def bootMaySpec : ChangeSpec := { name := "bootMay", fn := fun _ => fun
  | [d] => { results := [.lit (.bool true)], args := [d] }
  | _ => none }
def bootMayRow : OpenClaim := { program := "ytjjmkpjclhielaa", sum := "364b595bdb344c1f65c27b259f2a46666a05f4eaf530591788970e660d57a6c3", func := "tramway/tramwaylaw23.BootMay", spec := "bootMay", unfollowed := true, recurses := true, apart := false }
def BootMaySaid : Prop := bootMayRow.holds Try.pinned (OpenSpec.ofChange bootMaySpec)

/-- ITS FALSE NEIGHBOUR: 'it returns false'. Refute it at one input. -/
def bootMayWrong : ChangeSpec := { name := "bootMay", fn := fun _ => fun
  | [d] => { results := [.lit (.bool false)], args := [d] }
  | _ => none }
def BootMayWrongFalsely : Prop := bootMayRow.holds Try.pinned (OpenSpec.ofChange bootMayWrong)

/-- 'tramwaylaw23.BootFair': WHATEVER THE INPUT: true; the input reads as it did. -/
def bootFairSpec : ChangeSpec := { name := "bootFair", fn := fun _ => fun
  | [d1, d2, d3] => { results := [.lit (.bool true)], args := [d1, d2, d3] }
  | _ => none }
def bootFairRow : OpenClaim := { program := "ytjjmkpjclhielaa", sum := "364b595bdb344c1f65c27b259f2a46666a05f4eaf530591788970e660d57a6c3", func := "tramway/tramwaylaw23.BootFair", spec := "bootFair", unfollowed := true, recurses := true, apart := false }
def BootFairSaid : Prop := bootFairRow.holds Try.pinned (OpenSpec.ofChange bootFairSpec)

/-- ITS FALSE NEIGHBOUR: 'it returns false'. Refute it at one input. -/
def bootFairWrong : ChangeSpec := { name := "bootFair", fn := fun _ => fun
  | [d1, d2, d3] => { results := [.lit (.bool false)], args := [d1, d2, d3] }
  | _ => none }
def BootFairWrongFalsely : Prop := bootFairRow.holds Try.pinned (OpenSpec.ofChange bootFairWrong)

/-- 'tramwaylaw23.BootActs': WHATEVER THE INPUT: true; the input reads as it did. -/
def bootActsSpec : ChangeSpec := { name := "bootActs", fn := fun _ => fun
  | [d1, d2, d3] => { results := [.lit (.bool true)], args := [d1, d2, d3] }
  | _ => none }
def bootActsRow : OpenClaim := { program := "ytjjmkpjclhielaa", sum := "364b595bdb344c1f65c27b259f2a46666a05f4eaf530591788970e660d57a6c3", func := "tramway/tramwaylaw23.BootActs", spec := "bootActs", unfollowed := true, recurses := true, apart := false }
def BootActsSaid : Prop := bootActsRow.holds Try.pinned (OpenSpec.ofChange bootActsSpec)

/-- ITS FALSE NEIGHBOUR: 'it returns false'. Refute it at one input. -/
def bootActsWrong : ChangeSpec := { name := "bootActs", fn := fun _ => fun
  | [d1, d2, d3] => { results := [.lit (.bool false)], args := [d1, d2, d3] }
  | _ => none }
def BootActsWrongFalsely : Prop := bootActsRow.holds Try.pinned (OpenSpec.ofChange bootActsWrong)

/- THE SECOND FORM. 'bulk': how many values and letters a reading holds, each counted each time it is reached (what is shared counts as often as it is met; a slice's spare places count too). A statement '..UptoSaid' is the law's where the arguments, and the package variables that the reading takes, are together of bulk at most 1048576: NARROWER than '..Said'. Prove '..Said' where nothing that the law and all that it calls make is longer than what came in: it says more and counts as full. Else prove '..UptoSaid'. A law counts once. -/
mutual
def uptoBulk {H : Type} : DataW H → Nat
  | .lit (.string bytes) => bytes.length + 1
  | .lit _ => 1
  | .nil => 1
  | .ptr d => uptoBulk d + 1
  | .slice elems spare => uptoBulkAll elems + uptoBulkAll spare + 1
  | .agg parts => uptoBulkAll parts + 1
  | .iface _ d => uptoBulk d + 1
  | .map entries => uptoBulkEntries entries + 1
  | .held _ => 1
def uptoBulkAll {H : Type} : List (DataW H) → Nat
  | [] => 0
  | d :: r => uptoBulk d + uptoBulkAll r
def uptoBulkEntries {H : Type} : List (Lit × DataW H) → Nat
  | [] => 0
  | x :: r => uptoBulkEntry x + uptoBulkEntries r
def uptoBulkEntry {H : Type} : Lit × DataW H → Nat
  | (.string bytes, d) => bytes.length + uptoBulk d + 1
  | (_, d) => uptoBulk d + 1
 end
def uptoSmall : (H : Type) → List (DataW H) → Bool := fun _ ds => decide (uptoBulkAll ds ≤ 1048576)
def OpenSpec.upto (s : _root_.Go.ChangeSpec) : _root_.Go.OpenSpec := { _root_.Go.OpenSpec.ofChange s with cond := some uptoSmall }

/-- 'tramwaylaw23.BootEnds', WHERE WHAT IT READS IS OF BULK AT MOST 1048576: true; the input reads as it did. -/
def bootEndsUptoRow : OpenClaim := { program := "ytjjmkpjclhielaa", sum := "364b595bdb344c1f65c27b259f2a46666a05f4eaf530591788970e660d57a6c3", func := "tramway/tramwaylaw23.BootEnds", spec := "bootEnds", unfollowed := true, recurses := true, apart := false, narrowed := true }
def BootEndsUptoSaid : Prop := bootEndsUptoRow.holds Try.pinned (OpenSpec.upto bootEndsSpec)

/-- 'tramwaylaw23.BootJudges', WHERE WHAT IT READS IS OF BULK AT MOST 1048576: true; the input reads as it did. -/
def bootJudgesUptoRow : OpenClaim := { program := "ytjjmkpjclhielaa", sum := "364b595bdb344c1f65c27b259f2a46666a05f4eaf530591788970e660d57a6c3", func := "tramway/tramwaylaw23.BootJudges", spec := "bootJudges", unfollowed := true, recurses := true, apart := false, narrowed := true }
def BootJudgesUptoSaid : Prop := bootJudgesUptoRow.holds Try.pinned (OpenSpec.upto bootJudgesSpec)

/-- 'tramwaylaw23.BootMay', WHERE WHAT IT READS IS OF BULK AT MOST 1048576: true; the input reads as it did. -/
def bootMayUptoRow : OpenClaim := { program := "ytjjmkpjclhielaa", sum := "364b595bdb344c1f65c27b259f2a46666a05f4eaf530591788970e660d57a6c3", func := "tramway/tramwaylaw23.BootMay", spec := "bootMay", unfollowed := true, recurses := true, apart := false, narrowed := true }
def BootMayUptoSaid : Prop := bootMayUptoRow.holds Try.pinned (OpenSpec.upto bootMaySpec)

/-- 'tramwaylaw23.BootFair', WHERE WHAT IT READS IS OF BULK AT MOST 1048576: true; the input reads as it did. -/
def bootFairUptoRow : OpenClaim := { program := "ytjjmkpjclhielaa", sum := "364b595bdb344c1f65c27b259f2a46666a05f4eaf530591788970e660d57a6c3", func := "tramway/tramwaylaw23.BootFair", spec := "bootFair", unfollowed := true, recurses := true, apart := false, narrowed := true }
def BootFairUptoSaid : Prop := bootFairUptoRow.holds Try.pinned (OpenSpec.upto bootFairSpec)

/-- 'tramwaylaw23.BootActs', WHERE WHAT IT READS IS OF BULK AT MOST 1048576: true; the input reads as it did. -/
def bootActsUptoRow : OpenClaim := { program := "ytjjmkpjclhielaa", sum := "364b595bdb344c1f65c27b259f2a46666a05f4eaf530591788970e660d57a6c3", func := "tramway/tramwaylaw23.BootActs", spec := "bootActs", unfollowed := true, recurses := true, apart := false, narrowed := true }
def BootActsUptoSaid : Prop := bootActsUptoRow.holds Try.pinned (OpenSpec.upto bootActsSpec)

end Rows
end Go.Proofs.Ytjjmkpjclhielaa
