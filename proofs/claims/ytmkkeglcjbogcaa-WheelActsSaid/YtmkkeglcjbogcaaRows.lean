/-
  No cell of these rows narrows 'for every input' (looked for: loops, veiled, ifaces, maps, wideKeys, modest, calm, conditions, laid).
  DERIVED. THE GIVEN ROWS OF THIS SEAT. 11 by the template 'for every input the law returns true; each argument reads behind the call as it read before'; 0 by the template 'total and deterministic' (their statements: YtmkkeglcjbogcaaTotals.lean).
  GIVEN WITH THE SEED: the statements are not yours to turn. If you find one false, say at which input.
  Laid BY PROGRAM, IN A SANDBOX (cutbox-rows.mjs): the forced cells as the released guide's own fill.sh prints them over the translation 07a6cfbb54c55e7b… (all of the seat's roots in one cut). By AI agents, Wed Nov 11 2026. No macro, syntax, notation, axiom, sorry.
-/
import Derived.Test.YtmkkeglcjbogcaaChecked
import GoSem.Claim
import GoSem.ClaimJoined
import GoSem.ClaimMapViews
import Derived.JoinedTies
import Derived.KernelRfl
namespace Go.Proofs.Ytmkkeglcjbogcaa
/- THE CELL 'sum', in the pinned program and in every row, IS THE sha256 OF THE DUMP (.gsa) THAT YtmkkeglcjbogcaaProg.lean LOADS. Nothing in Lean hashes anything: it is a label: what it is worth is what the hold of that sum in a sandbox is worth. -/
noncomputable def Try.pinned : Pinned := { name := "ytmkkeglcjbogcaa", sum := "07a6cfbb54c55e7bf7930fff084aba7d4bd3a1a2fab256eb36e733826548ff64", checked := Try.checked }
namespace Rows
def none {H : Type} : Left H := { results := [], args := [] }

/-- 'tramwaylaw21.DcfDecodes': WHATEVER THE INPUT: true; the input reads as it did. -/
def dcfDecodesSpec : ChangeSpec := { name := "dcfDecodes", fn := fun _ => fun
  | [d] => { results := [.lit (.bool true)], args := [d] }
  | _ => none }
def dcfDecodesRow : OpenClaim := { program := "ytmkkeglcjbogcaa", sum := "07a6cfbb54c55e7bf7930fff084aba7d4bd3a1a2fab256eb36e733826548ff64", func := "tramway/tramwaylaw21.DcfDecodes", spec := "dcfDecodes", unfollowed := true, recurses := true, plainKeys := false, apart := false }
def DcfDecodesSaid : Prop := dcfDecodesRow.holds Try.pinned (OpenSpec.ofChange dcfDecodesSpec)

/-- ITS FALSE NEIGHBOUR: 'it returns false'. Refute it at one input. -/
def dcfDecodesWrong : ChangeSpec := { name := "dcfDecodes", fn := fun _ => fun
  | [d] => { results := [.lit (.bool false)], args := [d] }
  | _ => none }
def DcfDecodesWrongFalsely : Prop := dcfDecodesRow.holds Try.pinned (OpenSpec.ofChange dcfDecodesWrong)

/-- 'tramwaylaw18.BeatInTime': WHATEVER THE INPUT: true; the input reads as it did. -/
def beatInTimeSpec : ChangeSpec := { name := "beatInTime", fn := fun _ => fun
  | [d1, d2] => { results := [.lit (.bool true)], args := [d1, d2] }
  | _ => none }
def beatInTimeRow : OpenClaim := { program := "ytmkkeglcjbogcaa", sum := "07a6cfbb54c55e7bf7930fff084aba7d4bd3a1a2fab256eb36e733826548ff64", func := "tramway/tramwaylaw18.BeatInTime", spec := "beatInTime", unfollowed := true, recurses := true, plainKeys := false, apart := false }
def BeatInTimeSaid : Prop := beatInTimeRow.holds Try.pinned (OpenSpec.ofChange beatInTimeSpec)

/-- ITS FALSE NEIGHBOUR: 'it returns false'. Refute it at one input. -/
def beatInTimeWrong : ChangeSpec := { name := "beatInTime", fn := fun _ => fun
  | [d1, d2] => { results := [.lit (.bool false)], args := [d1, d2] }
  | _ => none }
def BeatInTimeWrongFalsely : Prop := beatInTimeRow.holds Try.pinned (OpenSpec.ofChange beatInTimeWrong)

/-- 'tramwaylaw18.BeatApart': WHATEVER THE INPUT: true; the input reads as it did. -/
def beatApartSpec : ChangeSpec := { name := "beatApart", fn := fun _ => fun
  | [d1, d2, d3] => { results := [.lit (.bool true)], args := [d1, d2, d3] }
  | _ => none }
def beatApartRow : OpenClaim := { program := "ytmkkeglcjbogcaa", sum := "07a6cfbb54c55e7bf7930fff084aba7d4bd3a1a2fab256eb36e733826548ff64", func := "tramway/tramwaylaw18.BeatApart", spec := "beatApart", unfollowed := true, recurses := true, plainKeys := false, apart := false }
def BeatApartSaid : Prop := beatApartRow.holds Try.pinned (OpenSpec.ofChange beatApartSpec)

/-- ITS FALSE NEIGHBOUR: 'it returns false'. Refute it at one input. -/
def beatApartWrong : ChangeSpec := { name := "beatApart", fn := fun _ => fun
  | [d1, d2, d3] => { results := [.lit (.bool false)], args := [d1, d2, d3] }
  | _ => none }
def BeatApartWrongFalsely : Prop := beatApartRow.holds Try.pinned (OpenSpec.ofChange beatApartWrong)

/-- 'tramwaylaw18.BeatHearts': WHATEVER THE INPUT: true; the input reads as it did. -/
def beatHeartsSpec : ChangeSpec := { name := "beatHearts", fn := fun _ => fun
  | [d1, d2] => { results := [.lit (.bool true)], args := [d1, d2] }
  | _ => none }
def beatHeartsRow : OpenClaim := { program := "ytmkkeglcjbogcaa", sum := "07a6cfbb54c55e7bf7930fff084aba7d4bd3a1a2fab256eb36e733826548ff64", func := "tramway/tramwaylaw18.BeatHearts", spec := "beatHearts", unfollowed := true, recurses := true, plainKeys := false, apart := false }
def BeatHeartsSaid : Prop := beatHeartsRow.holds Try.pinned (OpenSpec.ofChange beatHeartsSpec)

/-- ITS FALSE NEIGHBOUR: 'it returns false'. Refute it at one input. -/
def beatHeartsWrong : ChangeSpec := { name := "beatHearts", fn := fun _ => fun
  | [d1, d2] => { results := [.lit (.bool false)], args := [d1, d2] }
  | _ => none }
def BeatHeartsWrongFalsely : Prop := beatHeartsRow.holds Try.pinned (OpenSpec.ofChange beatHeartsWrong)

/-- 'tramwaylaw21.DcfEncodes': WHATEVER THE INPUT: true; the input reads as it did. -/
def dcfEncodesSpec : ChangeSpec := { name := "dcfEncodes", fn := fun _ => fun
  | [d] => { results := [.lit (.bool true)], args := [d] }
  | _ => none }
def dcfEncodesRow : OpenClaim := { program := "ytmkkeglcjbogcaa", sum := "07a6cfbb54c55e7bf7930fff084aba7d4bd3a1a2fab256eb36e733826548ff64", func := "tramway/tramwaylaw21.DcfEncodes", spec := "dcfEncodes", unfollowed := true, recurses := true, plainKeys := false, apart := false }
def DcfEncodesSaid : Prop := dcfEncodesRow.holds Try.pinned (OpenSpec.ofChange dcfEncodesSpec)

/-- ITS FALSE NEIGHBOUR: 'it returns false'. Refute it at one input. -/
def dcfEncodesWrong : ChangeSpec := { name := "dcfEncodes", fn := fun _ => fun
  | [d] => { results := [.lit (.bool false)], args := [d] }
  | _ => none }
def DcfEncodesWrongFalsely : Prop := dcfEncodesRow.holds Try.pinned (OpenSpec.ofChange dcfEncodesWrong)

/-- 'tramwaylaw11.ClientExpires': WHATEVER THE INPUT: true; the input reads as it did. -/
def clientExpiresSpec : ChangeSpec := { name := "clientExpires", fn := fun _ => fun
  | [d1, d2] => { results := [.lit (.bool true)], args := [d1, d2] }
  | _ => none }
def clientExpiresRow : OpenClaim := { program := "ytmkkeglcjbogcaa", sum := "07a6cfbb54c55e7bf7930fff084aba7d4bd3a1a2fab256eb36e733826548ff64", func := "tramway/tramwaylaw11.ClientExpires", spec := "clientExpires", plainKeys := false, apart := false }
def ClientExpiresSaid : Prop := clientExpiresRow.holds Try.pinned (OpenSpec.ofChange clientExpiresSpec)

/-- ITS FALSE NEIGHBOUR: 'it returns false'. Refute it at one input. -/
def clientExpiresWrong : ChangeSpec := { name := "clientExpires", fn := fun _ => fun
  | [d1, d2] => { results := [.lit (.bool false)], args := [d1, d2] }
  | _ => none }
def ClientExpiresWrongFalsely : Prop := clientExpiresRow.holds Try.pinned (OpenSpec.ofChange clientExpiresWrong)

/-- 'tramwaylaw18.BeatBack': WHATEVER THE INPUT: true; the input reads as it did. -/
def beatBackSpec : ChangeSpec := { name := "beatBack", fn := fun _ => fun
  | [d1, d2, d3] => { results := [.lit (.bool true)], args := [d1, d2, d3] }
  | _ => none }
def beatBackRow : OpenClaim := { program := "ytmkkeglcjbogcaa", sum := "07a6cfbb54c55e7bf7930fff084aba7d4bd3a1a2fab256eb36e733826548ff64", func := "tramway/tramwaylaw18.BeatBack", spec := "beatBack", unfollowed := true, recurses := true, plainKeys := false, apart := false }
def BeatBackSaid : Prop := beatBackRow.holds Try.pinned (OpenSpec.ofChange beatBackSpec)

/-- ITS FALSE NEIGHBOUR: 'it returns false'. Refute it at one input. -/
def beatBackWrong : ChangeSpec := { name := "beatBack", fn := fun _ => fun
  | [d1, d2, d3] => { results := [.lit (.bool false)], args := [d1, d2, d3] }
  | _ => none }
def BeatBackWrongFalsely : Prop := beatBackRow.holds Try.pinned (OpenSpec.ofChange beatBackWrong)

/-- 'tramwaylaw18.BeatWatches': WHATEVER THE INPUT: true; the input reads as it did. -/
def beatWatchesSpec : ChangeSpec := { name := "beatWatches", fn := fun _ => fun
  | [d1, d2] => { results := [.lit (.bool true)], args := [d1, d2] }
  | _ => none }
def beatWatchesRow : OpenClaim := { program := "ytmkkeglcjbogcaa", sum := "07a6cfbb54c55e7bf7930fff084aba7d4bd3a1a2fab256eb36e733826548ff64", func := "tramway/tramwaylaw18.BeatWatches", spec := "beatWatches", unfollowed := true, recurses := true, plainKeys := false, apart := false }
def BeatWatchesSaid : Prop := beatWatchesRow.holds Try.pinned (OpenSpec.ofChange beatWatchesSpec)

/-- ITS FALSE NEIGHBOUR: 'it returns false'. Refute it at one input. -/
def beatWatchesWrong : ChangeSpec := { name := "beatWatches", fn := fun _ => fun
  | [d1, d2] => { results := [.lit (.bool false)], args := [d1, d2] }
  | _ => none }
def BeatWatchesWrongFalsely : Prop := beatWatchesRow.holds Try.pinned (OpenSpec.ofChange beatWatchesWrong)

/-- 'tramwaylaw06.WheelSlots': WHATEVER THE INPUT: true; the input reads as it did. -/
def wheelSlotsSpec : ChangeSpec := { name := "wheelSlots", fn := fun _ => fun
  | [d1, d2, d3] => { results := [.lit (.bool true)], args := [d1, d2, d3] }
  | _ => none }
def wheelSlotsRow : OpenClaim := { program := "ytmkkeglcjbogcaa", sum := "07a6cfbb54c55e7bf7930fff084aba7d4bd3a1a2fab256eb36e733826548ff64", func := "tramway/tramwaylaw06.WheelSlots", spec := "wheelSlots", unfollowed := true, recurses := true, plainKeys := false, apart := false }
def WheelSlotsSaid : Prop := wheelSlotsRow.holds Try.pinned (OpenSpec.ofChange wheelSlotsSpec)

/-- ITS FALSE NEIGHBOUR: 'it returns false'. Refute it at one input. -/
def wheelSlotsWrong : ChangeSpec := { name := "wheelSlots", fn := fun _ => fun
  | [d1, d2, d3] => { results := [.lit (.bool false)], args := [d1, d2, d3] }
  | _ => none }
def WheelSlotsWrongFalsely : Prop := wheelSlotsRow.holds Try.pinned (OpenSpec.ofChange wheelSlotsWrong)

/-- 'tramwaylaw06.WheelEvery': WHATEVER THE INPUT: true; the input reads as it did. -/
def wheelEverySpec : ChangeSpec := { name := "wheelEvery", fn := fun _ => fun
  | [d1, d2, d3] => { results := [.lit (.bool true)], args := [d1, d2, d3] }
  | _ => none }
def wheelEveryRow : OpenClaim := { program := "ytmkkeglcjbogcaa", sum := "07a6cfbb54c55e7bf7930fff084aba7d4bd3a1a2fab256eb36e733826548ff64", func := "tramway/tramwaylaw06.WheelEvery", spec := "wheelEvery", unfollowed := true, recurses := true, plainKeys := false, apart := false }
def WheelEverySaid : Prop := wheelEveryRow.holds Try.pinned (OpenSpec.ofChange wheelEverySpec)

/-- ITS FALSE NEIGHBOUR: 'it returns false'. Refute it at one input. -/
def wheelEveryWrong : ChangeSpec := { name := "wheelEvery", fn := fun _ => fun
  | [d1, d2, d3] => { results := [.lit (.bool false)], args := [d1, d2, d3] }
  | _ => none }
def WheelEveryWrongFalsely : Prop := wheelEveryRow.holds Try.pinned (OpenSpec.ofChange wheelEveryWrong)

/-- 'tramwaylaw06.WheelActs': WHATEVER THE INPUT: true; the input reads as it did. -/
def wheelActsSpec : ChangeSpec := { name := "wheelActs", fn := fun _ => fun
  | [d1, d2] => { results := [.lit (.bool true)], args := [d1, d2] }
  | _ => none }
def wheelActsRow : OpenClaim := { program := "ytmkkeglcjbogcaa", sum := "07a6cfbb54c55e7bf7930fff084aba7d4bd3a1a2fab256eb36e733826548ff64", func := "tramway/tramwaylaw06.WheelActs", spec := "wheelActs", unfollowed := true, recurses := true, plainKeys := false, apart := false }
def WheelActsSaid : Prop := wheelActsRow.holds Try.pinned (OpenSpec.ofChange wheelActsSpec)

/-- ITS FALSE NEIGHBOUR: 'it returns false'. Refute it at one input. -/
def wheelActsWrong : ChangeSpec := { name := "wheelActs", fn := fun _ => fun
  | [d1, d2] => { results := [.lit (.bool false)], args := [d1, d2] }
  | _ => none }
def WheelActsWrongFalsely : Prop := wheelActsRow.holds Try.pinned (OpenSpec.ofChange wheelActsWrong)

/- THE SECOND FORM. 'bulk': how many values and letters a reading holds, each counted each time it is reached (what is shared counts as often as it is met; a slice's spare places count too). A statement '..UptoSaid' is the law's where the arguments, and the package variables that the reading takes, are together of bulk at most 1048576: NARROWER than '..Said'. Prove '..Said' where nothing that the law and all that it calls make is longer than what came in: it says more and counts as full. Else prove '..UptoSaid'. A law counts once. -/
mutual
def uptoBulk {H : Type} : DataW H → Nat
  | .lit (.string bytes) => bytes.length + 1
  | .lit _ => 1
  | .nil => 1
  | .ptr d => uptoBulk d + 1
  | .slice elems spare => uptoBulkAll elems + uptoBulkAll spare + 1
  | .agg parts => uptoBulkAll parts + 1
  | .iface _ d => uptoBulk d + 1
  | .map entries => uptoBulkEntries entries + 1
  | .held _ => 1
def uptoBulkAll {H : Type} : List (DataW H) → Nat
  | [] => 0
  | d :: r => uptoBulk d + uptoBulkAll r
def uptoBulkEntries {H : Type} : List (Lit × DataW H) → Nat
  | [] => 0
  | x :: r => uptoBulkEntry x + uptoBulkEntries r
def uptoBulkEntry {H : Type} : Lit × DataW H → Nat
  | (.string bytes, d) => bytes.length + uptoBulk d + 1
  | (_, d) => uptoBulk d + 1
 end
def uptoSmall : (H : Type) → List (DataW H) → Bool := fun _ ds => decide (uptoBulkAll ds ≤ 1048576)
def OpenSpec.upto (s : _root_.Go.ChangeSpec) : _root_.Go.OpenSpec := { _root_.Go.OpenSpec.ofChange s with cond := some uptoSmall }

/-- 'tramwaylaw21.DcfDecodes', WHERE WHAT IT READS IS OF BULK AT MOST 1048576: true; the input reads as it did. -/
def dcfDecodesUptoRow : OpenClaim := { program := "ytmkkeglcjbogcaa", sum := "07a6cfbb54c55e7bf7930fff084aba7d4bd3a1a2fab256eb36e733826548ff64", func := "tramway/tramwaylaw21.DcfDecodes", spec := "dcfDecodes", unfollowed := true, recurses := true, plainKeys := false, apart := false, narrowed := true }
def DcfDecodesUptoSaid : Prop := dcfDecodesUptoRow.holds Try.pinned (OpenSpec.upto dcfDecodesSpec)

/-- 'tramwaylaw18.BeatInTime', WHERE WHAT IT READS IS OF BULK AT MOST 1048576: true; the input reads as it did. -/
def beatInTimeUptoRow : OpenClaim := { program := "ytmkkeglcjbogcaa", sum := "07a6cfbb54c55e7bf7930fff084aba7d4bd3a1a2fab256eb36e733826548ff64", func := "tramway/tramwaylaw18.BeatInTime", spec := "beatInTime", unfollowed := true, recurses := true, plainKeys := false, apart := false, narrowed := true }
def BeatInTimeUptoSaid : Prop := beatInTimeUptoRow.holds Try.pinned (OpenSpec.upto beatInTimeSpec)

/-- 'tramwaylaw18.BeatApart', WHERE WHAT IT READS IS OF BULK AT MOST 1048576: true; the input reads as it did. -/
def beatApartUptoRow : OpenClaim := { program := "ytmkkeglcjbogcaa", sum := "07a6cfbb54c55e7bf7930fff084aba7d4bd3a1a2fab256eb36e733826548ff64", func := "tramway/tramwaylaw18.BeatApart", spec := "beatApart", unfollowed := true, recurses := true, plainKeys := false, apart := false, narrowed := true }
def BeatApartUptoSaid : Prop := beatApartUptoRow.holds Try.pinned (OpenSpec.upto beatApartSpec)

/-- 'tramwaylaw18.BeatHearts', WHERE WHAT IT READS IS OF BULK AT MOST 1048576: true; the input reads as it did. -/
def beatHeartsUptoRow : OpenClaim := { program := "ytmkkeglcjbogcaa", sum := "07a6cfbb54c55e7bf7930fff084aba7d4bd3a1a2fab256eb36e733826548ff64", func := "tramway/tramwaylaw18.BeatHearts", spec := "beatHearts", unfollowed := true, recurses := true, plainKeys := false, apart := false, narrowed := true }
def BeatHeartsUptoSaid : Prop := beatHeartsUptoRow.holds Try.pinned (OpenSpec.upto beatHeartsSpec)

/-- 'tramwaylaw21.DcfEncodes', WHERE WHAT IT READS IS OF BULK AT MOST 1048576: true; the input reads as it did. -/
def dcfEncodesUptoRow : OpenClaim := { program := "ytmkkeglcjbogcaa", sum := "07a6cfbb54c55e7bf7930fff084aba7d4bd3a1a2fab256eb36e733826548ff64", func := "tramway/tramwaylaw21.DcfEncodes", spec := "dcfEncodes", unfollowed := true, recurses := true, plainKeys := false, apart := false, narrowed := true }
def DcfEncodesUptoSaid : Prop := dcfEncodesUptoRow.holds Try.pinned (OpenSpec.upto dcfEncodesSpec)

/-- 'tramwaylaw11.ClientExpires', WHERE WHAT IT READS IS OF BULK AT MOST 1048576: true; the input reads as it did. -/
def clientExpiresUptoRow : OpenClaim := { program := "ytmkkeglcjbogcaa", sum := "07a6cfbb54c55e7bf7930fff084aba7d4bd3a1a2fab256eb36e733826548ff64", func := "tramway/tramwaylaw11.ClientExpires", spec := "clientExpires", plainKeys := false, apart := false, narrowed := true }
def ClientExpiresUptoSaid : Prop := clientExpiresUptoRow.holds Try.pinned (OpenSpec.upto clientExpiresSpec)

/-- 'tramwaylaw18.BeatBack', WHERE WHAT IT READS IS OF BULK AT MOST 1048576: true; the input reads as it did. -/
def beatBackUptoRow : OpenClaim := { program := "ytmkkeglcjbogcaa", sum := "07a6cfbb54c55e7bf7930fff084aba7d4bd3a1a2fab256eb36e733826548ff64", func := "tramway/tramwaylaw18.BeatBack", spec := "beatBack", unfollowed := true, recurses := true, plainKeys := false, apart := false, narrowed := true }
def BeatBackUptoSaid : Prop := beatBackUptoRow.holds Try.pinned (OpenSpec.upto beatBackSpec)

/-- 'tramwaylaw18.BeatWatches', WHERE WHAT IT READS IS OF BULK AT MOST 1048576: true; the input reads as it did. -/
def beatWatchesUptoRow : OpenClaim := { program := "ytmkkeglcjbogcaa", sum := "07a6cfbb54c55e7bf7930fff084aba7d4bd3a1a2fab256eb36e733826548ff64", func := "tramway/tramwaylaw18.BeatWatches", spec := "beatWatches", unfollowed := true, recurses := true, plainKeys := false, apart := false, narrowed := true }
def BeatWatchesUptoSaid : Prop := beatWatchesUptoRow.holds Try.pinned (OpenSpec.upto beatWatchesSpec)

/-- 'tramwaylaw06.WheelSlots', WHERE WHAT IT READS IS OF BULK AT MOST 1048576: true; the input reads as it did. -/
def wheelSlotsUptoRow : OpenClaim := { program := "ytmkkeglcjbogcaa", sum := "07a6cfbb54c55e7bf7930fff084aba7d4bd3a1a2fab256eb36e733826548ff64", func := "tramway/tramwaylaw06.WheelSlots", spec := "wheelSlots", unfollowed := true, recurses := true, plainKeys := false, apart := false, narrowed := true }
def WheelSlotsUptoSaid : Prop := wheelSlotsUptoRow.holds Try.pinned (OpenSpec.upto wheelSlotsSpec)

/-- 'tramwaylaw06.WheelEvery', WHERE WHAT IT READS IS OF BULK AT MOST 1048576: true; the input reads as it did. -/
def wheelEveryUptoRow : OpenClaim := { program := "ytmkkeglcjbogcaa", sum := "07a6cfbb54c55e7bf7930fff084aba7d4bd3a1a2fab256eb36e733826548ff64", func := "tramway/tramwaylaw06.WheelEvery", spec := "wheelEvery", unfollowed := true, recurses := true, plainKeys := false, apart := false, narrowed := true }
def WheelEveryUptoSaid : Prop := wheelEveryUptoRow.holds Try.pinned (OpenSpec.upto wheelEverySpec)

/-- 'tramwaylaw06.WheelActs', WHERE WHAT IT READS IS OF BULK AT MOST 1048576: true; the input reads as it did. -/
def wheelActsUptoRow : OpenClaim := { program := "ytmkkeglcjbogcaa", sum := "07a6cfbb54c55e7bf7930fff084aba7d4bd3a1a2fab256eb36e733826548ff64", func := "tramway/tramwaylaw06.WheelActs", spec := "wheelActs", unfollowed := true, recurses := true, plainKeys := false, apart := false, narrowed := true }
def WheelActsUptoSaid : Prop := wheelActsUptoRow.holds Try.pinned (OpenSpec.upto wheelActsSpec)

end Rows
end Go.Proofs.Ytmkkeglcjbogcaa
