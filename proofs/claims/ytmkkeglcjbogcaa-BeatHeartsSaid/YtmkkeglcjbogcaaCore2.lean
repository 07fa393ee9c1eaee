/-
  More small laws: slices of structs that came in; a slice of bytes copied.
-/
import Derived.Test.YtmkkeglcjbogcaaCore
namespace Go.Proofs.Ytmkkeglcjbogcaa
open Go.RowKit

/-- A slice of elements of sz cells that reads as xs. -/
def SlAt {α : Type} (enc : α → List Value) (sz : Nat) (W : World) (v : Value) (xs : List α) : Prop :=
  ∃ A cap, v = .slice A xs.length cap ∧ xs.length ≤ cap ∧ cap ≤ maxLen ∧ (0 < xs.length → ∃ g off, A = some ⟨g, off, none⟩ ∧ g < W.heap.size ∧
    ∀ i (h : i < xs.length) j, j < sz → W.cell? ⟨g, off + i * sz + j, none⟩ = (enc xs[i])[j]?)

end Go.Proofs.Ytmkkeglcjbogcaa
