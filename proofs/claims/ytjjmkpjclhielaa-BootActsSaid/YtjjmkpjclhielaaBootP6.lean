/-
  The document's Saw, whole.
-/
import Derived.Test.YtjjmkpjclhielaaBootP5
import Derived.Test.YtjjmkpjclhielaaBootW
namespace Go.Proofs.Ytjjmkpjclhielaa
open Go.RowKit
set_option linter.unusedVariables false

theorem rsaw_any (N d ib lb sb : Nat) (vl : Value) (xs : List Pla) (l : List Nd) (t : Int) (hh : Bool) (n : Int) (s : Sn) (w : World) (h : RAt N w d ib lb sb vl xs l t hh)
    (hlk : ∀ y ∈ l, 0 ≤ y.looked ∧ y.looked ≤ 1000000) (hit : ∀ x ∈ xs, x.1.its.length ≤ 9223372036854775807 ∧ ∃ A c, x.2 = .slice A x.1.its.length c) :
    Calls Try.prog 23 #[ptr d, .int .i64 n, valS s] w (RSawPost N d ib lb sb vl xs t (sawOf ⟨l, t, hh⟩ n s) w) := by
  cases hp : placeN l n with
  | none => exact rsaw_none N d ib lb sb vl xs l t hh n s w h hp
  | some k =>
    obtain ⟨y, hy, _⟩ := placeN_some hp
    by_cases hs : y.is ≠ 0 ∨ hh = true
    · exact rsaw_shut N d ib lb sb vl xs l t hh n s w h k y hp hy hs
    · obtain rfl : hh = false := by
        cases hh with
        | false => rfl
        | true => exact absurd (.inr rfl) hs
      have h0 : y.is = 0 := Classical.byContradiction fun e => hs (.inl e)
      exact rsaw_open N d ib lb sb vl xs l t n s w h k y hp hy h0 (hlk y (List.mem_of_getElem? hy)) hit
end Go.Proofs.Ytjjmkpjclhielaa
