/-
  Items written: low32, Encode.
-/
import Derived.Test.YtmkkeglcjbogcaaDcfS
import Derived.Test.YtmkkeglcjbogcaaDcfD
namespace Go.Proofs.Ytmkkeglcjbogcaa
open Go.RowKit
set_option linter.unusedVariables false

theorem leOf_length (n : Int) (k : Nat) : (leOf n k).length = k := by
  induction k generalizing n with
  | zero => rfl
  | succ k ih => simp [leOf, ih]
theorem encB_mod (n : Int) : encB (UInt8.ofNat (n % 256).toNat) = .int .u8 (n % 256) := by
  unfold encB
  have : (n % 256).toNat < 256 := by omega
  rw [UInt8.toNat_ofNat', Nat.mod_eq_of_lt this, Int.toNat_of_nonneg (by omega)]

set_option maxHeartbeats 1000000 in
theorem low32_any (n : Int) (w : World) (h0 : 0 ≤ n) (h1 : n ≤ 140737488351232) :
    Calls Try.prog 60 #[.int .i64 n] w fun e w' => e = .returned (.slice (some ⟨w.heap.size, 0, none⟩) 4 4) ∧ w' = w.alloc (.cells ((leOf n 4).map encB).toArray 5) := by
  go_enter Try.func60, Try.ntmps60
  go_wp2
  go_ret
  refine ⟨rfl, ?_⟩
  have e2 : n / 256 / 256 = n / 65536 := by omega
  have e3 : n / 65536 / 256 = n / 16777216 := by omega
  simp only [leOf, List.map_cons, List.map_nil, encB_mod, e2, e3]
end Go.Proofs.Ytmkkeglcjbogcaa
