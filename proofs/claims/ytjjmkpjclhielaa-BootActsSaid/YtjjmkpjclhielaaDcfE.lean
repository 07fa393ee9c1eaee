/-
  Items written: low32, Encode.
-/
import Derived.Test.YtjjmkpjclhielaaItB
namespace Go.Proofs.Ytjjmkpjclhielaa
open Go.RowKit
set_option linter.unusedVariables false

set_option maxHeartbeats 1000000 in
theorem low32_any (n : Int) (w : World) (h0 : 0 ≤ n) (h1 : n ≤ 140737488351232) :
    Calls Try.prog 58 #[.int .i64 n] w fun e w' => e = .returned (.slice (some ⟨w.heap.size, 0, none⟩) 4 4) ∧ w' = w.alloc (.cells ((leOf n 4).map encB).toArray 5) := by
  go_enter Try.func58, Try.ntmps58
  go_wp2
  go_ret
  refine ⟨rfl, ?_⟩
  have e2 : n / 256 / 256 = n / 65536 := by omega
  have e3 : n / 65536 / 256 = n / 16777216 := by omega
  simp only [leOf, List.map_cons, List.map_nil, encB_mod, e2, e3]
end Go.Proofs.Ytjjmkpjclhielaa
