/-
  A call of the law's, and entries, as they lie in memory.
-/
import Derived.Test.YtemjdmgfilbfaaaOdX
namespace Go.Proofs.Ytemjdmgfilbfaaa
open Go.RowKit
set_option linter.unusedVariables false

/-- A call, as it lies in memory, and what its bytes are. -/
structure ActO where
  kind : Int
  idx : Int
  sub : Int
  bv : Value
  bs : List UInt8
  v : Va
  n : Int
def encO (a : ActO) : List Value := [.int .i64 a.kind, .int .u16 a.idx, .int .u8 a.sub, a.bv, .int .i64 a.v.ty, .int .u64 a.v.n, .string (strB2 a.v.b), .int .u16 a.n]
theorem encO_len (a : ActO) : (encO a).length = 8 := rfl
def ActO.good (W : World) (a : ActO) : Prop := 0 ≤ a.idx ∧ a.idx ≤ 65535 ∧ 0 ≤ a.sub ∧ a.sub ≤ 255 ∧ BytesAt W a.bv a.bs ∧ a.bs.length ≤ 140737488351232 ∧ a.v.ok ∧ 0 ≤ a.n ∧ a.n ≤ 65535

theorem el_Entry : El Try.prog 22 42 14 120 := El.of Try.underlying22 (z := .agg #[.int .u16 0, .int .u8 0, .int .i64 0, .bool false, .bool false, .int .i64 0, .int .u64 0, .string ⟨#[]⟩, .int .i64 0, .int .u64 0, .string ⟨#[]⟩, .int .i64 0, .int .u64 0, .string ⟨#[]⟩]) (by kernel_rfl) rfl (by decide)
theorem oneE (xs : List En) : ∀ u ∈ cellsOf cellsE xs, u.oneCell' = true := fun u hu => by
  unfold cellsOf at hu
  obtain ⟨x, _, hx⟩ := List.mem_flatMap.1 hu
  simp only [cellsE, List.mem_cons, List.not_mem_nil, or_false] at hx
  rcases hx with rfl | rfl | rfl | rfl | rfl | rfl | rfl | rfl | rfl | rfl | rfl | rfl | rfl | rfl <;> rfl
theorem news_entries {W : World} {v : Value} {xs : List En} (h : SlAt cellsE 14 W v xs) : ∃ A cap, v = .slice A xs.length cap ∧ xs.length ≤ cap ∧ cap ≤ maxLen ∧ (0 < xs.length → NewsOf W A (cellsOf cellsE xs)) ∧ (cellsOf cellsE xs).length = xs.length * 14 := by
  have h' := h
  obtain ⟨A, cap, rfl, h1, h2, _⟩ := h
  obtain ⟨A', cap', e, hn⟩ := SlAt.cells cellsE_len (by decide) h'
  simp only [Value.slice.injEq] at e
  obtain ⟨rfl, _, rfl⟩ := e
  exact ⟨A, cap, rfl, h1, h2, hn, cellsOf_length cellsE_len xs⟩
end Go.Proofs.Ytemjdmgfilbfaaa
