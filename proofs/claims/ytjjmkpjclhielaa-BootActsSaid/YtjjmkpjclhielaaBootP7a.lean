/-
  The rows that the document's New makes.
-/
import Derived.Test.YtjjmkpjclhielaaBootP6
namespace Go.Proofs.Ytjjmkpjclhielaa
open Go.RowKit
set_option linter.unusedVariables false
theorem info_int0 : (Try.prog.info? 3).map (fun i => (i.zero, i.size, i.bytes)) = some (some (.int .i64 0), 1, 8) := by kernel_rfl
theorem info_u80 : (Try.prog.info? 5).map (fun i => (i.zero, i.size, i.bytes)) = some (some (.int .u8 0), 1, 1) := by kernel_rfl
theorem made_rep (v : Value) (n : Nat) : madeCells #[v] n = (List.replicate n v).toArray := by
  apply Array.ext_getElem?
  intro j
  by_cases hj : j < n
  · simp [madeCells, hj, Nat.mod_one]
  · simp [madeCells, hj]
theorem make_int (n : Nat) (h : n ≤ 1000) (W : World) : Sem.run Try.prog (Instr.makeSlice 43 (.int .i64 n) (.int .i64 n)) W = .ok (.slice (some ⟨W.heap.size, 0, none⟩) n n) (W.alloc (.cells (List.replicate n (.int .i64 0)).toArray 3)) := by
  obtain ⟨i, hi, h0, h1, h2⟩ := info_parts info_int0
  have := run_make (P := Try.prog) W 43 3 i _ Try.underlying43 hi h0 .i64 .i64 n n (by omega) (Int.le_refl _) (by rw [h2]; omega) (by omega)
  rw [h1] at this
  simp only [Int.toNat_natCast, Nat.mul_one] at this
  rw [← made_rep]
  exact this
theorem make_u8s (n : Nat) (h : n ≤ 1000) (W : World) : Sem.run Try.prog (Instr.makeSlice 70 (.int .i64 n) (.int .i64 n)) W = .ok (.slice (some ⟨W.heap.size, 0, none⟩) n n) (W.alloc (.cells (List.replicate n (.int .u8 0)).toArray 5)) := by
  obtain ⟨i, hi, h0, h1, h2⟩ := info_parts info_u80
  have := run_make (P := Try.prog) W 70 5 i _ Try.underlying70 hi h0 .i64 .i64 n n (by omega) (Int.le_refl _) (by rw [h2]; omega) (by omega)
  rw [h1] at this
  simp only [Int.toNat_natCast, Nat.mul_one] at this
  rw [← made_rep]
  exact this
end Go.Proofs.Ytjjmkpjclhielaa
