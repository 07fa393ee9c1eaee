/-
  What the code knows of types: of, fits, check, plain.
-/
import Derived.Test.YtemjdmgfilbfaaaTyP
import Derived.Test.YtemjdmgfilbfaaaCore3
import Derived.Test.YtemjdmgfilbfaaaChecked
namespace Go.Proofs.Ytemjdmgfilbfaaa
open Go.RowKit
set_option linter.unusedVariables false

abbrev kindV (t : Int) : Value := .agg #[.int .i64 (sizeT t), .bool (sgnT t), .bool (isT t)]

set_option maxRecDepth 100000 in
set_option maxHeartbeats 1000000 in
theorem tyOf_any (t : Int) (w : World) : Calls Try.prog 89 #[.int .i64 t] w fun e w' => e = .returned (kindV t) ∧ Frm (fun _ => False) w w' := by
  rcases ty_cases t with rfl | rfl | rfl | rfl | rfl | rfl | rfl | rfl | rfl | rfl | rfl | rfl | h
  case inr.inr.inr.inr.inr.inr.inr.inr.inr.inr.inr.inr =>
    obtain ⟨e1, e2, e3⟩ := no_type h
    have E : Hid (kindV t = .agg #[.int .i64 0, .bool false, .bool false]) := by unfold Hid kindV; rw [e1, e2, e3]
    obtain ⟨h1, h2, h3, h4, h5, h6, h7, h8, h9, h10, h11, h12⟩ := h
    have b1 : (t == 1) = false := beq_eq_false_iff_ne.2 h1
    have b2 : (t == 2) = false := beq_eq_false_iff_ne.2 h2
    have b3 : (t == 3) = false := beq_eq_false_iff_ne.2 h3
    have b4 : (t == 4) = false := beq_eq_false_iff_ne.2 h4
    have b5 : (t == 5) = false := beq_eq_false_iff_ne.2 h5
    have b6 : (t == 6) = false := beq_eq_false_iff_ne.2 h6
    have b7 : (t == 7) = false := beq_eq_false_iff_ne.2 h7
    have b8 : (t == 9) = false := beq_eq_false_iff_ne.2 h8
    have b9 : (t == 10) = false := beq_eq_false_iff_ne.2 h9
    have b10 : (t == 15) = false := beq_eq_false_iff_ne.2 h10
    have b11 : (t == 21) = false := beq_eq_false_iff_ne.2 h11
    have b12 : (t == 27) = false := beq_eq_false_iff_ne.2 h12
    clear h1 h2 h3 h4 h5 h6 h7 h8 h9 h10 h11 h12 e1 e2 e3
    go_enter Try.func89, Try.ntmps89
    go_wp2_with fail
    refine bodyPost_ret (v := .agg #[.int .i64 0, .bool false, .bool false]) (by simp [results, Try.results89, go_sem]) rfl ⟨by rw [E.out], by (repeat' (first | (with_reducible exact Frm.refl _ _) | (with_reducible assumption) | (with_reducible refine Frm.alloc ?_ _) | (with_reducible refine Frm.drew ?_) | (with_reducible refine Frm.drewN ?_ _) | (with_reducible refine Frm.set1 ?_ _) | (with_reducible refine Frm.setCell ?_ ?_ _) | (exact fun h => absurd h (Nat.lt_irrefl _)) | (intro hlt; simp [World.size_alloc, One] at hlt ⊢; omega)))⟩
  all_goals
    go_enter Try.func89, Try.ntmps89
    go_wp2_with fail
    refine bodyPost_ret (v := kindV _) (by simp [results, Try.results89, go_sem, sizeT, sgnT, isT]) rfl ⟨rfl, by (repeat' (first | (with_reducible exact Frm.refl _ _) | (with_reducible assumption) | (with_reducible refine Frm.alloc ?_ _) | (with_reducible refine Frm.drew ?_) | (with_reducible refine Frm.drewN ?_ _) | (with_reducible refine Frm.set1 ?_ _) | (with_reducible refine Frm.setCell ?_ ?_ _) | (exact fun h => absurd h (Nat.lt_irrefl _)) | (intro hlt; simp [World.size_alloc, One] at hlt ⊢; omega)))⟩

theorem u64w (x : Int) : IntKind.u64.wrap x = x % 18446744073709551616 := by simp [IntKind.wrap, IntKind.bits, IntKind.signed]
theorem fits_eq {b c : Bool} (h : b = true ↔ c = true) : b = c := Bool.eq_iff_iff.2 h
theorem ret_bool {a b : Bool} (h : a = b) : Ending.returned (.bool a) = .returned (.bool b) := by rw [h]

set_option maxRecDepth 100000 in
set_option maxHeartbeats 1000000 in
theorem tyFits_any (t n : Int) (w : World) (h0 : 0 ≤ n) (h1 : n < two64) (hs : sizeT t ≠ 0) : Calls Try.prog 116 #[kindV t, .int .u64 n] w fun e w' => e = .returned (.bool (fitsN (sizeT t) (sgnT t) n)) ∧ Frm (fun _ => False) w w' := by
  have H1 := Lib.hid h1
  clear h1
  rcases ty_cases t with rfl | rfl | rfl | rfl | rfl | rfl | rfl | rfl | rfl | rfl | rfl | rfl | h
  case inr.inr.inr.inr.inr.inr.inr.inr.inr.inr.inr.inr => exact absurd (no_type h).1 hs
  case inr.inr.inr.inr.inr.inr.inr.inl => exact absurd rfl hs
  case inr.inr.inr.inr.inr.inr.inr.inr.inl => exact absurd rfl hs
  case inr.inr.inr.inr.inr.inr.inr.inr.inr.inl => exact absurd rfl hs
  all_goals
    unfold kindV
    simp only [sizeT, sgnT, isT]
    clear hs
    simp only [Int.reduceEq, or_true, true_or, or_false, false_or, if_true, if_false, Int.reduceBEq, Bool.or_true, Bool.or_false, Bool.true_or, Bool.false_or, Int.reduceBNe]
    go_enter Try.func116, Try.ntmps116
    go_wp2_with fail
    go_ret
    refine ⟨ret_bool (fits_eq ?_), by (repeat' (first | (with_reducible exact Frm.refl _ _) | (with_reducible assumption) | (with_reducible refine Frm.alloc ?_ _) | (with_reducible refine Frm.drew ?_) | (with_reducible refine Frm.drewN ?_ _) | (with_reducible refine Frm.set1 ?_ _) | (with_reducible refine Frm.setCell ?_ ?_ _) | (exact fun h => absurd h (Nat.lt_irrefl _)) | (intro hlt; simp [World.size_alloc, One] at hlt ⊢; omega)))⟩
    have h1 := H1.out
    unfold two64 at h1
    simp [fitsN, capN, two64, u64w, wrap64, beq_iff_eq]
    omega

def strB2 (b : List UInt8) : ByteArray := ⟨b.toArray⟩
def cellsV (v : Va) : List Value := [.int .i64 v.ty, .int .u64 v.n, .string (strB2 v.b)]
abbrev valV (v : Va) : Value := .agg #[.int .i64 v.ty, .int .u64 v.n, .string (strB2 v.b)]
theorem size_pos {t : Int} : decide (0 < sizeT t) = decide (sizeT t ≠ 0) := by
  rcases sizeT_vals t with h | h | h | h | h <;> rw [h] <;> decide
theorem ret_bool2 {a b c d : Value} (h : a = c) (k : b = d) : Ending.returned (.tuple #[a, b]) = .returned (.tuple #[c, d]) := by rw [h, k]

set_option maxRecDepth 100000 in
set_option maxHeartbeats 1000000 in
theorem tySize_any (t : Int) (w : World) : Calls Try.prog 92 #[.int .i64 t] w fun e w' => e = .returned (.tuple #[.int .i64 (sizeT t), .bool (decide (sizeT t ≠ 0))]) ∧ Frm (fun _ => False) w w' := by
  have H := Lib.hid (fun W => tyOf_any t W)
  have HS := Lib.hid (@size_pos t)
  unfold kindV at H
  generalize sizeT t = sz at *
  generalize sgnT t = sg at *
  generalize isT t = is at *
  go_enter Try.func92, Try.ntmps92
  go_wp2_with fail
  refine (H.out _).mono ?_
  rintro e w1 ⟨rfl, hF⟩
  have HF := Lib.hid (Frm.trans' (b := _) (by (repeat' (first | (with_reducible exact Frm.refl _ _) | (with_reducible assumption) | (with_reducible refine Frm.alloc ?_ _) | (with_reducible refine Frm.drew ?_) | (with_reducible refine Frm.drewN ?_ _) | (with_reducible refine Frm.set1 ?_ _) | (with_reducible refine Frm.setCell ?_ ?_ _) | (exact fun h => absurd h (Nat.lt_irrefl _)) | (intro hlt; simp [World.size_alloc, One] at hlt ⊢; omega)))) hF)
  clear hF
  go_wp2_with fail
  go_quiet (fail)
  go_wp2_with fail
  go_ret2
  exact ⟨ret_bool2 rfl (congrArg Value.bool HS.out), HF.out.trans' (by (repeat' (first | (with_reducible exact Frm.refl _ _) | (with_reducible assumption) | (with_reducible refine Frm.alloc ?_ _) | (with_reducible refine Frm.drew ?_) | (with_reducible refine Frm.drewN ?_ _) | (with_reducible refine Frm.set1 ?_ _) | (with_reducible refine Frm.setCell ?_ ?_ _) | (exact fun h => absurd h (Nat.lt_irrefl _)) | (intro hlt; simp [World.size_alloc, One] at hlt ⊢; omega))))⟩

theorem store3 {w : World} {g : Nat} {t : TypeId} {fz : Nat × Nat} {d0 d1 d2 c0 c1 c2 : Value} (h : w.heap[g]? = some (.cells #[d0, d1, d2] t fz)) : (((w.setCell ⟨g, 0, none⟩ c0).setCell ⟨g, 1, none⟩ c1).setCell ⟨g, 2, none⟩ c2).heap[g]? = some (.cells #[c0, c1, c2] t fz) :=
  heap_set_same (heap_set_same (heap_set_same h _) _) _
/-- One result, a value that lies in memory. -/
theorem ret_v1 {fn : Func} {p : Tmp} (h : fn.results = #[.cell p 36]) (tmps : Array Value) (w : World) (g : Nat) (x y z : Value)
    (hp : tmps.getD p undef = .pointer (some ⟨g, 0, none⟩)) (hg : w.heap[g]? = some (.cells #[x, y, z] 36 (0, 0))) :
    (results fn tmps).run Try.prog w = .ok (.agg #[x, y, z]) w := by
  have hp' : tmps[p]?.getD undef = .pointer (some ⟨g, 0, none⟩) := by simpa using hp
  simp [results, h, hp', asAddr, run_loadVar_row w g 36 36 #[x, y, z] (0, 0) _ hg Try.underlying36 rfl (by kernel_rfl)]
/-- Two results, the first a value that lies in memory. -/
theorem ret_v2 {fn : Func} {p u : Tmp} (h : fn.results = #[.cell p 36, .tmp u]) (tmps : Array Value) (w : World) (g : Nat) (x y z : Value)
    (hp : tmps.getD p undef = .pointer (some ⟨g, 0, none⟩)) (hg : w.heap[g]? = some (.cells #[x, y, z] 36 (0, 0))) :
    (results fn tmps).run Try.prog w = .ok (.tuple #[.agg #[x, y, z], tmps.getD u undef]) w := by
  have hp' : tmps[p]?.getD undef = .pointer (some ⟨g, 0, none⟩) := by simpa using hp
  simp [results, h, hp', asAddr, run_loadVar_row w g 36 36 #[x, y, z] (0, 0) _ hg Try.underlying36 rfl (by kernel_rfl)]

set_option maxRecDepth 100000 in
set_option maxHeartbeats 1000000 in
theorem tyPlain0_any (v : Va) (w : World) : Calls Try.prog 74 #[valV v] w fun e w' => e = .returned (valV (plainV v)) ∧ Frm (fun _ => False) w w' := by
  obtain ⟨t, n, b⟩ := v
  have H := Lib.hid (fun W => tyOf_any t W)
  have hp : plainV ⟨t, n, b⟩ = (if decide (0 < sizeT t) = true then ⟨t, n, []⟩ else if isT t = true then ⟨t, 0, b⟩ else ⟨t, n, b⟩) := by
    unfold plainV
    rw [size_pos]
    simp
  have HP := Lib.hid hp
  clear hp
  unfold kindV at H
  unfold valV
  simp only at *
  generalize plainV ⟨t, n, b⟩ = r at *
  generalize sizeT t = sz at *
  generalize sgnT t = sg at *
  generalize isT t = is at *
  go_enter Try.func74, Try.ntmps74
  go_wp2_with fail
  refine (H.out _).mono ?_
  rintro e w1 ⟨rfl, hF⟩
  have k1 := hF.heap (heap_alloc_old (heap_new w _)) (fun h => h)
  have k2 := hF.heap (heap_new_at (k := w.heap.size + 1) (by simp)) (fun h => h)
  have a0 : w1.cell? ⟨w.heap.size, 0, none⟩ = some (.int .i64 t) := cell_at k1
  have a1 : w1.cell? ⟨w.heap.size, 1, none⟩ = some (.int .u64 n) := cell_at k1
  have a2 : w1.cell? ⟨w.heap.size, 2, none⟩ = some (.string (strB2 b)) := cell_at k1
  have b0 : w1.cell? ⟨w.heap.size + 1, 0, none⟩ = some (.int .i64 0) := cell_at k2
  have b1 : w1.cell? ⟨w.heap.size + 1, 1, none⟩ = some (.int .u64 0) := cell_at k2
  have b2 : w1.cell? ⟨w.heap.size + 1, 2, none⟩ = some (.string ⟨#[]⟩) := cell_at k2
  have l1 := lt_of_block k1
  have l2 := lt_of_block k2
  have f1 := frees k1
  have f2 := frees k2
  have HF : Hid (Frm (fun _ => False) w w1) := Frm.trans' (b := _) (by (repeat' (first | (with_reducible exact Frm.refl _ _) | (with_reducible assumption) | (with_reducible refine Frm.alloc ?_ _) | (with_reducible refine Frm.drew ?_) | (with_reducible refine Frm.drewN ?_ _) | (with_reducible refine Frm.set1 ?_ _) | (with_reducible refine Frm.setCell ?_ ?_ _) | (exact fun h => absurd h (Nat.lt_irrefl _)) | (intro hlt; simp [World.size_alloc, One] at hlt ⊢; omega)))) hF
  have K1 := Lib.hid k1
  have K2 := Lib.hid k2
  clear hF k1 k2
  by_cases hz : 0 < sz
  · have E : Hid (r = ⟨t, n, []⟩) := by unfold Hid; rw [HP.out, if_pos (by simpa using hz)]
    clear HP
    go_wp2_with fail
    refine bodyPost_ret (ret_v1 Try.results74 _ _ _ _ _ _ rfl (heap_alloc_old (store3 (heap_set_other K2.out (by simp))))) rfl ⟨?_, ?_⟩
    · rw [E.out]; rfl
    · have hf : Frm (fun _ => False) w w1 := HF.out
      (repeat' (first | (with_reducible exact Frm.refl _ _) | (with_reducible assumption) | (with_reducible refine Frm.alloc ?_ _) | (with_reducible refine Frm.drew ?_) | (with_reducible refine Frm.drewN ?_ _) | (with_reducible refine Frm.set1 ?_ _) | (with_reducible refine Frm.setCell ?_ ?_ _) | (exact fun h => absurd h (Nat.lt_irrefl _)) | (intro hlt; simp [World.size_alloc, One] at hlt ⊢; omega)))
  · have hz' : sz ≤ 0 := by omega
    cases is with
    | true =>
      have E : Hid (r = ⟨t, 0, b⟩) := by unfold Hid; rw [HP.out, if_neg (by simpa using hz)]; rfl
      clear HP
      go_wp2_with fail
      refine bodyPost_ret (ret_v1 Try.results74 _ _ _ _ _ _ rfl (heap_alloc_old (store3 (heap_set_other K2.out (by simp))))) rfl ⟨?_, ?_⟩
      · rw [E.out]
      · have hf : Frm (fun _ => False) w w1 := HF.out
        (repeat' (first | (with_reducible exact Frm.refl _ _) | (with_reducible assumption) | (with_reducible refine Frm.alloc ?_ _) | (with_reducible refine Frm.drew ?_) | (with_reducible refine Frm.drewN ?_ _) | (with_reducible refine Frm.set1 ?_ _) | (with_reducible refine Frm.setCell ?_ ?_ _) | (exact fun h => absurd h (Nat.lt_irrefl _)) | (intro hlt; simp [World.size_alloc, One] at hlt ⊢; omega)))
    | false =>
      have E : Hid (r = ⟨t, n, b⟩) := by unfold Hid; rw [HP.out, if_neg (by simpa using hz)]; rfl
      clear HP
      go_wp2_with fail
      refine bodyPost_ret (ret_v1 Try.results74 _ _ _ _ _ _ rfl (heap_alloc_old (store3 K2.out))) rfl ⟨?_, ?_⟩
      · rw [E.out]
      · have hf : Frm (fun _ => False) w w1 := HF.out
        (repeat' (first | (with_reducible exact Frm.refl _ _) | (with_reducible assumption) | (with_reducible refine Frm.alloc ?_ _) | (with_reducible refine Frm.drew ?_) | (with_reducible refine Frm.drewN ?_ _) | (with_reducible refine Frm.set1 ?_ _) | (with_reducible refine Frm.setCell ?_ ?_ _) | (exact fun h => absurd h (Nat.lt_irrefl _)) | (intro hlt; simp [World.size_alloc, One] at hlt ⊢; omega)))

set_option maxHeartbeats 1000000 in
theorem tyPlain_any (v : Va) (w : World) : Calls Try.prog 37 #[valV v] w fun e w' => e = .returned (valV (plainV v)) ∧ Frm (fun _ => False) w w' := by
  have H := Lib.hid (fun W => tyPlain0_any v W)
  unfold valV at *
  generalize plainV v = r at *
  go_enter Try.func37, Try.ntmps37
  go_wp2_with fail
  refine (H.out _).mono ?_
  rintro e w1 ⟨rfl, hF⟩
  have k2 := hF.heap (heap_new_at (k := w.heap.size + 1) (by simp)) (fun h => h)
  have b0 : w1.cell? ⟨w.heap.size + 1, 0, none⟩ = some (.int .i64 0) := cell_at k2
  have b1 : w1.cell? ⟨w.heap.size + 1, 1, none⟩ = some (.int .u64 0) := cell_at k2
  have b2 : w1.cell? ⟨w.heap.size + 1, 2, none⟩ = some (.string ⟨#[]⟩) := cell_at k2
  have l2 := lt_of_block k2
  have f2 := frees k2
  have HF : Hid (Frm (fun _ => False) w w1) := Frm.trans' (b := _) (by (repeat' (first | (with_reducible exact Frm.refl _ _) | (with_reducible assumption) | (with_reducible refine Frm.alloc ?_ _) | (with_reducible refine Frm.drew ?_) | (with_reducible refine Frm.drewN ?_ _) | (with_reducible refine Frm.set1 ?_ _) | (with_reducible refine Frm.setCell ?_ ?_ _) | (exact fun h => absurd h (Nat.lt_irrefl _)) | (intro hlt; simp [World.size_alloc, One] at hlt ⊢; omega)))) hF
  have K2 := Lib.hid k2
  clear hF k2
  go_wp2_with fail
  refine bodyPost_ret (ret_v1 Try.results37 _ _ _ _ _ _ rfl (store3 K2.out)) rfl ⟨rfl, ?_⟩
  have hf : Frm (fun _ => False) w w1 := HF.out
  (repeat' (first | (with_reducible exact Frm.refl _ _) | (with_reducible assumption) | (with_reducible refine Frm.alloc ?_ _) | (with_reducible refine Frm.drew ?_) | (with_reducible refine Frm.drewN ?_ _) | (with_reducible refine Frm.set1 ?_ _) | (with_reducible refine Frm.setCell ?_ ?_ _) | (exact fun h => absurd h (Nat.lt_irrefl _)) | (intro hlt; simp [World.size_alloc, One] at hlt ⊢; omega)))
end Go.Proofs.Ytemjdmgfilbfaaa
