/-
  Limits and entries: what the code and the document say of them.
-/
import Derived.Test.YtemjdmgfilbfaaaOdP
import Derived.Test.YtemjdmgfilbfaaaTyO
namespace Go.Proofs.Ytemjdmgfilbfaaa
open Go.RowKit
set_option linter.unusedVariables false

def cellsE (x : En) : List Value := [.int .u16 x.idx, .int .u8 x.sub, .int .i64 x.acc, .bool x.mp, .bool x.lim, .int .i64 x.mn.ty, .int .u64 x.mn.n, .string (strB2 x.mn.b), .int .i64 x.mx.ty, .int .u64 x.mx.n, .string (strB2 x.mx.b), .int .i64 x.df.ty, .int .u64 x.df.n, .string (strB2 x.df.b)]
abbrev valE (x : En) : Value := .agg #[.int .u16 x.idx, .int .u8 x.sub, .int .i64 x.acc, .bool x.mp, .bool x.lim, .int .i64 x.mn.ty, .int .u64 x.mn.n, .string (strB2 x.mn.b), .int .i64 x.mx.ty, .int .u64 x.mx.n, .string (strB2 x.mx.b), .int .i64 x.df.ty, .int .u64 x.df.n, .string (strB2 x.df.b)]
theorem cellsE_len (x : En) : (cellsE x).length = 14 := rfl

theorem withinC_eq (x : En) (v : Va) : withinC x v = if (orderV v x.mn).2 ≠ 0 ∨ (orderV v x.mx).2 ≠ 0 then codeGeneral
    else if 0 < (orderV v x.mx).1 then codeHigh else if (orderV v x.mn).1 < 0 then codeLow else 0 := by
  unfold withinC withinE
  split
  · simp
  · split
    · simp
    · split <;> simp

set_option maxRecDepth 100000 in
set_option maxHeartbeats 2000000 in
theorem odWithin_any (x : En) (v : Va) (w : World) (hx : x.ok) (hv : v.ok) : Calls Try.prog 81 #[valE x, valV v] w fun e w' => e = .returned (.int .u32 (withinC x v)) ∧ Frm (fun _ => False) w w' := by
  have H1 := Lib.hid (fun W => tyOrd_any v x.mn W hv hx.2.2.2.2.1)
  have H2 := Lib.hid (fun W => tyOrd_any v x.mx W hv hx.2.2.2.2.2.1)
  have HW := Lib.hid (withinC_eq x v)
  unfold OrdP at H1 H2
  generalize withinC x v = r at *
  generalize orderV v x.mn = lo at *
  generalize orderV v x.mx = hi at *
  obtain ⟨l1, l2⟩ := lo
  obtain ⟨h1, h2⟩ := hi
  obtain ⟨vt, vn, vb⟩ := v
  obtain ⟨i, s, ac, mp, lm, ⟨at', an, ab⟩, ⟨bt, bn, bb⟩, ⟨dt, dn, db⟩⟩ := x
  unfold valV at H1 H2 ⊢
  unfold valE
  clear hx hv
  simp only at *
  generalize strB2 vb = vb at *
  generalize strB2 ab = ab at *
  generalize strB2 bb = bb at *
  generalize strB2 db = db at *
  go_enter Try.func81, Try.ntmps81
  go_wp2_with fail
  refine (H1.out _).mono ?_
  rintro e w1 ⟨rfl, hF1⟩
  have k0 := hF1.heap (heap_alloc_old (heap_new _ _)) (fun h => h)
  have k1 := hF1.heap (heap_new_at (k := w.heap.size + 1) (by simp)) (fun h => h)
  have c0 : w1.cell? ⟨w.heap.size + 1, 0, none⟩ = some (.int .i64 vt) := cell_at k1
  have c1 : w1.cell? ⟨w.heap.size + 1, 1, none⟩ = some (.int .u64 vn) := cell_at k1
  have c2 : w1.cell? ⟨w.heap.size + 1, 2, none⟩ = some (.string vb) := cell_at k1
  have d8 : w1.cell? ⟨w.heap.size, 8, none⟩ = some (.int .i64 bt) := cell_at k0
  have d9 : w1.cell? ⟨w.heap.size, 9, none⟩ = some (.int .u64 bn) := cell_at k0
  have d10 : w1.cell? ⟨w.heap.size, 10, none⟩ = some (.string bb) := cell_at k0
  have l0 := lt_of_block k1
  have HF1 : Hid (Frm (fun _ => False) w w1) := Frm.trans' (b := _) (by (repeat' (first | (with_reducible exact Frm.refl _ _) | (with_reducible assumption) | (with_reducible refine Frm.alloc ?_ _) | (with_reducible refine Frm.drew ?_) | (with_reducible refine Frm.drewN ?_ _) | (with_reducible refine Frm.set1 ?_ _) | (with_reducible refine Frm.setCell ?_ ?_ _) | (exact fun h => absurd h (Nat.lt_irrefl _)) | (intro hlt; simp [World.size_alloc, One] at hlt ⊢; omega)))) hF1
  clear hF1 k0 k1
  go_wp2_with fail
  refine (H2.out _).mono ?_
  rintro e w2 ⟨rfl, hF2⟩
  have HF2 := Lib.hid (HF1.out.trans' hF2)
  clear hF2 c0 c1 c2 d8 d9 d10 l0
  by_cases e1 : l2 = 0
  case neg =>
    have E : Hid (r = codeGeneral) := by unfold Hid; rw [HW.out, if_pos (Or.inl e1)]
    have b1 : (l2 != 0) = true := by simpa using e1
    clear HW e1
    go_wp2_with fail
    go_ret
    exact ⟨by rw [E.out]; rfl, HF2.out⟩
  case pos =>
    subst e1
    by_cases e2 : h2 = 0
    case neg =>
      have E : Hid (r = codeGeneral) := by unfold Hid; rw [HW.out, if_pos (Or.inr e2)]
      have b1 : (h2 != 0) = true := by simpa using e2
      clear HW e2
      go_wp2_with fail
      go_ret
      exact ⟨by rw [E.out]; rfl, HF2.out⟩
    case pos =>
      subst e2
      have HW2 : Hid (r = if 0 < h1 then codeHigh else if l1 < 0 then codeLow else 0) := by unfold Hid; rw [HW.out, if_neg (by simp)]
      clear HW
      by_cases e3 : 0 < h1
      · have E : Hid (r = codeHigh) := by unfold Hid; rw [HW2.out, if_pos e3]
        clear HW2
        go_wp2_with fail
        go_ret
        exact ⟨by rw [E.out]; rfl, HF2.out⟩
      · have e3' : h1 ≤ 0 := by omega
        by_cases e4 : l1 < 0
        · have E : Hid (r = codeLow) := by unfold Hid; rw [HW2.out, if_neg e3, if_pos e4]
          clear HW2 e3
          go_wp2_with fail
          go_ret
          exact ⟨by rw [E.out]; rfl, HF2.out⟩
        · have e4' : 0 ≤ l1 := by omega
          have E : Hid (r = 0) := by unfold Hid; rw [HW2.out, if_neg e3, if_neg e4]
          clear HW2 e3 e4
          go_wp2_with fail
          go_ret
          exact ⟨by rw [E.out]; rfl, HF2.out⟩
set_option maxRecDepth 100000 in
set_option maxHeartbeats 2000000 in
theorem rWithin_any (x : En) (v : Va) (w : World) (hx : x.ok) (hv : v.ok) : Calls Try.prog 17 #[valE x, valV v] w fun e w' => e = .returned (.tuple #[.int .u32 (withinE x v).1, .bool (withinE x v).2]) ∧ Frm (fun _ => False) w w' := by
  have H1 := Lib.hid (fun W => rOrd_any v x.mn W hv hx.2.2.2.2.1)
  have H2 := Lib.hid (fun W => rOrd_any v x.mx W hv hx.2.2.2.2.2.1)
  have HW : Hid (withinE x v = if (orderV v x.mn).2 ≠ 0 ∨ (orderV v x.mx).2 ≠ 0 then (0, false) else if 0 < (orderV v x.mx).1 then (codeHigh, true) else if (orderV v x.mn).1 < 0 then (codeLow, true) else (0, true)) := rfl
  unfold OrdP at H1 H2
  generalize withinE x v = r at *
  generalize orderV v x.mn = lo at *
  generalize orderV v x.mx = hi at *
  obtain ⟨l1, l2⟩ := lo
  obtain ⟨h1, h2⟩ := hi
  obtain ⟨vt, vn, vb⟩ := v
  obtain ⟨i, s, ac, mp, lm, ⟨at', an, ab⟩, ⟨bt, bn, bb⟩, ⟨dt, dn, db⟩⟩ := x
  unfold valV at H1 H2 ⊢
  unfold valE
  clear hx hv
  simp only at *
  generalize strB2 vb = vb at *
  generalize strB2 ab = ab at *
  generalize strB2 bb = bb at *
  generalize strB2 db = db at *
  go_enter Try.func17, Try.ntmps17
  go_wp2_with fail
  refine (H1.out _).mono ?_
  rintro e w1 ⟨rfl, hF1⟩
  have k0 := hF1.heap (heap_alloc_old (heap_new _ _)) (fun h => h)
  have k1 := hF1.heap (heap_new_at (k := w.heap.size + 1) (by simp)) (fun h => h)
  have c0 : w1.cell? ⟨w.heap.size + 1, 0, none⟩ = some (.int .i64 vt) := cell_at k1
  have c1 : w1.cell? ⟨w.heap.size + 1, 1, none⟩ = some (.int .u64 vn) := cell_at k1
  have c2 : w1.cell? ⟨w.heap.size + 1, 2, none⟩ = some (.string vb) := cell_at k1
  have d8 : w1.cell? ⟨w.heap.size, 8, none⟩ = some (.int .i64 bt) := cell_at k0
  have d9 : w1.cell? ⟨w.heap.size, 9, none⟩ = some (.int .u64 bn) := cell_at k0
  have d10 : w1.cell? ⟨w.heap.size, 10, none⟩ = some (.string bb) := cell_at k0
  have l0 := lt_of_block k1
  have HF1 : Hid (Frm (fun _ => False) w w1) := Frm.trans' (b := _) (by (repeat' (first | (with_reducible exact Frm.refl _ _) | (with_reducible assumption) | (with_reducible refine Frm.alloc ?_ _) | (with_reducible refine Frm.drew ?_) | (with_reducible refine Frm.drewN ?_ _) | (with_reducible refine Frm.set1 ?_ _) | (with_reducible refine Frm.setCell ?_ ?_ _) | (exact fun h => absurd h (Nat.lt_irrefl _)) | (intro hlt; simp [World.size_alloc, One] at hlt ⊢; omega)))) hF1
  clear hF1 k0 k1
  go_wp2_with fail
  refine (H2.out _).mono ?_
  rintro e w2 ⟨rfl, hF2⟩
  have HF2 := Lib.hid (HF1.out.trans' hF2)
  clear hF2 c0 c1 c2 d8 d9 d10 l0
  by_cases e1 : l2 = 0
  case neg =>
    have E : Hid (r = (0, false)) := by unfold Hid; rw [HW.out, if_pos (Or.inl e1)]
    have b1 : (l2 != 0) = true := by simpa using e1
    clear HW e1
    go_wp2_with fail
    go_ret2
    exact ⟨by rw [E.out]; rfl, HF2.out⟩
  case pos =>
    subst e1
    by_cases e2 : h2 = 0
    case neg =>
      have E : Hid (r = (0, false)) := by unfold Hid; rw [HW.out, if_pos (Or.inr e2)]
      have b1 : (h2 != 0) = true := by simpa using e2
      clear HW e2
      go_wp2_with fail
      go_ret2
      exact ⟨by rw [E.out]; rfl, HF2.out⟩
    case pos =>
      subst e2
      have HW2 : Hid (r = if 0 < h1 then (codeHigh, true) else if l1 < 0 then (codeLow, true) else (0, true)) := by unfold Hid; rw [HW.out, if_neg (by simp)]
      clear HW
      by_cases e3 : 0 < h1
      · have E : Hid (r = (codeHigh, true)) := by unfold Hid; rw [HW2.out, if_pos e3]
        clear HW2
        go_wp2_with fail
        go_ret2
        exact ⟨by rw [E.out]; rfl, HF2.out⟩
      · have e3' : h1 ≤ 0 := by omega
        by_cases e4 : l1 < 0
        · have E : Hid (r = (codeLow, true)) := by unfold Hid; rw [HW2.out, if_neg e3, if_pos e4]
          clear HW2 e3
          go_wp2_with fail
          go_ret2
          exact ⟨by rw [E.out]; rfl, HF2.out⟩
        · have e4' : 0 ≤ l1 := by omega
          have E : Hid (r = (0, true)) := by unfold Hid; rw [HW2.out, if_neg e3, if_neg e4]
          clear HW2 e3 e4
          go_wp2_with fail
          go_ret2
          exact ⟨by rw [E.out]; rfl, HF2.out⟩
end Go.Proofs.Ytemjdmgfilbfaaa
