/-
  What is wrong with an entry: the code's and the document's.
-/
import Derived.Test.YtemjdmgfilbfaaaOdA
namespace Go.Proofs.Ytemjdmgfilbfaaa
open Go.RowKit
set_option linter.unusedVariables false

theorem within_zero (x : En) (v : Va) : withinC x v = 0 ↔ withinE x v = (0, true) := by
  unfold withinC withinE
  split
  · simp [codeGeneral]
  · split
    · simp [codeHigh]
    · split
      · simp [codeLow]
      · simp
theorem entryE_eq (x : En) : entryE x = if checkV x.df ≠ 0 then checkV x.df
    else if x.acc < 0 ∨ 3 < x.acc then 1 else if x.mp = true ∧ numE x = false then 1 else if x.lim = true ∧ (numE x && decide (withinC x x.df = 0)) = false then 1 else 0 := by
  unfold entryE
  have hb : ((numE x && decide (withinC x x.df = 0)) = false) ↔ ¬ (numE x = true ∧ withinE x x.df = (0, true)) := by
    rw [← within_zero]
    cases numE x <;> simp
  simp only [hb]
  by_cases h1 : checkV x.df ≠ 0
  · rw [if_pos h1, if_pos h1]
  · rw [if_neg h1, if_neg h1]
    by_cases h2 : x.acc < 0 ∨ 3 < x.acc
    · rw [if_pos h2, if_pos (by rcases h2 with h | h; exact .inl h; exact .inr (.inl h))]
    · rw [if_neg h2]
      by_cases h3 : x.mp = true ∧ numE x = false
      · rw [if_pos h3, if_pos (.inr (.inr (.inl h3)))]
      · rw [if_neg h3]
        by_cases h4 : x.lim = true ∧ ¬ (numE x = true ∧ withinE x x.df = (0, true))
        · rw [if_pos h4, if_pos (.inr (.inr (.inr h4)))]
        · rw [if_neg h4, if_neg]
          rintro (h | h | h | h)
          · exact h2 (.inl h)
          · exact h2 (.inr h)
          · exact h3 h
          · exact h4 h

set_option maxRecDepth 100000 in
set_option maxHeartbeats 2000000 in
theorem odLimits_any (x : En) (num : Bool) (w : World) (hx : x.ok) : Calls Try.prog 99 #[valE x, .bool num] w fun e w' => e = .returned (.bool (num && decide (withinC x x.df = 0))) ∧ Frm (fun _ => False) w w' := by
  have H := Lib.hid (fun W => odWithin_any x x.df W hx hx.2.2.2.2.2.2)
  generalize withinC x x.df = r at *
  obtain ⟨i, s, ac, mp, lm, ⟨at', an, ab⟩, ⟨bt, bn, bb⟩, ⟨dt, dn, db⟩⟩ := x
  unfold valE valV at *
  clear hx
  simp only at *
  generalize strB2 ab = ab at *
  generalize strB2 bb = bb at *
  generalize strB2 db = db at *
  cases num with
  | false =>
    go_enter Try.func99, Try.ntmps99
    go_wp2_with fail
    go_ret
    exact ⟨rfl, by (repeat' (first | (with_reducible exact Frm.refl _ _) | (with_reducible assumption) | (with_reducible refine Frm.alloc ?_ _) | (with_reducible refine Frm.drew ?_) | (with_reducible refine Frm.drewN ?_ _) | (with_reducible refine Frm.set1 ?_ _) | (with_reducible refine Frm.setCell ?_ ?_ _) | (exact fun h => absurd h (Nat.lt_irrefl _)) | (intro hlt; simp [World.size_alloc, One] at hlt ⊢; omega)))⟩
  | true =>
    by_cases hr : r = 0
    · subst hr
      go_enter Try.func99, Try.ntmps99
      go_wp2_with fail
      refine (H.out _).mono ?_
      rintro e w1 ⟨rfl, hF1⟩
      have HF1 : Hid (Frm (fun _ => False) w w1) := Frm.trans' (b := _) (by (repeat' (first | (with_reducible exact Frm.refl _ _) | (with_reducible assumption) | (with_reducible refine Frm.alloc ?_ _) | (with_reducible refine Frm.drew ?_) | (with_reducible refine Frm.drewN ?_ _) | (with_reducible refine Frm.set1 ?_ _) | (with_reducible refine Frm.setCell ?_ ?_ _) | (exact fun h => absurd h (Nat.lt_irrefl _)) | (intro hlt; simp [World.size_alloc, One] at hlt ⊢; omega)))) hF1
      clear hF1
      go_wp2_with fail
      go_ret
      exact ⟨rfl, HF1.out⟩
    · have b1 : (r == 0) = false := beq_eq_false_iff_ne.2 hr
      have E : Hid (decide (r = 0) = false) := by unfold Hid; simpa using hr
      clear hr
      go_enter Try.func99, Try.ntmps99
      go_wp2_with fail
      refine (H.out _).mono ?_
      rintro e w1 ⟨rfl, hF1⟩
      have HF1 : Hid (Frm (fun _ => False) w w1) := Frm.trans' (b := _) (by (repeat' (first | (with_reducible exact Frm.refl _ _) | (with_reducible assumption) | (with_reducible refine Frm.alloc ?_ _) | (with_reducible refine Frm.drew ?_) | (with_reducible refine Frm.drewN ?_ _) | (with_reducible refine Frm.set1 ?_ _) | (with_reducible refine Frm.setCell ?_ ?_ _) | (exact fun h => absurd h (Nat.lt_irrefl _)) | (intro hlt; simp [World.size_alloc, One] at hlt ⊢; omega)))) hF1
      clear hF1
      go_wp2_with fail
      go_ret
      exact ⟨by rw [E.out]; rfl, HF1.out⟩

set_option maxHeartbeats 1000000 in
theorem tyCheck_any (v : Va) (w : World) (hv : v.ok) : Calls Try.prog 52 #[valV v] w fun e w' => e = .returned (.int .i64 (checkV v)) ∧ Frm (fun _ => False) w w' := by
  have H := Lib.hid (fun W => tyChk_any v W hv)
  unfold valV at *
  generalize checkV v = r at *
  go_enter Try.func52, Try.ntmps52
  go_wp2_with fail
  refine (H.out _).mono ?_
  rintro e w1 ⟨rfl, hF1⟩
  have HF1 : Hid (Frm (fun _ => False) w w1) := Frm.trans' (b := _) (by (repeat' (first | (with_reducible exact Frm.refl _ _) | (with_reducible assumption) | (with_reducible refine Frm.alloc ?_ _) | (with_reducible refine Frm.drew ?_) | (with_reducible refine Frm.drewN ?_ _) | (with_reducible refine Frm.set1 ?_ _) | (with_reducible refine Frm.setCell ?_ ?_ _) | (exact fun h => absurd h (Nat.lt_irrefl _)) | (intro hlt; simp [World.size_alloc, One] at hlt ⊢; omega)))) hF1
  clear hF1
  go_wp2_with fail
  go_ret
  exact ⟨rfl, HF1.out⟩


set_option maxRecDepth 100000 in
set_option maxHeartbeats 4000000 in
theorem odEntry_any (x : En) (w : World) (hx : x.ok) : Calls Try.prog 73 #[valE x] w fun e w' => e = .returned (.int .i64 (entryE x)) ∧ Frm (fun _ => False) w w' := by
  have HE := Lib.hid (entryE_eq x)
  have HC := Lib.hid (fun W => tyCheck_any x.df W hx.2.2.2.2.2.2)
  have HSZ := Lib.hid (fun W => tySize_any x.df.ty W)
  have HL := Lib.hid (fun n W => odLimits_any x n W hx)
  unfold numE at HE
  generalize entryE x = r at *
  generalize checkV x.df = ck at *
  generalize decide (withinC x x.df = 0) = wc at *
  obtain ⟨i, s, ac, mp, lm, ⟨at', an, ab⟩, ⟨bt, bn, bb⟩, ⟨dt, dn, db⟩⟩ := x
  clear hx
  unfold valE valV at *
  simp only at *
  generalize decide (sizeT dt ≠ 0) = num at *
  generalize sizeT dt = sz at *
  generalize strB2 ab = ab at *
  generalize strB2 bb = bb at *
  generalize strB2 db = db at *
  have hbx : ∀ W, Frm (fun _ => False) (w.alloc (.cells #[.int .u16 i, .int .u8 s, .int .i64 ac, .bool mp, .bool lm, .int .i64 at', .int .u64 an, .string ab, .int .i64 bt, .int .u64 bn, .string bb, .int .i64 dt, .int .u64 dn, .string db] 42)) W →
      W.heap[w.heap.size]? = some (.cells #[.int .u16 i, .int .u8 s, .int .i64 ac, .bool mp, .bool lm, .int .i64 at', .int .u64 an, .string ab, .int .i64 bt, .int .u64 bn, .string bb, .int .i64 dt, .int .u64 dn, .string db] 42 (0, 0)) ∧ Frm (fun _ => False) w W := fun W hF => ⟨hF.heap (heap_new _ _) (fun h => h), Frm.trans' (b := _) (by (repeat' (first | (with_reducible exact Frm.refl _ _) | (with_reducible assumption) | (with_reducible refine Frm.alloc ?_ _) | (with_reducible refine Frm.drew ?_) | (with_reducible refine Frm.drewN ?_ _) | (with_reducible refine Frm.set1 ?_ _) | (with_reducible refine Frm.setCell ?_ ?_ _) | (exact fun h => absurd h (Nat.lt_irrefl _)) | (intro hlt; simp [World.size_alloc, One] at hlt ⊢; omega)))) hF⟩
  have HBX := Lib.hid hbx
  clear hbx
  go_enter Try.func73, Try.ntmps73
  go_wp2_with fail
  refine (HC.out _).mono ?_
  rintro e w1 ⟨rfl, hF1⟩
  obtain ⟨k, hF1'⟩ := HBX.out w1 hF1
  have HF1 := Lib.hid hF1
  have HW1 := Lib.hid hF1'
  have c0 : w1.cell? ⟨w.heap.size, 0, none⟩ = some (.int .u16 i) := cell_at k
  have c1 : w1.cell? ⟨w.heap.size, 1, none⟩ = some (.int .u8 s) := cell_at k
  have c2 : w1.cell? ⟨w.heap.size, 2, none⟩ = some (.int .i64 ac) := cell_at k
  have c3 : w1.cell? ⟨w.heap.size, 3, none⟩ = some (.bool mp) := cell_at k
  have c4 : w1.cell? ⟨w.heap.size, 4, none⟩ = some (.bool lm) := cell_at k
  have c5 : w1.cell? ⟨w.heap.size, 5, none⟩ = some (.int .i64 at') := cell_at k
  have c6 : w1.cell? ⟨w.heap.size, 6, none⟩ = some (.int .u64 an) := cell_at k
  have c7 : w1.cell? ⟨w.heap.size, 7, none⟩ = some (.string ab) := cell_at k
  have c8 : w1.cell? ⟨w.heap.size, 8, none⟩ = some (.int .i64 bt) := cell_at k
  have c9 : w1.cell? ⟨w.heap.size, 9, none⟩ = some (.int .u64 bn) := cell_at k
  have c10 : w1.cell? ⟨w.heap.size, 10, none⟩ = some (.string bb) := cell_at k
  have c11 : w1.cell? ⟨w.heap.size, 11, none⟩ = some (.int .i64 dt) := cell_at k
  have c12 : w1.cell? ⟨w.heap.size, 12, none⟩ = some (.int .u64 dn) := cell_at k
  have c13 : w1.cell? ⟨w.heap.size, 13, none⟩ = some (.string db) := cell_at k
  have l0 := lt_of_block k
  clear hF1 hF1' k
  by_cases hck : ck = 0
  case neg =>
    have E : Hid (r = ck) := by unfold Hid; rw [HE.out, if_pos hck]
    have bc : (ck != 0) = true := by simpa using hck
    clear HE hck
    go_wp2_with fail
    go_ret
    exact ⟨by rw [E.out]; rfl, HW1.out⟩
  case pos =>
    rw [if_neg (by simpa using hck)] at HE
    subst hck
    go_wp2_with fail
    refine (HSZ.out _).mono ?_
    rintro e w2 ⟨rfl, hF2⟩
    have HF2 := Lib.hid (HF1.out.trans' hF2)
    obtain ⟨k, hF2'⟩ := HBX.out w2 HF2.out
    have HW2 := Lib.hid hF2'
    clear hF2 hF2' c0 c1 c2 c3 c4 c5 c6 c7 c8 c9 c10 c11 c12 c13 l0
    have c0 : w2.cell? ⟨w.heap.size, 0, none⟩ = some (.int .u16 i) := cell_at k
    have c1 : w2.cell? ⟨w.heap.size, 1, none⟩ = some (.int .u8 s) := cell_at k
    have c2 : w2.cell? ⟨w.heap.size, 2, none⟩ = some (.int .i64 ac) := cell_at k
    have c3 : w2.cell? ⟨w.heap.size, 3, none⟩ = some (.bool mp) := cell_at k
    have c4 : w2.cell? ⟨w.heap.size, 4, none⟩ = some (.bool lm) := cell_at k
    have c5 : w2.cell? ⟨w.heap.size, 5, none⟩ = some (.int .i64 at') := cell_at k
    have c6 : w2.cell? ⟨w.heap.size, 6, none⟩ = some (.int .u64 an) := cell_at k
    have c7 : w2.cell? ⟨w.heap.size, 7, none⟩ = some (.string ab) := cell_at k
    have c8 : w2.cell? ⟨w.heap.size, 8, none⟩ = some (.int .i64 bt) := cell_at k
    have c9 : w2.cell? ⟨w.heap.size, 9, none⟩ = some (.int .u64 bn) := cell_at k
    have c10 : w2.cell? ⟨w.heap.size, 10, none⟩ = some (.string bb) := cell_at k
    have c11 : w2.cell? ⟨w.heap.size, 11, none⟩ = some (.int .i64 dt) := cell_at k
    have c12 : w2.cell? ⟨w.heap.size, 12, none⟩ = some (.int .u64 dn) := cell_at k
    have c13 : w2.cell? ⟨w.heap.size, 13, none⟩ = some (.string db) := cell_at k
    have l0 := lt_of_block k
    clear k
    by_cases ha1 : ac < 0
    · have E : Hid (r = 1) := by unfold Hid; rw [HE.out, if_pos (.inl ha1)]
      clear HE
      go_wp2_with fail
      go_ret
      exact ⟨by rw [E.out]; rfl, HW2.out⟩
    · by_cases ha2 : 3 < ac
      · have E : Hid (r = 1) := by unfold Hid; rw [HE.out, if_pos (.inr ha2)]
        have ha1' : 0 ≤ ac := by omega
        clear HE ha1
        go_wp2_with fail
        go_ret
        exact ⟨by rw [E.out]; rfl, HW2.out⟩
      · rw [if_neg (by omega)] at HE
        have ha1' : 0 ≤ ac := by omega
        have ha2' : ac ≤ 3 := by omega
        clear ha1 ha2
        by_cases hmp : mp = true ∧ num = false
        · have E : Hid (r = 1) := by unfold Hid; rw [HE.out, if_pos hmp]
          obtain ⟨rfl, rfl⟩ := hmp
          clear HE
          go_wp2_with fail
          go_ret
          exact ⟨by rw [E.out]; rfl, HW2.out⟩
        · rw [if_neg hmp] at HE
          cases lm with
          | false =>
            have E : Hid (r = 0) := by unfold Hid; rw [HE.out, if_neg (by simp)]
            clear HE
            cases mp with
            | false =>
              go_wp2_with fail
              go_ret
              exact ⟨by rw [E.out]; rfl, HW2.out⟩
            | true =>
              obtain rfl : num = true := by cases num <;> simp at hmp ⊢
              clear hmp
              go_wp2_with fail
              go_ret
              exact ⟨by rw [E.out]; rfl, HW2.out⟩
          | true =>
            have HL2 := Lib.hid (fun W => HL.out num W)
            have HE2 : Hid (r = if (num && wc) = false then 1 else 0) := by unfold Hid; rw [HE.out]; simp
            clear HE HL
            generalize hb : (num && wc) = b at *
            have HBB := Lib.hid hb
            clear hb
            cases mp with
            | false =>
              go_wp2_with fail
              refine (HL2.out _).mono ?_
              rintro e w3 ⟨rfl, hF3⟩
              have HW3 := Lib.hid (HW2.out.trans' hF3)
              clear hF3
              cases b
              all_goals
                go_wp2_with fail
                go_ret
                exact ⟨by rw [HE2.out]; rfl, HW3.out⟩
            | true =>
              obtain rfl : num = true := by cases num <;> simp at hmp ⊢
              clear hmp
              go_wp2_with fail
              refine (HL2.out _).mono ?_
              rintro e w3 ⟨rfl, hF3⟩
              have HW3 := Lib.hid (HW2.out.trans' hF3)
              clear hF3
              cases b
              all_goals
                go_wp2_with fail
                go_ret
                exact ⟨by rw [HE2.out]; rfl, HW3.out⟩
end Go.Proofs.Ytemjdmgfilbfaaa
