/-
  What is wrong with an entry, as the document says.
-/
import Derived.Test.YtemjdmgfilbfaaaOdB
namespace Go.Proofs.Ytemjdmgfilbfaaa
open Go.RowKit
set_option linter.unusedVariables false

set_option maxRecDepth 100000 in
set_option maxHeartbeats 4000000 in
theorem rentry_any (x : En) (w : World) (hx : x.ok) : Calls Try.prog 42 #[valE x] w fun e w' => e = .returned (.int .i64 (entryE x)) ∧ Frm (fun _ => False) w w' := by
  have HE : Hid (entryE x = if checkV x.df ≠ 0 then checkV x.df else if x.acc < 0 ∨ 3 < x.acc ∨ (x.mp = true ∧ decide (sizeT x.df.ty ≠ 0) = false) ∨ (x.lim = true ∧ ¬ (decide (sizeT x.df.ty ≠ 0) = true ∧ withinE x x.df = (0, true))) then 1 else 0) := rfl
  have HC := Lib.hid (fun W => rCheck_any x.df W hx.2.2.2.2.2.2)
  have HSZ := Lib.hid (fun W => rSize_any x.df.ty W)
  have HP := Lib.hid (@size_pos x.df.ty)
  have HL := Lib.hid (fun W => rWithin_any x x.df W hx hx.2.2.2.2.2.2)
  generalize entryE x = r at *
  generalize checkV x.df = ck at *
  generalize withinE x x.df = wc at *
  obtain ⟨wc, wb⟩ := wc
  obtain ⟨i, s, ac, mp, lm, ⟨at', an, ab⟩, ⟨bt, bn, bb⟩, ⟨dt, dn, db⟩⟩ := x
  clear hx
  unfold valE valV at *
  simp only at *
  generalize decide (sizeT dt ≠ 0) = num at *
  generalize sizeT dt = sz at *
  generalize strB2 ab = ab at *
  generalize strB2 bb = bb at *
  generalize strB2 db = db at *
  have hbx : ∀ W, Frm (fun _ => False) (w.alloc (.cells #[.int .u16 i, .int .u8 s, .int .i64 ac, .bool mp, .bool lm, .int .i64 at', .int .u64 an, .string ab, .int .i64 bt, .int .u64 bn, .string bb, .int .i64 dt, .int .u64 dn, .string db] 42)) W →
      W.heap[w.heap.size]? = some (.cells #[.int .u16 i, .int .u8 s, .int .i64 ac, .bool mp, .bool lm, .int .i64 at', .int .u64 an, .string ab, .int .i64 bt, .int .u64 bn, .string bb, .int .i64 dt, .int .u64 dn, .string db] 42 (0, 0)) ∧ Frm (fun _ => False) w W := fun W hF => ⟨hF.heap (heap_new _ _) (fun h => h), Frm.trans' (b := _) (by (repeat' (first | (with_reducible exact Frm.refl _ _) | (with_reducible assumption) | (with_reducible refine Frm.alloc ?_ _) | (with_reducible refine Frm.drew ?_) | (with_reducible refine Frm.drewN ?_ _) | (with_reducible refine Frm.set1 ?_ _) | (with_reducible refine Frm.setCell ?_ ?_ _) | (exact fun h => absurd h (Nat.lt_irrefl _)) | (intro hlt; simp [World.size_alloc, One] at hlt ⊢; omega)))) hF⟩
  have HBX := Lib.hid hbx
  clear hbx
  go_enter Try.func42, Try.ntmps42
  go_wp2_with fail
  refine (HC.out _).mono ?_
  rintro e w1 ⟨rfl, hF1⟩
  obtain ⟨k, hF1'⟩ := HBX.out w1 hF1
  have HF1 := Lib.hid hF1
  have HW1 := Lib.hid hF1'
  have c0 : w1.cell? ⟨w.heap.size, 0, none⟩ = some (.int .u16 i) := cell_at k
  have c1 : w1.cell? ⟨w.heap.size, 1, none⟩ = some (.int .u8 s) := cell_at k
  have c2 : w1.cell? ⟨w.heap.size, 2, none⟩ = some (.int .i64 ac) := cell_at k
  have c3 : w1.cell? ⟨w.heap.size, 3, none⟩ = some (.bool mp) := cell_at k
  have c4 : w1.cell? ⟨w.heap.size, 4, none⟩ = some (.bool lm) := cell_at k
  have c5 : w1.cell? ⟨w.heap.size, 5, none⟩ = some (.int .i64 at') := cell_at k
  have c6 : w1.cell? ⟨w.heap.size, 6, none⟩ = some (.int .u64 an) := cell_at k
  have c7 : w1.cell? ⟨w.heap.size, 7, none⟩ = some (.string ab) := cell_at k
  have c8 : w1.cell? ⟨w.heap.size, 8, none⟩ = some (.int .i64 bt) := cell_at k
  have c9 : w1.cell? ⟨w.heap.size, 9, none⟩ = some (.int .u64 bn) := cell_at k
  have c10 : w1.cell? ⟨w.heap.size, 10, none⟩ = some (.string bb) := cell_at k
  have c11 : w1.cell? ⟨w.heap.size, 11, none⟩ = some (.int .i64 dt) := cell_at k
  have c12 : w1.cell? ⟨w.heap.size, 12, none⟩ = some (.int .u64 dn) := cell_at k
  have c13 : w1.cell? ⟨w.heap.size, 13, none⟩ = some (.string db) := cell_at k
  have l0 := lt_of_block k
  clear hF1 hF1' k
  by_cases hck : ck = 0
  case neg =>
    have E : Hid (r = ck) := by unfold Hid; rw [HE.out, if_pos hck]
    have bc : (ck != 0) = true := by simpa using hck
    clear HE hck
    go_wp2_with fail
    go_ret
    exact ⟨by rw [E.out]; rfl, HW1.out⟩
  case pos =>
    rw [if_neg (by simpa using hck)] at HE
    subst hck
    go_wp2_with fail
    refine (HSZ.out _).mono ?_
    rintro e w2 ⟨rfl, rfl⟩
    have hnp : decide (0 < sz) = num := HP.out
    clear HSZ HP
    by_cases ha1 : ac < 0
    · have E : Hid (r = 1) := by unfold Hid; rw [HE.out, if_pos (.inl ha1)]
      clear HE
      go_wp2_with fail
      go_ret
      exact ⟨by rw [E.out]; rfl, HW1.out⟩
    · by_cases ha2 : 3 < ac
      · have E : Hid (r = 1) := by unfold Hid; rw [HE.out, if_pos (.inr (.inl ha2))]
        have ha1' : 0 ≤ ac := by omega
        clear HE ha1
        go_wp2_with fail
        go_ret
        exact ⟨by rw [E.out]; rfl, HW1.out⟩
      · have ha1' : 0 ≤ ac := by omega
        have ha2' : ac ≤ 3 := by omega
        have HE2 : Hid (r = if (mp = true ∧ num = false) ∨ (lm = true ∧ ¬ (num = true ∧ (wc, wb) = (0, true))) then 1 else 0) := by
          unfold Hid
          rw [HE.out]
          by_cases h : (mp = true ∧ num = false) ∨ (lm = true ∧ ¬ (num = true ∧ (wc, wb) = (0, true)))
          · rw [if_pos h, if_pos (.inr (.inr h))]
          · rw [if_neg h, if_neg (by rintro (h1 | h1 | h1); exact ha1 h1; exact ha2 h1; exact h h1)]
        clear ha1 ha2 HE
        cases lm with
        | false =>
          have HE3 : Hid (r = if mp = true ∧ num = false then 1 else 0) := by unfold Hid; rw [HE2.out]; simp
          clear HE2
          cases mp <;> cases num
          all_goals
            go_wp2_with fail
            go_ret
            exact ⟨by rw [HE3.out]; rfl, HW1.out⟩
        | true =>
          have HE3 : Hid (r = if (mp = true ∧ num = false) ∨ ¬ (num = true ∧ (wc, wb) = (0, true)) then 1 else 0) := by unfold Hid; rw [HE2.out]; simp
          clear HE2
          go_wp2_with fail
          refine (HL.out _).mono ?_
          rintro e w3 ⟨rfl, hF3⟩
          have HF3 := Lib.hid (HF1.out.trans' hF3)
          obtain ⟨k, hF3'⟩ := HBX.out w3 HF3.out
          have HW3 := Lib.hid hF3'
          clear hF3 hF3' c0 c1 c2 c3 c4 c5 c6 c7 c8 c9 c10 c11 c12 c13 l0
          have c0 : w3.cell? ⟨w.heap.size, 0, none⟩ = some (.int .u16 i) := cell_at k
          have c1 : w3.cell? ⟨w.heap.size, 1, none⟩ = some (.int .u8 s) := cell_at k
          have c2 : w3.cell? ⟨w.heap.size, 2, none⟩ = some (.int .i64 ac) := cell_at k
          have c3 : w3.cell? ⟨w.heap.size, 3, none⟩ = some (.bool mp) := cell_at k
          have c4 : w3.cell? ⟨w.heap.size, 4, none⟩ = some (.bool true) := cell_at k
          have c5 : w3.cell? ⟨w.heap.size, 5, none⟩ = some (.int .i64 at') := cell_at k
          have c6 : w3.cell? ⟨w.heap.size, 6, none⟩ = some (.int .u64 an) := cell_at k
          have c7 : w3.cell? ⟨w.heap.size, 7, none⟩ = some (.string ab) := cell_at k
          have c8 : w3.cell? ⟨w.heap.size, 8, none⟩ = some (.int .i64 bt) := cell_at k
          have c9 : w3.cell? ⟨w.heap.size, 9, none⟩ = some (.int .u64 bn) := cell_at k
          have c10 : w3.cell? ⟨w.heap.size, 10, none⟩ = some (.string bb) := cell_at k
          have c11 : w3.cell? ⟨w.heap.size, 11, none⟩ = some (.int .i64 dt) := cell_at k
          have c12 : w3.cell? ⟨w.heap.size, 12, none⟩ = some (.int .u64 dn) := cell_at k
          have c13 : w3.cell? ⟨w.heap.size, 13, none⟩ = some (.string db) := cell_at k
          have l0 := lt_of_block k
          clear k
          cases num with
          | false =>
            have E : Hid (r = 1) := by unfold Hid; rw [HE3.out, if_pos (.inr (by simp))]
            clear HE3
            go_wp2_with fail
            go_ret
            exact ⟨by rw [E.out]; rfl, HW3.out⟩
          | true =>
            cases wb with
            | false =>
              have E : Hid (r = 1) := by unfold Hid; rw [HE3.out, if_pos (.inr (by simp))]
              clear HE3
              go_wp2_with fail
              go_ret
              exact ⟨by rw [E.out]; rfl, HW3.out⟩
            | true =>
              by_cases hwc : wc = 0
              · subst hwc
                have E : Hid (r = 0) := by unfold Hid; rw [HE3.out, if_neg (by simp)]
                clear HE3
                cases mp
                all_goals
                  go_wp2_with fail
                  go_ret
                  exact ⟨by rw [E.out]; rfl, HW3.out⟩
              · have E : Hid (r = 1) := by unfold Hid; rw [HE3.out, if_pos (.inr (by simpa using hwc))]
                have bw : (wc != 0) = true := by simpa using hwc
                clear HE3 hwc
                go_wp2_with fail
                go_ret
                exact ⟨by rw [E.out]; rfl, HW3.out⟩
end Go.Proofs.Ytemjdmgfilbfaaa
