/-
  Places as keys of a map; the code's check of entries.
-/
import Derived.Test.YtemjdmgfilbfaaaOdC
import Derived.Test.YtemjdmgfilbfaaaMapL
import Derived.DeepKeys5
namespace Go.Proofs.Ytemjdmgfilbfaaa
open Go.RowKit
set_option linter.unusedVariables false

theorem laidO : laidOutB Try.prog = true := by kernel_rfl
abbrev plV (i s : Int) : Value := .agg #[.int .u16 i, .int .u8 s]
theorem law_place : Maps.Keyed Try.prog 86 := Maps.Keyed.of_law (deep_law_laid laidO (m := 2) (by omega) (of_decide_eq_true (by kernel_rfl)) (by kernel_rfl) (by rw [Try.underlying86]))
theorem keyOf_place (i s : Int) (hi : 0 ≤ i ∧ i ≤ 65535) (hs : 0 ≤ s ∧ s ≤ 255) : ∃ l, keyOf Try.prog 86 (plV i s) = some l := by
  have hkt : Try.prog.keyType 86 = true := by kernel_rfl
  have hc : Try.prog.cellsOf 86 = 2 := by kernel_rfl
  have hc1 : Try.prog.cellsOf 32 = 1 := by kernel_rfl
  have hc2 : Try.prog.cellsOf 5 = 1 := by kernel_rfl
  have wi : (Lit.int .u16 i).wf = true := by simp [Lit.wf, IntKind.min, IntKind.max, IntKind.signed, IntKind.bits]; omega
  have ws : (Lit.int .u8 s).wf = true := by simp [Lit.wf, IntKind.min, IntKind.max, IntKind.signed, IntKind.bits]; omega
  obtain ⟨m, hm⟩ : ∃ m, Try.prog.types.size = m + 1 := ⟨Try.prog.types.size - 1, by have h : (0 : Nat) < Try.prog.types.size := of_decide_eq_true (by kernel_rfl); omega⟩
  unfold keyOf
  simp only [Try.underlying86]
  rw [if_pos (by simp [hkt, Value.formed, Try.underlying86, hc]), hm]
  unfold Program.keyLits
  simp only [Try.underlying86, Value.cells]
  rw [if_pos (by refine ⟨by rw [hc]; rfl, by kernel_rfl⟩)]
  simp [hc1, hc2, Program.keyLits, Try.underlying32, Try.underlying5, wi, ws]
def IsPl (v : Value) : Prop := ∃ l, keyOf Try.prog 86 v = some l
theorem key_place : KeyOk Try.prog 86 IsPl := KeyOk.of_keyed law_place
theorem isPl (x : En) (hx : x.ok) : IsPl (plV x.idx x.sub) := keyOf_place _ _ ⟨hx.1, hx.2.1⟩ ⟨hx.2.2.1, hx.2.2.2.1⟩
theorem zero_bool (w : World) : (zeroValue 4).run Try.prog w = .ok (.bool false) w := by kernel_rfl

/-- The place of an entry. -/
theorem odAt_any (x : En) (w : World) : Calls Try.prog 40 #[valE x] w fun e w' => e = .returned (plV x.idx x.sub) ∧ Frm (fun _ => False) w w' := by
  obtain ⟨i, s, ac, mp, lm, ⟨at', an, ab⟩, ⟨bt, bn, bb⟩, ⟨dt, dn, db⟩⟩ := x
  unfold valE
  simp only
  go_enter Try.func40, Try.ntmps40
  go_wp2_with fail
  refine bodyPost_ret (v := plV i s) (by simp [results, Try.results40, go_sem]) rfl ⟨rfl, by (repeat' (first | (with_reducible exact Frm.refl _ _) | (with_reducible assumption) | (with_reducible refine Frm.alloc ?_ _) | (with_reducible refine Frm.drew ?_) | (with_reducible refine Frm.drewN ?_ _) | (with_reducible refine Frm.set1 ?_ _) | (with_reducible refine Frm.setCell ?_ ?_ _) | (exact fun h => absurd h (Nat.lt_irrefl _)) | (intro hlt; simp [World.size_alloc, One] at hlt ⊢; omega)))⟩

theorem plE_inj {x y : En} (hx : x.ok) (hy : y.ok) (h : plE x = plE y) : x.idx = y.idx ∧ x.sub = y.sub := by
  unfold plE at h
  obtain ⟨a1, a2, a3, a4, _⟩ := hx
  obtain ⟨b1, b2, b3, b4, _⟩ := hy
  omega
def seenM (l : List En) : List (Value × Value) := l.map fun x => (plV x.idx x.sub, Value.bool true)
theorem seen_no {l : List En} {x : En} (hl : ∀ y ∈ l, y.ok) (hx : x.ok) (h : plE x ∉ l.map plE) : ∀ p ∈ seenM l, p.1 ≠ plV x.idx x.sub := by
  intro p hp e
  obtain ⟨y, hy, rfl⟩ := List.mem_map.1 hp
  simp only [Value.agg.injEq, Array.mk.injEq, List.cons.injEq, Value.int.injEq, true_and, and_true] at e
  exact h (List.mem_map.2 ⟨y, hy, by unfold plE; rw [e.1, e.2]⟩)
theorem seen_yes {l : List En} {x : En} (hl : ∀ y ∈ l, y.ok) (hx : x.ok) (h : plE x ∈ l.map plE) : (plV x.idx x.sub, Value.bool true) ∈ seenM l := by
  obtain ⟨y, hy, e⟩ := List.mem_map.1 h
  obtain ⟨e1, e2⟩ := plE_inj (hl y hy) hx e
  exact List.mem_map.2 ⟨y, hy, by rw [e1, e2]⟩
theorem seenM_snoc (l : List En) (x : En) : seenM (l ++ [x]) = seenM l ++ [(plV x.idx x.sub, Value.bool true)] := by simp [seenM]

set_option maxRecDepth 100000 in
set_option maxHeartbeats 4000000 in
theorem odChk_any (v : Value) (xs : List En) (w : World) (h : SlAt cellsE 14 w v xs) (hx : ∀ x ∈ xs, x.ok) : Calls Try.prog 36 #[v] w fun e w' => e = .returned (.int .i64 (checkE xs)) ∧ Frm (fun _ => False) w w' := by
  have HOK := Lib.hid hx
  obtain ⟨A, cap, rfl, h1, h2, hA⟩ := h
  have hm : xs.length ≤ 9223372036854775807 := Nat.le_trans h1 h2
  have HA := Lib.hid hA
  have HC : Hid (checkE xs = if 1024 < xs.length then 2 else chkE [] xs) := rfl
  generalize checkE xs = r at *
  clear h1 h2 hA hx
  have hmm := @run_makeMap Try.prog
  by_cases hlen : 1024 < xs.length
  · have E : Hid (r = 2) := by unfold Hid; rw [HC.out, if_pos hlen]
    go_enter Try.func36, Try.ntmps36
    go_wp2_with fail
    go_ret
    exact ⟨by rw [E.out]; rfl, by (repeat' (first | (with_reducible exact Frm.refl _ _) | (with_reducible assumption) | (with_reducible refine Frm.alloc ?_ _) | (with_reducible refine Frm.drew ?_) | (with_reducible refine Frm.drewN ?_ _) | (with_reducible refine Frm.set1 ?_ _) | (with_reducible refine Frm.setCell ?_ ?_ _) | (exact fun h => absurd h (Nat.lt_irrefl _)) | (intro hlt; simp [World.size_alloc, One] at hlt ⊢; omega)))⟩
  · have hlen' : xs.length ≤ 1024 := by omega
    rw [if_neg hlen] at HC
    clear hlen
    go_enter Try.func36, Try.ntmps36
    go_wp2_with fail
    clear hmm
    go_loopw [13] (fun i wr => ∃ k : Nat, k ≤ xs.length ∧ i = .int .i64 k ∧ MapAt IsPl wr w.heap.size (seenM (xs.take k)) ∧ r = chkE ((xs.take k).map plE) (xs.drop k) ∧ Frm (fun _ => False) w wr) (fun i _ => xs.length - (intOf i).toNat)
    case atStart => exact ⟨0, Nat.zero_le _, rfl, MapAt.made _ _, HC.out, by (repeat' (first | (with_reducible exact Frm.refl _ _) | (with_reducible assumption) | (with_reducible refine Frm.alloc ?_ _) | (with_reducible refine Frm.drew ?_) | (with_reducible refine Frm.drewN ?_ _) | (with_reducible refine Frm.set1 ?_ _) | (with_reducible refine Frm.setCell ?_ ?_ _) | (exact fun h => absurd h (Nat.lt_irrefl _)) | (intro hlt; simp [World.size_alloc, One] at hlt ⊢; omega)))⟩
    case round =>
      clear HC
      obtain ⟨k, hk, rfl, hM, hr, hF⟩ := hrel
      have HM := Lib.hid hM
      have HR := Lib.hid hr
      have HF := Lib.hid hF
      have hml := hM.lt
      clear hM hr hF
      by_cases hlt : k < xs.length
      · obtain ⟨g, off, rfl, hgl, hcell⟩ := HA.out (by omega)
        have HD : Hid (xs.drop k = xs[k] :: xs.drop (k + 1)) := List.drop_eq_getElem_cons hlt
        have HTK : Hid (xs.take (k + 1) = xs.take k ++ [xs[k]]) := List.take_succ_eq_append_getElem hlt
        have hxo := HOK.out _ (List.getElem_mem hlt)
        have q := fun j hj => HF.out.cell ((hcell k hlt j hj).trans (List.getElem?_eq_getElem (by rw [cellsE_len]; exact hj))) (fun h => h)
        have hallk : ∀ y ∈ xs.take k, y.ok := fun y hy => HOK.out y (List.mem_of_mem_take hy)
        generalize xs[k] = x at *
        have d0 := q 0 (by decide)
        have d1 := q 1 (by decide)
        have d2 := q 2 (by decide)
        have d3 := q 3 (by decide)
        have d4 := q 4 (by decide)
        have d5 := q 5 (by decide)
        have d6 := q 6 (by decide)
        have d7 := q 7 (by decide)
        have d8 := q 8 (by decide)
        have d9 := q 9 (by decide)
        have d10 := q 10 (by decide)
        have d11 := q 11 (by decide)
        have d12 := q 12 (by decide)
        have d13 := q 13 (by decide)
        simp only [cellsE, List.getElem_cons_succ, List.getElem_cons_zero, Nat.add_zero] at d0 d1 d2 d3 d4 d5 d6 d7 d8 d9 d10 d11 d12 d13
        have HEN := Lib.hid (fun W => odEntry_any x W hxo)
        have HAT := Lib.hid (fun W => odAt_any x W)
        have HIP := Lib.hid (isPl x hxo)
        have HNO := Lib.hid (seen_no hallk hxo)
        have HYES := Lib.hid (seen_yes hallk hxo)
        have HBX : Hid (∀ W, Frm (fun _ => False) (wr.alloc (.cells #[.int .u16 x.idx, .int .u8 x.sub, .int .i64 x.acc, .bool x.mp, .bool x.lim, .int .i64 x.mn.ty, .int .u64 x.mn.n, .string (strB2 x.mn.b), .int .i64 x.mx.ty, .int .u64 x.mx.n, .string (strB2 x.mx.b), .int .i64 x.df.ty, .int .u64 x.df.n, .string (strB2 x.df.b)] 42)) W → W.heap[wr.heap.size]? = some (.cells #[.int .u16 x.idx, .int .u8 x.sub, .int .i64 x.acc, .bool x.mp, .bool x.lim, .int .i64 x.mn.ty, .int .u64 x.mn.n, .string (strB2 x.mn.b), .int .i64 x.mx.ty, .int .u64 x.mx.n, .string (strB2 x.mx.b), .int .i64 x.df.ty, .int .u64 x.df.n, .string (strB2 x.df.b)] 42) ∧ Frm (fun _ => False) wr W) := fun W hF => ⟨hF.heap (heap_new _ _) (fun h => h), Frm.trans' (b := _) (by (repeat' (first | (with_reducible exact Frm.refl _ _) | (with_reducible assumption) | (with_reducible refine Frm.alloc ?_ _) | (with_reducible refine Frm.drew ?_) | (with_reducible refine Frm.drewN ?_ _) | (with_reducible refine Frm.set1 ?_ _) | (with_reducible refine Frm.setCell ?_ ?_ _) | (exact fun h => absurd h (Nat.lt_irrefl _)) | (intro hlt; simp [World.size_alloc, One] at hlt ⊢; omega)))) hF⟩
        have HR2 : Hid (r = if entryE x ≠ 0 then entryE x else if plE x ∈ (xs.take k).map plE then 5 else chkE ((xs.take k).map plE ++ [plE x]) (xs.drop (k + 1))) := by
          unfold Hid
          rw [HR.out, HD.out]
          rfl
        generalize entryE x = ee at *
        clear hcell q hxo hallk HR
        go_wp2_with fail
        refine (HEN.out _).mono ?_
        rintro e w1 ⟨rfl, hF1⟩
        obtain ⟨kk, hF1'⟩ := HBX.out w1 hF1
        have HF1 := Lib.hid hF1
        have HW1 := Lib.hid hF1'
        clear d0 d1 d2 d3 d4 d5 d6 d7 d8 d9 d10 d11 d12 d13
        have c0 : w1.cell? ⟨wr.heap.size, 0, none⟩ = some (.int .u16 x.idx) := cell_at kk
        have c1 : w1.cell? ⟨wr.heap.size, 1, none⟩ = some (.int .u8 x.sub) := cell_at kk
        have c2 : w1.cell? ⟨wr.heap.size, 2, none⟩ = some (.int .i64 x.acc) := cell_at kk
        have c3 : w1.cell? ⟨wr.heap.size, 3, none⟩ = some (.bool x.mp) := cell_at kk
        have c4 : w1.cell? ⟨wr.heap.size, 4, none⟩ = some (.bool x.lim) := cell_at kk
        have c5 : w1.cell? ⟨wr.heap.size, 5, none⟩ = some (.int .i64 x.mn.ty) := cell_at kk
        have c6 : w1.cell? ⟨wr.heap.size, 6, none⟩ = some (.int .u64 x.mn.n) := cell_at kk
        have c7 : w1.cell? ⟨wr.heap.size, 7, none⟩ = some (.string (strB2 x.mn.b)) := cell_at kk
        have c8 : w1.cell? ⟨wr.heap.size, 8, none⟩ = some (.int .i64 x.mx.ty) := cell_at kk
        have c9 : w1.cell? ⟨wr.heap.size, 9, none⟩ = some (.int .u64 x.mx.n) := cell_at kk
        have c10 : w1.cell? ⟨wr.heap.size, 10, none⟩ = some (.string (strB2 x.mx.b)) := cell_at kk
        have c11 : w1.cell? ⟨wr.heap.size, 11, none⟩ = some (.int .i64 x.df.ty) := cell_at kk
        have c12 : w1.cell? ⟨wr.heap.size, 12, none⟩ = some (.int .u64 x.df.n) := cell_at kk
        have c13 : w1.cell? ⟨wr.heap.size, 13, none⟩ = some (.string (strB2 x.df.b)) := cell_at kk
        have l0 := lt_of_block kk
        clear hF1 hF1' kk HEN
        by_cases he : ee = 0
        case neg =>
          have E : Hid (r = ee) := by unfold Hid; rw [HR2.out, if_pos he]
          have be : (ee != 0) = true := by simpa using he
          clear he HR2
          go_wp2_with fail
          go_ret
          exact ⟨by rw [E.out]; rfl, HF.out.trans' HW1.out⟩
        case pos =>
          subst he
          have HR3 : Hid (r = if plE x ∈ (xs.take k).map plE then 5 else chkE ((xs.take k).map plE ++ [plE x]) (xs.drop (k + 1))) := by unfold Hid; rw [HR2.out, if_neg (by simp)]
          clear HR2
          go_wp2_with fail
          refine (HAT.out _).mono ?_
          rintro e w2 ⟨rfl, hF2⟩
          have HF2 := Lib.hid (HF1.out.trans' hF2)
          obtain ⟨kk, hF2'⟩ := HBX.out w2 HF2.out
          have HW2 := Lib.hid hF2'
          have HM2 := Lib.hid (HM.out.frm hF2' (fun h => h))
          clear hF2 hF2'
          clear c0 c1 c2 c3 c4 c5 c6 c7 c8 c9 c10 c11 c12 c13 l0
          have c0 : w2.cell? ⟨wr.heap.size, 0, none⟩ = some (.int .u16 x.idx) := cell_at kk
          have c1 : w2.cell? ⟨wr.heap.size, 1, none⟩ = some (.int .u8 x.sub) := cell_at kk
          have c2 : w2.cell? ⟨wr.heap.size, 2, none⟩ = some (.int .i64 x.acc) := cell_at kk
          have c3 : w2.cell? ⟨wr.heap.size, 3, none⟩ = some (.bool x.mp) := cell_at kk
          have c4 : w2.cell? ⟨wr.heap.size, 4, none⟩ = some (.bool x.lim) := cell_at kk
          have c5 : w2.cell? ⟨wr.heap.size, 5, none⟩ = some (.int .i64 x.mn.ty) := cell_at kk
          have c6 : w2.cell? ⟨wr.heap.size, 6, none⟩ = some (.int .u64 x.mn.n) := cell_at kk
          have c7 : w2.cell? ⟨wr.heap.size, 7, none⟩ = some (.string (strB2 x.mn.b)) := cell_at kk
          have c8 : w2.cell? ⟨wr.heap.size, 8, none⟩ = some (.int .i64 x.mx.ty) := cell_at kk
          have c9 : w2.cell? ⟨wr.heap.size, 9, none⟩ = some (.int .u64 x.mx.n) := cell_at kk
          have c10 : w2.cell? ⟨wr.heap.size, 10, none⟩ = some (.string (strB2 x.mx.b)) := cell_at kk
          have c11 : w2.cell? ⟨wr.heap.size, 11, none⟩ = some (.int .i64 x.df.ty) := cell_at kk
          have c12 : w2.cell? ⟨wr.heap.size, 12, none⟩ = some (.int .u64 x.df.n) := cell_at kk
          have c13 : w2.cell? ⟨wr.heap.size, 13, none⟩ = some (.string (strB2 x.df.b)) := cell_at kk
          have l0 := lt_of_block kk
          clear kk
          by_cases hin : plE x ∈ (xs.take k).map plE
          · have E : Hid (r = 5) := by unfold Hid; rw [HR3.out, if_pos hin]
            have hlk := HM2.out.hit key_place Try.underlying131 HIP.out (HYES.out hin) false
            simp only [Bool.false_eq_true, if_false] at hlk
            clear HR3 hin
            go_wp2_with fail
            go_ret
            exact ⟨by rw [E.out]; rfl, HF.out.trans' HW2.out⟩
          · have E : Hid (r = chkE ((xs.take (k + 1)).map plE) (xs.drop (k + 1))) := by
              unfold Hid
              rw [HR3.out, if_neg hin, HTK.out, List.map_append]
              rfl
            have hlk := HM2.out.miss key_place Try.underlying131 (zero_bool _) HIP.out (HNO.out hin) false
            simp only [Bool.false_eq_true, if_false] at hlk
            have HIN := Lib.hid hin
            clear HR3 hin
            go_wp2_with fail
            refine (HAT.out _).mono ?_
            rintro e w3 ⟨rfl, hF3⟩
            obtain ⟨w4, hrun, hM4, hF4⟩ := (HM2.out.frm hF3 (fun h => h)).push key_place Try.underlying131 HIP.out (HNO.out HIN.out) (.bool true)
            have HM4 := Lib.hid hM4
            have HF4 : Hid (Frm (fun _ => False) w w4) := ((HF.out.trans' HW2.out).trans' hF3).trans hF4 (fun i hi e => by have e : i = w.heap.size := e; omega)
            clear hlk hM4 hF4 hF3
            go_wp2_with fail
            go_roundw
            case rel => exact ⟨k + 1, by omega, by go_num, by rw [HTK.out, seenM_snoc]; exact HM4.out, E.out, HF4.out⟩
            case measure => simp [intOf]; omega
      · have E : Hid (r = 0) := by
          unfold Hid
          rw [HR.out, List.drop_eq_nil_of_le (by omega)]
          rfl
        go_wp2_with fail
        go_ret
        exact ⟨by rw [E.out]; rfl, HF.out⟩
end Go.Proofs.Ytemjdmgfilbfaaa
