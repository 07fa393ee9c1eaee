/-
  The order of values: the code's and the document's. Limits and entries: what the code and the document say of them. What is wrong with an entry: the code's and the document's. What is wrong with an entry, as the document says.
-/
import Derived.Test.YtemjdmgfilbfaaaGreatMdffc7768
import Derived.Test.YtemjdmgfilbfaaaGreatMc6bffdeb
set_option linter.unusedVariables false
set_option linter.unusedSimpArgs false
namespace Go.Proofs.YtemjdmgfilbfaaaGreat
open Go.RowKit
set_option linter.unusedVariables false

set_option maxHeartbeats 1000000 in
theorem cmpI64_any (a b : Int) (w : World) : Calls Tryz.prog 126 #[.int .i64 a, .int .i64 b] w fun e w' => e = .returned (.int .i64 (cmpI a b)) ∧ w' = w := by
  rcases Int.lt_trichotomy a b with h | h | h
  · have E : Hid (cmpI a b = -1) := by unfold Hid cmpI; rw [if_pos h]
    go_enter Tryz.func126, Tryz.ntmps126
    go_wp2
    go_ret
    exact ⟨by rw [E.out]; rfl, rfl⟩
  · subst h
    have E : Hid (cmpI a a = 0) := by unfold Hid cmpI; rw [if_neg (by omega), if_neg (by omega)]
    go_enter Tryz.func126, Tryz.ntmps126
    go_wp2
    go_ret
    exact ⟨by rw [E.out]; rfl, rfl⟩
  · have E : Hid (cmpI a b = 1) := by unfold Hid cmpI; rw [if_neg (by omega), if_pos h]
    have h' : b ≤ a := by omega
    go_enter Tryz.func126, Tryz.ntmps126
    go_wp2
    go_ret
    exact ⟨by rw [E.out]; rfl, rfl⟩
set_option maxHeartbeats 1000000 in
theorem cmpU64_any (a b : Int) (w : World) : Calls Tryz.prog 127 #[.int .u64 a, .int .u64 b] w fun e w' => e = .returned (.int .i64 (cmpI a b)) ∧ w' = w := by
  rcases Int.lt_trichotomy a b with h | h | h
  · have E : Hid (cmpI a b = -1) := by unfold Hid cmpI; rw [if_pos h]
    go_enter Tryz.func127, Tryz.ntmps127
    go_wp2
    go_ret
    exact ⟨by rw [E.out]; rfl, rfl⟩
  · subst h
    have E : Hid (cmpI a a = 0) := by unfold Hid cmpI; rw [if_neg (by omega), if_neg (by omega)]
    go_enter Tryz.func127, Tryz.ntmps127
    go_wp2
    go_ret
    exact ⟨by rw [E.out]; rfl, rfl⟩
  · have E : Hid (cmpI a b = 1) := by unfold Hid cmpI; rw [if_neg (by omega), if_pos h]
    have h' : b ≤ a := by omega
    go_enter Tryz.func127, Tryz.ntmps127
    go_wp2
    go_ret
    exact ⟨by rw [E.out]; rfl, rfl⟩
set_option maxHeartbeats 1000000 in
theorem cmpU16_any (a b : Int) (w : World) : Calls Tryz.prog 87 #[.int .u16 a, .int .u16 b] w fun e w' => e = .returned (.int .i64 (cmpI a b)) ∧ w' = w := by
  rcases Int.lt_trichotomy a b with h | h | h
  · have E : Hid (cmpI a b = -1) := by unfold Hid cmpI; rw [if_pos h]
    go_enter Tryz.func87, Tryz.ntmps87
    go_wp2
    go_ret
    exact ⟨by rw [E.out]; rfl, rfl⟩
  · subst h
    have E : Hid (cmpI a a = 0) := by unfold Hid cmpI; rw [if_neg (by omega), if_neg (by omega)]
    go_enter Tryz.func87, Tryz.ntmps87
    go_wp2
    go_ret
    exact ⟨by rw [E.out]; rfl, rfl⟩
  · have E : Hid (cmpI a b = 1) := by unfold Hid cmpI; rw [if_neg (by omega), if_pos h]
    have h' : b ≤ a := by omega
    go_enter Tryz.func87, Tryz.ntmps87
    go_wp2
    go_ret
    exact ⟨by rw [E.out]; rfl, rfl⟩
set_option maxHeartbeats 1000000 in
theorem cmpU8_any (a b : Int) (w : World) : Calls Tryz.prog 88 #[.int .u8 a, .int .u8 b] w fun e w' => e = .returned (.int .i64 (cmpI a b)) ∧ w' = w := by
  rcases Int.lt_trichotomy a b with h | h | h
  · have E : Hid (cmpI a b = -1) := by unfold Hid cmpI; rw [if_pos h]
    go_enter Tryz.func88, Tryz.ntmps88
    go_wp2
    go_ret
    exact ⟨by rw [E.out]; rfl, rfl⟩
  · subst h
    have E : Hid (cmpI a a = 0) := by unfold Hid cmpI; rw [if_neg (by omega), if_neg (by omega)]
    go_enter Tryz.func88, Tryz.ntmps88
    go_wp2
    go_ret
    exact ⟨by rw [E.out]; rfl, rfl⟩
  · have E : Hid (cmpI a b = 1) := by unfold Hid cmpI; rw [if_neg (by omega), if_pos h]
    have h' : b ≤ a := by omega
    go_enter Tryz.func88, Tryz.ntmps88
    go_wp2
    go_ret
    exact ⟨by rw [E.out]; rfl, rfl⟩

theorem cmpB_vals (x y : List UInt8) : cmpB x y = -1 ∨ cmpB x y = 0 ∨ cmpB x y = 1 := by
  unfold cmpB
  induction x generalizing y with
  | nil => cases y <;> simp [Lib.compareBytes]
  | cons a r ih =>
    cases y with
    | nil => simp [Lib.compareBytes]
    | cons b s =>
      simp only [Lib.compareBytes]
      split
      · simp
      · split
        · simp
        · exact ih s
theorem cmpB_eq (x y : List UInt8) : (x == y) = decide (cmpB x y = 0) := by
  unfold cmpB
  induction x generalizing y with
  | nil => cases y <;> simp [Lib.compareBytes]
  | cons a r ih =>
    cases y with
    | nil => simp [Lib.compareBytes]
    | cons b s =>
      simp only [Lib.compareBytes]
      by_cases h : a < b
      · have h3 : a ≠ b := by intro e; subst e; rw [UInt8.lt_iff_toNat_lt] at h; omega
        simp [h, h3]
      · by_cases h2 : b < a
        · have h3 : a ≠ b := by intro e; subst e; exact h h2
          simp [h, h2, h3]
        · have h3 : a = b := by
            rw [UInt8.lt_iff_toNat_lt] at *
            exact UInt8.toNat_inj.1 (by omega)
          subst h3
          have := ih s
          simp [h]
          simpa using this
theorem bytesLess_iff (x y : List UInt8) : Op.bytesLess x y = decide (cmpB x y < 0) ∧ Op.bytesLess y x = decide (0 < cmpB x y) := by
  unfold cmpB
  induction x generalizing y with
  | nil => cases y <;> simp [Op.bytesLess, Lib.compareBytes]
  | cons a r ih =>
    cases y with
    | nil => simp [Op.bytesLess, Lib.compareBytes]
    | cons b s =>
      simp only [Op.bytesLess, Lib.compareBytes]
      by_cases h : a < b
      · have h2 : ¬ b < a := by rw [UInt8.lt_iff_toNat_lt] at *; omega
        have h3 : a ≠ b := by intro e; subst e; rw [UInt8.lt_iff_toNat_lt] at h; omega
        have h4 : b ≠ a := fun e => h3 e.symm
        simp [h, h2, h3, h4]
      · by_cases h2 : b < a
        · have h3 : a ≠ b := by intro e; subst e; exact h h2
          have h4 : b ≠ a := fun e => h3 e.symm
          simp [h, h2, h3, h4]
        · have h3 : a = b := by
            rw [UInt8.lt_iff_toNat_lt] at *
            exact UInt8.toNat_inj.1 (by omega)
          subst h3
          simp [h, ih s]

theorem xor_top (m : Nat) (h : m < 2 ^ 63) : m ^^^ 2 ^ 63 = 2 ^ 63 + m := by
  apply Nat.eq_of_testBit_eq
  intro j
  rw [Nat.testBit_xor, Nat.testBit_two_pow]
  rcases Nat.lt_trichotomy j 63 with hj | hj | hj
  · rw [Nat.testBit_two_pow_add_gt hj]
    have h63 : ¬ 63 = j := by omega
    simp [h63]
  · subst hj
    rw [Nat.testBit_two_pow_add_eq]
    simp
  · have h1 : (2 : Nat) ^ 64 ≤ 2 ^ j := Nat.pow_le_pow_right (by decide) (by omega)
    rw [Nat.testBit_lt_two_pow (x := m) (by omega), Nat.testBit_lt_two_pow (x := 2 ^ 63 + m) (by omega)]
    have h63 : ¬ 63 = j := by omega
    simp [h63]
/-- The highest bit turned: the order of signed numbers. -/
theorem xor_sign (n : Int) (h0 : 0 ≤ n) (h1 : n < two64) : bits BinOp.xor IntKind.u64 n 9223372036854775808 = s64 n + 9223372036854775808 := by
  unfold two64 at h1
  obtain ⟨m, rfl⟩ := Int.eq_ofNat_of_zero_le h0
  have e : (9223372036854775808 : Int) = ((2 ^ 63 : Nat) : Int) := by decide
  rw [e, bits_xor_u64_nat m (2 ^ 63) (by omega) (by decide)]
  by_cases hm : m < 2 ^ 63
  · rw [xor_top m hm]
    unfold s64 two64
    rw [if_neg (by omega)]
    omega
  · obtain ⟨k, rfl⟩ : ∃ k, m = 2 ^ 63 + k := ⟨m - 2 ^ 63, by omega⟩
    rw [← xor_top k (by omega), Nat.xor_assoc, Nat.xor_self, Nat.xor_zero]
    rw [xor_top k (by omega)]
    unfold s64 two64
    rw [if_pos (by omega)]
    omega
theorem conv_s64 (n : Int) (h0 : 0 ≤ n) (h1 : n < two64) : wrap64 n = s64 n := by
  unfold two64 at h1
  unfold wrap64 s64 two64
  split <;> omega
theorem s64_range (n : Int) (h0 : 0 ≤ n) (h1 : n < two64) : -9223372036854775808 ≤ s64 n ∧ s64 n ≤ 9223372036854775807 := by
  unfold two64 at h1
  unfold s64 two64
  split <;> omega
def OrdP (r : Int × Int) (w : World) (e : Ending) (w' : World) : Prop := e = .returned (.tuple #[.int .i64 r.1, .int .i64 r.2]) ∧ Frm (fun _ => False) w w'

set_option maxRecDepth 100000 in
set_option maxHeartbeats 4000000 in
theorem tyOrd_any (a b : Va) (w : World) (ha : a.ok) (hb : b.ok) : Calls Tryz.prog 117 #[valV a, valV b] w (OrdP (orderV a b) w) := by
  have HA := Lib.hid (fun W => tyChk_any a W ha)
  have HB := Lib.hid (fun W => tyChk_any b W hb)
  have HO : Hid (orderV a b = if checkV a ≠ 0 then (0, checkV a) else if checkV b ≠ 0 then (0, checkV b) else if a.ty ≠ b.ty then (0, 1)
    else if sizeT a.ty = 0 then (cmpB a.b b.b, 0) else if sgnT a.ty = true then (cmpI (s64 a.n) (s64 b.n), 0) else (cmpI a.n b.n, 0)) := rfl
  obtain ⟨t, n, x⟩ := a
  obtain ⟨t', n', x'⟩ := b
  have HOF := Lib.hid (fun W => tyOf_any t W)
  have hc1 := conv_s64 n ha.1 ha.2.1
  have hc2 := conv_s64 n' hb.1 hb.2.1
  have HS : Hid (∀ W, Calls Tryz.prog 125 #[.string (strB2 x), .string (strB2 x')] W fun e w' => e = .returned (.int .i64 (cmpB x x')) ∧ w' = W) := fun W => Tryz.strings_Compare (strB2 x) (strB2 x') W
  have HC1 := Lib.hid (fun W => cmpI64_any (s64 n) (s64 n') W)
  have HC2 := Lib.hid (fun W => cmpU64_any n n' W)
  clear ha hb
  unfold valV kindV OrdP at *
  simp only at *
  generalize orderV ⟨t, n, x⟩ ⟨t', n', x'⟩ = r at *
  generalize checkV ⟨t, n, x⟩ = ca at *
  generalize checkV ⟨t', n', x'⟩ = cb at *
  generalize sizeT t = sz at *
  generalize sgnT t = sg at *
  generalize isT t = is at *
  generalize s64 n = sn at *
  generalize s64 n' = sn' at *
  generalize cmpB x x' = cx at *
  generalize cmpI sn sn' = cs at *
  generalize cmpI n n' = cn at *
  generalize strB2 x = sx at *
  generalize strB2 x' = sx' at *
  go_enter Tryz.func117, Tryz.ntmps117
  go_wp2_with fail
  have hbx : ∀ W, Frm (fun _ => False) (((w.alloc (.cells #[.int .i64 t, .int .u64 n, .string sx] 57)).alloc (.cells #[.int .i64 t', .int .u64 n', .string sx'] 57)).alloc (.cells #[.int .i64 t, .int .u64 n, .string sx, .int .i64 t', .int .u64 n', .string sx'] 57)) W → W.heap[w.heap.size]? = some (.cells #[.int .i64 t, .int .u64 n, .string sx] 57 (0, 0)) ∧ W.heap[w.heap.size + 1]? = some (.cells #[.int .i64 t', .int .u64 n', .string sx'] 57 (0, 0)) ∧ W.heap[w.heap.size + 2]? = some (.cells #[.int .i64 t, .int .u64 n, .string sx, .int .i64 t', .int .u64 n', .string sx'] 57 (0, 0)) ∧ Frm (fun _ => False) w W := fun W hF =>
    ⟨hF.heap (heap_alloc_old (heap_alloc_old (heap_new _ _))) (fun h => h), hF.heap (heap_alloc_old (heap_new_at (by simp))) (fun h => h), hF.heap (heap_new_at (by simp)) (fun h => h), Frm.trans' (b := _) (by (repeat' (first | (with_reducible exact Frm.refl _ _) | (with_reducible assumption) | (with_reducible refine Frm.alloc ?_ _) | (with_reducible refine Frm.drew ?_) | (with_reducible refine Frm.drewN ?_ _) | (with_reducible refine Frm.set1 ?_ _) | (with_reducible refine Frm.setCell ?_ ?_ _) | (exact fun h => absurd h (Nat.lt_irrefl _)) | (intro hlt; simp [World.size_alloc, One] at hlt ⊢; omega)))) hF⟩
  have HBX := Lib.hid hbx
  clear hbx
  go_loopw [14] (fun i wr => ∃ k : Nat, k ≤ 2 ∧ i = .int .i64 k ∧ Frm (fun _ => False) (((w.alloc (.cells #[.int .i64 t, .int .u64 n, .string sx] 57)).alloc (.cells #[.int .i64 t', .int .u64 n', .string sx'] 57)).alloc (.cells #[.int .i64 t, .int .u64 n, .string sx, .int .i64 t', .int .u64 n', .string sx'] 57)) wr ∧ (1 ≤ k → ca = 0) ∧ (2 ≤ k → cb = 0)) (fun i _ => 2 - (intOf i).toNat)
  case atStart => exact ⟨0, by omega, rfl, Frm.refl _ _, fun h => by omega, fun h => by omega⟩
  case round =>
    obtain ⟨k, hk, rfl, hFr, hca, hcb⟩ := hrel
    have HFR := Lib.hid hFr
    have HCA := Lib.hid hca
    have HCB := Lib.hid hcb
    obtain ⟨k0, k1, k2, hF⟩ := HBX.out wr hFr
    have HF := Lib.hid hF
    clear hFr hca hcb hF
    have hk3 : k = 0 ∨ k = 1 ∨ k = 2 := by omega
    rcases hk3 with rfl | rfl | rfl
    · have c0 : wr.cell? ⟨w.heap.size + 2, 0, none⟩ = some (.int .i64 t) := cell_at k2
      have c1 : wr.cell? ⟨w.heap.size + 2, 1, none⟩ = some (.int .u64 n) := cell_at k2
      have c2 : wr.cell? ⟨w.heap.size + 2, 2, none⟩ = some (.string sx) := cell_at k2
      clear k0 k1 k2
      go_wp2_with fail
      refine (HA.out _).mono ?_
      rintro e w1 ⟨rfl, hF1⟩
      have hF1' : Frm (fun _ => False) wr w1 := Frm.trans' (b := _) (by (repeat' (first | (with_reducible exact Frm.refl _ _) | (with_reducible assumption) | (with_reducible refine Frm.alloc ?_ _) | (with_reducible refine Frm.drew ?_) | (with_reducible refine Frm.drewN ?_ _) | (with_reducible refine Frm.set1 ?_ _) | (with_reducible refine Frm.setCell ?_ ?_ _) | (exact fun h => absurd h (Nat.lt_irrefl _)) | (intro hlt; simp [World.size_alloc, One] at hlt ⊢; omega)))) hF1
      have HF1 := Lib.hid hF1'
      clear hF1 hF1' c0 c1 c2
      by_cases hc : ca = 0
      · subst hc
        go_wp2_with fail
        go_roundw
        case rel => exact ⟨1, by omega, by go_num, HFR.out.trans' HF1.out, by simp, by simp⟩
        case measure => simp [intOf]
      · have E : Hid (r = (0, ca)) := by unfold Hid; rw [HO.out, if_pos hc]
        have bc : (ca != 0) = true := by simpa using hc
        clear HO hc
        go_wp2_with fail
        go_ret2
        exact ⟨by rw [E.out]; rfl, HF.out.trans' HF1.out⟩
    · have c0 : wr.cell? ⟨w.heap.size + 2, 3, none⟩ = some (.int .i64 t') := cell_at k2
      have c1 : wr.cell? ⟨w.heap.size + 2, 4, none⟩ = some (.int .u64 n') := cell_at k2
      have c2 : wr.cell? ⟨w.heap.size + 2, 5, none⟩ = some (.string sx') := cell_at k2
      clear k0 k1 k2
      go_wp2_with fail
      refine (HB.out _).mono ?_
      rintro e w1 ⟨rfl, hF1⟩
      have hF1' : Frm (fun _ => False) wr w1 := Frm.trans' (b := _) (by (repeat' (first | (with_reducible exact Frm.refl _ _) | (with_reducible assumption) | (with_reducible refine Frm.alloc ?_ _) | (with_reducible refine Frm.drew ?_) | (with_reducible refine Frm.drewN ?_ _) | (with_reducible refine Frm.set1 ?_ _) | (with_reducible refine Frm.setCell ?_ ?_ _) | (exact fun h => absurd h (Nat.lt_irrefl _)) | (intro hlt; simp [World.size_alloc, One] at hlt ⊢; omega)))) hF1
      have HF1 := Lib.hid hF1'
      clear hF1 hF1' c0 c1 c2
      by_cases hc : cb = 0
      · subst hc
        go_wp2_with fail
        go_roundw
        case rel => exact ⟨2, by omega, by go_num, HFR.out.trans' HF1.out, fun _ => HCA.out (by omega), by simp⟩
        case measure => simp [intOf]
      · have E : Hid (r = (0, cb)) := by unfold Hid; rw [HO.out, if_neg (by simpa using HCA.out (by omega)), if_pos hc]
        have bc : (cb != 0) = true := by simpa using hc
        clear HO hc
        go_wp2_with fail
        go_ret2
        exact ⟨by rw [E.out]; rfl, HF.out.trans' HF1.out⟩
    · have hO : Hid (r = if t ≠ t' then (0, 1) else if sz = 0 then (cx, 0) else if sg = true then (cs, 0) else (cn, 0)) := by
        unfold Hid
        rw [HO.out, if_neg (by simpa using HCA.out (by omega)), if_neg (by simpa using HCB.out (by omega))]
      have a0 : wr.cell? ⟨w.heap.size, 0, none⟩ = some (.int .i64 t) := cell_at k0
      have a1 : wr.cell? ⟨w.heap.size, 1, none⟩ = some (.int .u64 n) := cell_at k0
      have a2 : wr.cell? ⟨w.heap.size, 2, none⟩ = some (.string sx) := cell_at k0
      have b0 : wr.cell? ⟨w.heap.size + 1, 0, none⟩ = some (.int .i64 t') := cell_at k1
      have K0 := Lib.hid k0
      have K1 := Lib.hid k1
      clear k0 k1 k2 HO HCA HCB HFR HBX
      by_cases ht : t = t'
      · subst ht
        have hO : Hid (r = if sz = 0 then (cx, 0) else if sg = true then (cs, 0) else (cn, 0)) := by
          unfold Hid
          rw [hO.out, if_neg (by simp)]
        go_wp2_with fail
        refine (HOF.out _).mono ?_
        rintro e w1 ⟨rfl, hF1⟩
        have k0 := hF1.heap K0.out (fun h => h)
        have k1 := hF1.heap K1.out (fun h => h)
        have HF1 := Lib.hid (HF.out.trans' hF1)
        have d1 : w1.cell? ⟨w.heap.size, 1, none⟩ = some (.int .u64 n) := cell_at k0
        have d2 : w1.cell? ⟨w.heap.size, 2, none⟩ = some (.string sx) := cell_at k0
        have e1 : w1.cell? ⟨w.heap.size + 1, 1, none⟩ = some (.int .u64 n') := cell_at k1
        have e2 : w1.cell? ⟨w.heap.size + 1, 2, none⟩ = some (.string sx') := cell_at k1
        have l1 := lt_of_block k0
        have l2 := lt_of_block k1
        clear hF1 k0 k1 a0 a1 a2 b0
        by_cases hz : sz = 0
        · subst hz
          have E : Hid (r = (cx, 0)) := by unfold Hid; rw [hO.out, if_pos rfl]
          clear hO
          go_wp2_with fail
          refine (HS.out _).mono ?_
          rintro e w2 ⟨rfl, rfl⟩
          go_wp2_with fail
          go_ret2
          exact ⟨by rw [E.out]; rfl, HF1.out.trans' (by (repeat' (first | (with_reducible exact Frm.refl _ _) | (with_reducible assumption) | (with_reducible refine Frm.alloc ?_ _) | (with_reducible refine Frm.drew ?_) | (with_reducible refine Frm.drewN ?_ _) | (with_reducible refine Frm.set1 ?_ _) | (with_reducible refine Frm.setCell ?_ ?_ _) | (exact fun h => absurd h (Nat.lt_irrefl _)) | (intro hlt; simp [World.size_alloc, One] at hlt ⊢; omega))))⟩
        · have bz : (sz == 0) = false := beq_eq_false_iff_ne.2 hz
          have hO : Hid (r = if sg = true then (cs, 0) else (cn, 0)) := by unfold Hid; rw [hO.out, if_neg hz]
          clear hz
          cases sg with
          | true =>
            have E : Hid (r = (cs, 0)) := by unfold Hid; rw [hO.out, if_pos rfl]
            clear hO
            go_wp2_with fail
            refine (HC1.out _).mono ?_
            rintro e w2 ⟨rfl, rfl⟩
            go_wp2_with fail
            go_ret2
            exact ⟨by rw [E.out]; rfl, HF1.out.trans' (by (repeat' (first | (with_reducible exact Frm.refl _ _) | (with_reducible assumption) | (with_reducible refine Frm.alloc ?_ _) | (with_reducible refine Frm.drew ?_) | (with_reducible refine Frm.drewN ?_ _) | (with_reducible refine Frm.set1 ?_ _) | (with_reducible refine Frm.setCell ?_ ?_ _) | (exact fun h => absurd h (Nat.lt_irrefl _)) | (intro hlt; simp [World.size_alloc, One] at hlt ⊢; omega))))⟩
          | false =>
            have E : Hid (r = (cn, 0)) := by unfold Hid; rw [hO.out, if_neg (by decide)]
            clear hO
            go_wp2_with fail
            refine (HC2.out _).mono ?_
            rintro e w2 ⟨rfl, rfl⟩
            go_wp2_with fail
            go_ret2
            exact ⟨by rw [E.out]; rfl, HF1.out.trans' (by (repeat' (first | (with_reducible exact Frm.refl _ _) | (with_reducible assumption) | (with_reducible refine Frm.alloc ?_ _) | (with_reducible refine Frm.drew ?_) | (with_reducible refine Frm.drewN ?_ _) | (with_reducible refine Frm.set1 ?_ _) | (with_reducible refine Frm.setCell ?_ ?_ _) | (exact fun h => absurd h (Nat.lt_irrefl _)) | (intro hlt; simp [World.size_alloc, One] at hlt ⊢; omega))))⟩
      · have E : Hid (r = (0, 1)) := by unfold Hid; rw [hO.out, if_pos ht]
        have bt : (t != t') = true := by simpa using ht
        clear hO ht
        go_wp2_with fail
        go_ret2
        exact ⟨by rw [E.out]; rfl, HF.out⟩

set_option maxRecDepth 100000 in
set_option maxHeartbeats 4000000 in
theorem rOrd_any (a b : Va) (w : World) (ha : a.ok) (hb : b.ok) : Calls Tryz.prog 96 #[valV a, valV b] w (OrdP (orderV a b) w) := by
  have HA := Lib.hid (fun W => rCheck_any a W ha)
  have HB := Lib.hid (fun W => rCheck_any b W hb)
  have HO : Hid (orderV a b = if checkV a ≠ 0 then (0, checkV a) else if checkV b ≠ 0 then (0, checkV b) else if a.ty ≠ b.ty then (0, 1)
    else if sizeT a.ty = 0 then (cmpB a.b b.b, 0) else if sgnT a.ty = true then (cmpI (s64 a.n) (s64 b.n), 0) else (cmpI a.n b.n, 0)) := rfl
  obtain ⟨t, n, x⟩ := a
  obtain ⟨t', n', x'⟩ := b
  have HSG := Lib.hid (fun W => rSigned_any t W)
  have HSZ := Lib.hid (fun W => rSize_any t W)
  have hx1 := Lib.hid (xor_sign n ha.1 ha.2.1)
  have hx2 := Lib.hid (xor_sign n' hb.1 hb.2.1)
  have hl := bytesLess_iff x x'
  have hB1 : Op.bytesLess (strB2 x).toList (strB2 x').toList = decide (cmpB x x' < 0) := by
    have e1 : (strB2 x).toList = x := by simp [strB2]
    have e2 : (strB2 x').toList = x' := by simp [strB2]
    rw [e1, e2]; exact hl.1
  have hB2 : ((strB2 x).toList == (strB2 x').toList) = decide (cmpB x x' = 0) := by
    have e1 : (strB2 x).toList = x := by simp [strB2]
    have e2 : (strB2 x').toList = x' := by simp [strB2]
    rw [e1, e2]; exact cmpB_eq x x'
  have hssz := @sgn_size t
  have HCX := Lib.hid (cmpB_vals x x')
  clear ha hb hl
  unfold valV OrdP at *
  simp only at *
  generalize orderV ⟨t, n, x⟩ ⟨t', n', x'⟩ = r at *
  generalize checkV ⟨t, n, x⟩ = ca at *
  generalize checkV ⟨t', n', x'⟩ = cb at *
  generalize sizeT t = sz at *
  generalize sgnT t = sg at *
  generalize s64 n = sn at *
  generalize s64 n' = sn' at *
  generalize cmpB x x' = cx at *
  generalize strB2 x = sx at *
  generalize strB2 x' = sx' at *
  have HSSZ := Lib.hid hssz
  have HB1 := Lib.hid hB1
  have HB2 := Lib.hid hB2
  clear hssz hB1 hB2
  have hbx : ∀ W, Frm (fun _ => False) ((w.alloc (.cells #[.int .i64 t, .int .u64 n, .string sx] 57)).alloc (.cells #[.int .i64 t', .int .u64 n', .string sx'] 57)) W → W.heap[w.heap.size]? = some (.cells #[.int .i64 t, .int .u64 n, .string sx] 57 (0, 0)) ∧ W.heap[w.heap.size + 1]? = some (.cells #[.int .i64 t', .int .u64 n', .string sx'] 57 (0, 0)) ∧ Frm (fun _ => False) w W := fun W hF =>
    ⟨hF.heap (heap_alloc_old (heap_new _ _)) (fun h => h), hF.heap (heap_new_at (by simp)) (fun h => h), Frm.trans' (b := _) (by (repeat' (first | (with_reducible exact Frm.refl _ _) | (with_reducible assumption) | (with_reducible refine Frm.alloc ?_ _) | (with_reducible refine Frm.drew ?_) | (with_reducible refine Frm.drewN ?_ _) | (with_reducible refine Frm.set1 ?_ _) | (with_reducible refine Frm.setCell ?_ ?_ _) | (exact fun h => absurd h (Nat.lt_irrefl _)) | (intro hlt; simp [World.size_alloc, One] at hlt ⊢; omega)))) hF⟩
  have HBX := Lib.hid hbx
  clear hbx
  go_enter Tryz.func96, Tryz.ntmps96
  go_wp2_with fail
  refine (HA.out _).mono ?_
  rintro e w1 ⟨rfl, hF1⟩
  obtain ⟨k0, k1, hF1'⟩ := HBX.out w1 hF1
  have HF1 := Lib.hid hF1'
  have HF11 := Lib.hid hF1
  have b0 : w1.cell? ⟨w.heap.size + 1, 0, none⟩ = some (.int .i64 t') := cell_at k1
  have b1 : w1.cell? ⟨w.heap.size + 1, 1, none⟩ = some (.int .u64 n') := cell_at k1
  have b2 : w1.cell? ⟨w.heap.size + 1, 2, none⟩ = some (.string sx') := cell_at k1
  have l1 := lt_of_block k1
  clear hF1 hF1' k0 k1
  by_cases hca : ca = 0
  case neg =>
    have E : Hid (r = (0, ca)) := by unfold Hid; rw [HO.out, if_pos hca]
    have bc : (ca != 0) = true := by simpa using hca
    clear HO hca
    go_wp2_with fail
    go_ret2
    exact ⟨by rw [E.out]; rfl, HF1.out⟩
  case pos =>
    rw [if_neg (by simpa using hca)] at HO
    subst hca
    go_wp2_with fail
    refine (HB.out _).mono ?_
    rintro e w2 ⟨rfl, hF2⟩
    obtain ⟨k0, k1, hF2'⟩ := HBX.out w2 (HF11.out.trans' hF2)
    have HF2 := Lib.hid hF2'
    have a0 : w2.cell? ⟨w.heap.size, 0, none⟩ = some (.int .i64 t) := cell_at k0
    have a1 : w2.cell? ⟨w.heap.size, 1, none⟩ = some (.int .u64 n) := cell_at k0
    have a2 : w2.cell? ⟨w.heap.size, 2, none⟩ = some (.string sx) := cell_at k0
    have d0 : w2.cell? ⟨w.heap.size + 1, 0, none⟩ = some (.int .i64 t') := cell_at k1
    have d1 : w2.cell? ⟨w.heap.size + 1, 1, none⟩ = some (.int .u64 n') := cell_at k1
    have d2 : w2.cell? ⟨w.heap.size + 1, 2, none⟩ = some (.string sx') := cell_at k1
    have l2 := lt_of_block k1
    clear hF2 hF2' k0 k1 b0 b1 b2 l1
    by_cases hcb : cb = 0
    case neg =>
      have E : Hid (r = (0, cb)) := by unfold Hid; rw [HO.out, if_pos hcb]
      have bc : (cb != 0) = true := by simpa using hcb
      clear HO hcb
      go_wp2_with fail
      go_ret2
      exact ⟨by rw [E.out]; rfl, HF2.out⟩
    case pos =>
      rw [if_neg (by simpa using hcb)] at HO
      subst hcb
      by_cases ht : t = t'
      case neg =>
        have E : Hid (r = (0, 1)) := by unfold Hid; rw [HO.out, if_pos ht]
        have bt : (t != t') = true := by simpa using ht
        clear HO ht
        go_wp2_with fail
        go_ret2
        exact ⟨by rw [E.out]; rfl, HF2.out⟩
      case pos =>
        rw [if_neg (by simpa using ht)] at HO
        subst ht
        go_wp2_with fail
        go_quiet (fail)
        go_wp2_with fail
        refine (HSG.out _).mono ?_
        rintro e w' ⟨rfl, rfl⟩
        cases sg with
        | true =>
          have hz := HSSZ.out rfl
          have hO : Hid (r = (cmpI sn sn', 0)) := by unfold Hid; rw [HO.out, if_neg hz, if_pos rfl]
          have bz : (sz == 0) = false := beq_eq_false_iff_ne.2 hz
          clear hz HO HB1 HB2 HSSZ
          go_wp2_with fail
          generalize bits BinOp.xor IntKind.u64 n 9223372036854775808 = q1 at *
          generalize bits BinOp.xor IntKind.u64 n' 9223372036854775808 = q2 at *
          refine (HSZ.out _).mono ?_
          rintro e w' ⟨rfl, rfl⟩
          rcases Int.lt_trichotomy q1 q2 with h | h | h
          · have hlt : q1 < q2 := h
            have E : Hid (r = (-1, 0)) := by unfold Hid; rw [hO.out]; have h1 := hx1.out; have h2 := hx2.out; unfold cmpI; rw [if_pos (by omega)]
            clear h hO
            go_wp2_with fail
            go_ret2
            exact ⟨by rw [E.out]; rfl, HF2.out.trans' (by (repeat' (first | (with_reducible exact Frm.refl _ _) | (with_reducible assumption) | (with_reducible refine Frm.alloc ?_ _) | (with_reducible refine Frm.drew ?_) | (with_reducible refine Frm.drewN ?_ _) | (with_reducible refine Frm.set1 ?_ _) | (with_reducible refine Frm.setCell ?_ ?_ _) | (exact fun h => absurd h (Nat.lt_irrefl _)) | (intro hlt; simp [World.size_alloc, One] at hlt ⊢; omega))))⟩
          · have hle1 : q1 ≤ q2 := by omega
            have hle2 : q2 ≤ q1 := by omega
            have E : Hid (r = (0, 0)) := by unfold Hid; rw [hO.out]; have h1 := hx1.out; have h2 := hx2.out; unfold cmpI; rw [if_neg (by omega), if_neg (by omega)]
            clear h hO
            go_wp2_with fail
            go_ret2
            exact ⟨by rw [E.out]; rfl, HF2.out.trans' (by (repeat' (first | (with_reducible exact Frm.refl _ _) | (with_reducible assumption) | (with_reducible refine Frm.alloc ?_ _) | (with_reducible refine Frm.drew ?_) | (with_reducible refine Frm.drewN ?_ _) | (with_reducible refine Frm.set1 ?_ _) | (with_reducible refine Frm.setCell ?_ ?_ _) | (exact fun h => absurd h (Nat.lt_irrefl _)) | (intro hlt; simp [World.size_alloc, One] at hlt ⊢; omega))))⟩
          · have hgt : q2 < q1 := h
            have hle : q2 ≤ q1 := by omega
            have E : Hid (r = (1, 0)) := by unfold Hid; rw [hO.out]; have h1 := hx1.out; have h2 := hx2.out; unfold cmpI; rw [if_neg (by omega), if_pos (by omega)]
            clear h hO
            go_wp2_with fail
            go_ret2
            exact ⟨by rw [E.out]; rfl, HF2.out.trans' (by (repeat' (first | (with_reducible exact Frm.refl _ _) | (with_reducible assumption) | (with_reducible refine Frm.alloc ?_ _) | (with_reducible refine Frm.drew ?_) | (with_reducible refine Frm.drewN ?_ _) | (with_reducible refine Frm.set1 ?_ _) | (with_reducible refine Frm.setCell ?_ ?_ _) | (exact fun h => absurd h (Nat.lt_irrefl _)) | (intro hlt; simp [World.size_alloc, One] at hlt ⊢; omega))))⟩
        | false =>
          have hO : Hid (r = if sz = 0 then (cx, 0) else (cmpI n n', 0)) := by unfold Hid; rw [HO.out]; simp
          clear HO hx1 hx2 HSSZ
          by_cases hz : sz = 0
          · subst hz
            have hO2 : Hid (r = (cx, 0)) := by unfold Hid; rw [hO.out, if_pos rfl]
            clear hO
            have hcx : cx = -1 ∨ cx = 0 ∨ cx = 1 := HCX.out
            go_wp2_with fail
            refine (HSZ.out _).mono ?_
            rintro e w' ⟨rfl, rfl⟩
            rcases hcx with rfl | rfl | rfl
            · have g1 : Op.bytesLess sx.toList sx'.toList = true := by rw [HB1.out]; decide
              have g2 : (sx.toList == sx'.toList) = false := by rw [HB2.out]; decide
              go_wp2_with fail
              go_quiet (fail)
              go_wp2_with fail
              go_ret2
              exact ⟨by rw [hO2.out]; rfl, HF2.out.trans' (by (repeat' (first | (with_reducible exact Frm.refl _ _) | (with_reducible assumption) | (with_reducible refine Frm.alloc ?_ _) | (with_reducible refine Frm.drew ?_) | (with_reducible refine Frm.drewN ?_ _) | (with_reducible refine Frm.set1 ?_ _) | (with_reducible refine Frm.setCell ?_ ?_ _) | (exact fun h => absurd h (Nat.lt_irrefl _)) | (intro hlt; simp [World.size_alloc, One] at hlt ⊢; omega))))⟩
            · have g1 : Op.bytesLess sx.toList sx'.toList = false := by rw [HB1.out]; decide
              have g2 : (sx.toList == sx'.toList) = true := by rw [HB2.out]; decide
              go_wp2_with fail
              go_quiet (fail)
              go_wp2_with fail
              go_ret2
              exact ⟨by rw [hO2.out]; rfl, HF2.out.trans' (by (repeat' (first | (with_reducible exact Frm.refl _ _) | (with_reducible assumption) | (with_reducible refine Frm.alloc ?_ _) | (with_reducible refine Frm.drew ?_) | (with_reducible refine Frm.drewN ?_ _) | (with_reducible refine Frm.set1 ?_ _) | (with_reducible refine Frm.setCell ?_ ?_ _) | (exact fun h => absurd h (Nat.lt_irrefl _)) | (intro hlt; simp [World.size_alloc, One] at hlt ⊢; omega))))⟩
            · have g1 : Op.bytesLess sx.toList sx'.toList = false := by rw [HB1.out]; decide
              have g2 : (sx.toList == sx'.toList) = false := by rw [HB2.out]; decide
              go_wp2_with fail
              go_quiet (fail)
              go_wp2_with fail
              go_ret2
              exact ⟨by rw [hO2.out]; rfl, HF2.out.trans' (by (repeat' (first | (with_reducible exact Frm.refl _ _) | (with_reducible assumption) | (with_reducible refine Frm.alloc ?_ _) | (with_reducible refine Frm.drew ?_) | (with_reducible refine Frm.drewN ?_ _) | (with_reducible refine Frm.set1 ?_ _) | (with_reducible refine Frm.setCell ?_ ?_ _) | (exact fun h => absurd h (Nat.lt_irrefl _)) | (intro hlt; simp [World.size_alloc, One] at hlt ⊢; omega))))⟩
          · have hO : Hid (r = (cmpI n n', 0)) := by unfold Hid; rw [hO.out, if_neg hz]
            have bz : (sz == 0) = false := beq_eq_false_iff_ne.2 hz
            clear hz HB1 HB2
            go_wp2_with fail
            refine (HSZ.out _).mono ?_
            rintro e w' ⟨rfl, rfl⟩
            rcases Int.lt_trichotomy n n' with h | h | h
            · have hlt : n < n' := h
              have E : Hid (r = (-1, 0)) := by unfold Hid; rw [hO.out]; unfold cmpI; rw [if_pos (by omega)]
              clear h hO
              go_wp2_with fail
              go_ret2
              exact ⟨by rw [E.out]; rfl, HF2.out.trans' (by (repeat' (first | (with_reducible exact Frm.refl _ _) | (with_reducible assumption) | (with_reducible refine Frm.alloc ?_ _) | (with_reducible refine Frm.drew ?_) | (with_reducible refine Frm.drewN ?_ _) | (with_reducible refine Frm.set1 ?_ _) | (with_reducible refine Frm.setCell ?_ ?_ _) | (exact fun h => absurd h (Nat.lt_irrefl _)) | (intro hlt; simp [World.size_alloc, One] at hlt ⊢; omega))))⟩
            · have hle1 : n ≤ n' := by omega
              have hle2 : n' ≤ n := by omega
              have E : Hid (r = (0, 0)) := by unfold Hid; rw [hO.out]; unfold cmpI; rw [if_neg (by omega), if_neg (by omega)]
              clear h hO
              go_wp2_with fail
              go_ret2
              exact ⟨by rw [E.out]; rfl, HF2.out.trans' (by (repeat' (first | (with_reducible exact Frm.refl _ _) | (with_reducible assumption) | (with_reducible refine Frm.alloc ?_ _) | (with_reducible refine Frm.drew ?_) | (with_reducible refine Frm.drewN ?_ _) | (with_reducible refine Frm.set1 ?_ _) | (with_reducible refine Frm.setCell ?_ ?_ _) | (exact fun h => absurd h (Nat.lt_irrefl _)) | (intro hlt; simp [World.size_alloc, One] at hlt ⊢; omega))))⟩
            · have hgt : n' < n := h
              have hle : n' ≤ n := by omega
              have E : Hid (r = (1, 0)) := by unfold Hid; rw [hO.out]; unfold cmpI; rw [if_neg (by omega), if_pos (by omega)]
              clear h hO
              go_wp2_with fail
              go_ret2
              exact ⟨by rw [E.out]; rfl, HF2.out.trans' (by (repeat' (first | (with_reducible exact Frm.refl _ _) | (with_reducible assumption) | (with_reducible refine Frm.alloc ?_ _) | (with_reducible refine Frm.drew ?_) | (with_reducible refine Frm.drewN ?_ _) | (with_reducible refine Frm.set1 ?_ _) | (with_reducible refine Frm.setCell ?_ ?_ _) | (exact fun h => absurd h (Nat.lt_irrefl _)) | (intro hlt; simp [World.size_alloc, One] at hlt ⊢; omega))))⟩
end Go.Proofs.YtemjdmgfilbfaaaGreat
namespace Go.Proofs.YtemjdmgfilbfaaaGreat
open Go.RowKit
set_option linter.unusedVariables false

def cellsE (x : En) : List Value := [.int .u16 x.idx, .int .u8 x.sub, .int .i64 x.acc, .bool x.mp, .bool x.lim, .int .i64 x.mn.ty, .int .u64 x.mn.n, .string (strB2 x.mn.b), .int .i64 x.mx.ty, .int .u64 x.mx.n, .string (strB2 x.mx.b), .int .i64 x.df.ty, .int .u64 x.df.n, .string (strB2 x.df.b)]
abbrev valE (x : En) : Value := .agg #[.int .u16 x.idx, .int .u8 x.sub, .int .i64 x.acc, .bool x.mp, .bool x.lim, .int .i64 x.mn.ty, .int .u64 x.mn.n, .string (strB2 x.mn.b), .int .i64 x.mx.ty, .int .u64 x.mx.n, .string (strB2 x.mx.b), .int .i64 x.df.ty, .int .u64 x.df.n, .string (strB2 x.df.b)]
theorem cellsE_len (x : En) : (cellsE x).length = 14 := rfl

theorem withinC_eq (x : En) (v : Va) : withinC x v = if (orderV v x.mn).2 ≠ 0 ∨ (orderV v x.mx).2 ≠ 0 then codeGeneral
    else if 0 < (orderV v x.mx).1 then codeHigh else if (orderV v x.mn).1 < 0 then codeLow else 0 := by
  unfold withinC withinE
  split
  · simp
  · split
    · simp
    · split <;> simp

set_option maxRecDepth 100000 in
set_option maxHeartbeats 2000000 in
theorem odWithin_any (x : En) (v : Va) (w : World) (hx : x.ok) (hv : v.ok) : Calls Tryz.prog 94 #[valE x, valV v] w fun e w' => e = .returned (.int .u32 (withinC x v)) ∧ Frm (fun _ => False) w w' := by
  have H1 := Lib.hid (fun W => tyOrd_any v x.mn W hv hx.2.2.2.2.1)
  have H2 := Lib.hid (fun W => tyOrd_any v x.mx W hv hx.2.2.2.2.2.1)
  have HW := Lib.hid (withinC_eq x v)
  unfold OrdP at H1 H2
  generalize withinC x v = r at *
  generalize orderV v x.mn = lo at *
  generalize orderV v x.mx = hi at *
  obtain ⟨l1, l2⟩ := lo
  obtain ⟨h1, h2⟩ := hi
  obtain ⟨vt, vn, vb⟩ := v
  obtain ⟨i, s, ac, mp, lm, ⟨at', an, ab⟩, ⟨bt, bn, bb⟩, ⟨dt, dn, db⟩⟩ := x
  unfold valV at H1 H2 ⊢
  unfold valE
  clear hx hv
  simp only at *
  generalize strB2 vb = vb at *
  generalize strB2 ab = ab at *
  generalize strB2 bb = bb at *
  generalize strB2 db = db at *
  go_enter Tryz.func94, Tryz.ntmps94
  go_wp2_with fail
  refine (H1.out _).mono ?_
  rintro e w1 ⟨rfl, hF1⟩
  have k0 := hF1.heap (heap_alloc_old (heap_new _ _)) (fun h => h)
  have k1 := hF1.heap (heap_new_at (k := w.heap.size + 1) (by simp)) (fun h => h)
  have c0 : w1.cell? ⟨w.heap.size + 1, 0, none⟩ = some (.int .i64 vt) := cell_at k1
  have c1 : w1.cell? ⟨w.heap.size + 1, 1, none⟩ = some (.int .u64 vn) := cell_at k1
  have c2 : w1.cell? ⟨w.heap.size + 1, 2, none⟩ = some (.string vb) := cell_at k1
  have d8 : w1.cell? ⟨w.heap.size, 8, none⟩ = some (.int .i64 bt) := cell_at k0
  have d9 : w1.cell? ⟨w.heap.size, 9, none⟩ = some (.int .u64 bn) := cell_at k0
  have d10 : w1.cell? ⟨w.heap.size, 10, none⟩ = some (.string bb) := cell_at k0
  have l0 := lt_of_block k1
  have HF1 : Hid (Frm (fun _ => False) w w1) := Frm.trans' (b := _) (by (repeat' (first | (with_reducible exact Frm.refl _ _) | (with_reducible assumption) | (with_reducible refine Frm.alloc ?_ _) | (with_reducible refine Frm.drew ?_) | (with_reducible refine Frm.drewN ?_ _) | (with_reducible refine Frm.set1 ?_ _) | (with_reducible refine Frm.setCell ?_ ?_ _) | (exact fun h => absurd h (Nat.lt_irrefl _)) | (intro hlt; simp [World.size_alloc, One] at hlt ⊢; omega)))) hF1
  clear hF1 k0 k1
  go_wp2_with fail
  refine (H2.out _).mono ?_
  rintro e w2 ⟨rfl, hF2⟩
  have HF2 := Lib.hid (HF1.out.trans' hF2)
  clear hF2 c0 c1 c2 d8 d9 d10 l0
  by_cases e1 : l2 = 0
  case neg =>
    have E : Hid (r = codeGeneral) := by unfold Hid; rw [HW.out, if_pos (Or.inl e1)]
    have b1 : (l2 != 0) = true := by simpa using e1
    clear HW e1
    go_wp2_with fail
    go_ret
    exact ⟨by rw [E.out]; rfl, HF2.out⟩
  case pos =>
    subst e1
    by_cases e2 : h2 = 0
    case neg =>
      have E : Hid (r = codeGeneral) := by unfold Hid; rw [HW.out, if_pos (Or.inr e2)]
      have b1 : (h2 != 0) = true := by simpa using e2
      clear HW e2
      go_wp2_with fail
      go_ret
      exact ⟨by rw [E.out]; rfl, HF2.out⟩
    case pos =>
      subst e2
      have HW2 : Hid (r = if 0 < h1 then codeHigh else if l1 < 0 then codeLow else 0) := by unfold Hid; rw [HW.out, if_neg (by simp)]
      clear HW
      by_cases e3 : 0 < h1
      · have E : Hid (r = codeHigh) := by unfold Hid; rw [HW2.out, if_pos e3]
        clear HW2
        go_wp2_with fail
        go_ret
        exact ⟨by rw [E.out]; rfl, HF2.out⟩
      · have e3' : h1 ≤ 0 := by omega
        by_cases e4 : l1 < 0
        · have E : Hid (r = codeLow) := by unfold Hid; rw [HW2.out, if_neg e3, if_pos e4]
          clear HW2 e3
          go_wp2_with fail
          go_ret
          exact ⟨by rw [E.out]; rfl, HF2.out⟩
        · have e4' : 0 ≤ l1 := by omega
          have E : Hid (r = 0) := by unfold Hid; rw [HW2.out, if_neg e3, if_neg e4]
          clear HW2 e3 e4
          go_wp2_with fail
          go_ret
          exact ⟨by rw [E.out]; rfl, HF2.out⟩
set_option maxRecDepth 100000 in
set_option maxHeartbeats 2000000 in
theorem rWithin_any (x : En) (v : Va) (w : World) (hx : x.ok) (hv : v.ok) : Calls Tryz.prog 68 #[valE x, valV v] w fun e w' => e = .returned (.tuple #[.int .u32 (withinE x v).1, .bool (withinE x v).2]) ∧ Frm (fun _ => False) w w' := by
  have H1 := Lib.hid (fun W => rOrd_any v x.mn W hv hx.2.2.2.2.1)
  have H2 := Lib.hid (fun W => rOrd_any v x.mx W hv hx.2.2.2.2.2.1)
  have HW : Hid (withinE x v = if (orderV v x.mn).2 ≠ 0 ∨ (orderV v x.mx).2 ≠ 0 then (0, false) else if 0 < (orderV v x.mx).1 then (codeHigh, true) else if (orderV v x.mn).1 < 0 then (codeLow, true) else (0, true)) := rfl
  unfold OrdP at H1 H2
  generalize withinE x v = r at *
  generalize orderV v x.mn = lo at *
  generalize orderV v x.mx = hi at *
  obtain ⟨l1, l2⟩ := lo
  obtain ⟨h1, h2⟩ := hi
  obtain ⟨vt, vn, vb⟩ := v
  obtain ⟨i, s, ac, mp, lm, ⟨at', an, ab⟩, ⟨bt, bn, bb⟩, ⟨dt, dn, db⟩⟩ := x
  unfold valV at H1 H2 ⊢
  unfold valE
  clear hx hv
  simp only at *
  generalize strB2 vb = vb at *
  generalize strB2 ab = ab at *
  generalize strB2 bb = bb at *
  generalize strB2 db = db at *
  go_enter Tryz.func68, Tryz.ntmps68
  go_wp2_with fail
  refine (H1.out _).mono ?_
  rintro e w1 ⟨rfl, hF1⟩
  have k0 := hF1.heap (heap_alloc_old (heap_new _ _)) (fun h => h)
  have k1 := hF1.heap (heap_new_at (k := w.heap.size + 1) (by simp)) (fun h => h)
  have c0 : w1.cell? ⟨w.heap.size + 1, 0, none⟩ = some (.int .i64 vt) := cell_at k1
  have c1 : w1.cell? ⟨w.heap.size + 1, 1, none⟩ = some (.int .u64 vn) := cell_at k1
  have c2 : w1.cell? ⟨w.heap.size + 1, 2, none⟩ = some (.string vb) := cell_at k1
  have d8 : w1.cell? ⟨w.heap.size, 8, none⟩ = some (.int .i64 bt) := cell_at k0
  have d9 : w1.cell? ⟨w.heap.size, 9, none⟩ = some (.int .u64 bn) := cell_at k0
  have d10 : w1.cell? ⟨w.heap.size, 10, none⟩ = some (.string bb) := cell_at k0
  have l0 := lt_of_block k1
  have HF1 : Hid (Frm (fun _ => False) w w1) := Frm.trans' (b := _) (by (repeat' (first | (with_reducible exact Frm.refl _ _) | (with_reducible assumption) | (with_reducible refine Frm.alloc ?_ _) | (with_reducible refine Frm.drew ?_) | (with_reducible refine Frm.drewN ?_ _) | (with_reducible refine Frm.set1 ?_ _) | (with_reducible refine Frm.setCell ?_ ?_ _) | (exact fun h => absurd h (Nat.lt_irrefl _)) | (intro hlt; simp [World.size_alloc, One] at hlt ⊢; omega)))) hF1
  clear hF1 k0 k1
  go_wp2_with fail
  refine (H2.out _).mono ?_
  rintro e w2 ⟨rfl, hF2⟩
  have HF2 := Lib.hid (HF1.out.trans' hF2)
  clear hF2 c0 c1 c2 d8 d9 d10 l0
  by_cases e1 : l2 = 0
  case neg =>
    have E : Hid (r = (0, false)) := by unfold Hid; rw [HW.out, if_pos (Or.inl e1)]
    have b1 : (l2 != 0) = true := by simpa using e1
    clear HW e1
    go_wp2_with fail
    go_ret2
    exact ⟨by rw [E.out]; rfl, HF2.out⟩
  case pos =>
    subst e1
    by_cases e2 : h2 = 0
    case neg =>
      have E : Hid (r = (0, false)) := by unfold Hid; rw [HW.out, if_pos (Or.inr e2)]
      have b1 : (h2 != 0) = true := by simpa using e2
      clear HW e2
      go_wp2_with fail
      go_ret2
      exact ⟨by rw [E.out]; rfl, HF2.out⟩
    case pos =>
      subst e2
      have HW2 : Hid (r = if 0 < h1 then (codeHigh, true) else if l1 < 0 then (codeLow, true) else (0, true)) := by unfold Hid; rw [HW.out, if_neg (by simp)]
      clear HW
      by_cases e3 : 0 < h1
      · have E : Hid (r = (codeHigh, true)) := by unfold Hid; rw [HW2.out, if_pos e3]
        clear HW2
        go_wp2_with fail
        go_ret2
        exact ⟨by rw [E.out]; rfl, HF2.out⟩
      · have e3' : h1 ≤ 0 := by omega
        by_cases e4 : l1 < 0
        · have E : Hid (r = (codeLow, true)) := by unfold Hid; rw [HW2.out, if_neg e3, if_pos e4]
          clear HW2 e3
          go_wp2_with fail
          go_ret2
          exact ⟨by rw [E.out]; rfl, HF2.out⟩
        · have e4' : 0 ≤ l1 := by omega
          have E : Hid (r = (0, true)) := by unfold Hid; rw [HW2.out, if_neg e3, if_neg e4]
          clear HW2 e3 e4
          go_wp2_with fail
          go_ret2
          exact ⟨by rw [E.out]; rfl, HF2.out⟩
end Go.Proofs.YtemjdmgfilbfaaaGreat
namespace Go.Proofs.YtemjdmgfilbfaaaGreat
open Go.RowKit
set_option linter.unusedVariables false

theorem within_zero (x : En) (v : Va) : withinC x v = 0 ↔ withinE x v = (0, true) := by
  unfold withinC withinE
  split
  · simp [codeGeneral]
  · split
    · simp [codeHigh]
    · split
      · simp [codeLow]
      · simp
theorem entryE_eq (x : En) : entryE x = if checkV x.df ≠ 0 then checkV x.df
    else if x.acc < 0 ∨ 3 < x.acc then 1 else if x.mp = true ∧ numE x = false then 1 else if x.lim = true ∧ (numE x && decide (withinC x x.df = 0)) = false then 1 else 0 := by
  unfold entryE
  have hb : ((numE x && decide (withinC x x.df = 0)) = false) ↔ ¬ (numE x = true ∧ withinE x x.df = (0, true)) := by
    rw [← within_zero]
    cases numE x <;> simp
  simp only [hb]
  by_cases h1 : checkV x.df ≠ 0
  · rw [if_pos h1, if_pos h1]
  · rw [if_neg h1, if_neg h1]
    by_cases h2 : x.acc < 0 ∨ 3 < x.acc
    · rw [if_pos h2, if_pos (by rcases h2 with h | h; exact .inl h; exact .inr (.inl h))]
    · rw [if_neg h2]
      by_cases h3 : x.mp = true ∧ numE x = false
      · rw [if_pos h3, if_pos (.inr (.inr (.inl h3)))]
      · rw [if_neg h3]
        by_cases h4 : x.lim = true ∧ ¬ (numE x = true ∧ withinE x x.df = (0, true))
        · rw [if_pos h4, if_pos (.inr (.inr (.inr h4)))]
        · rw [if_neg h4, if_neg]
          rintro (h | h | h | h)
          · exact h2 (.inl h)
          · exact h2 (.inr h)
          · exact h3 h
          · exact h4 h

set_option maxRecDepth 100000 in
set_option maxHeartbeats 2000000 in
theorem odLimits_any (x : En) (num : Bool) (w : World) (hx : x.ok) : Calls Tryz.prog 104 #[valE x, .bool num] w fun e w' => e = .returned (.bool (num && decide (withinC x x.df = 0))) ∧ Frm (fun _ => False) w w' := by
  have H := Lib.hid (fun W => odWithin_any x x.df W hx hx.2.2.2.2.2.2)
  generalize withinC x x.df = r at *
  obtain ⟨i, s, ac, mp, lm, ⟨at', an, ab⟩, ⟨bt, bn, bb⟩, ⟨dt, dn, db⟩⟩ := x
  unfold valE valV at *
  clear hx
  simp only at *
  generalize strB2 ab = ab at *
  generalize strB2 bb = bb at *
  generalize strB2 db = db at *
  cases num with
  | false =>
    go_enter Tryz.func104, Tryz.ntmps104
    go_wp2_with fail
    go_ret
    exact ⟨rfl, by (repeat' (first | (with_reducible exact Frm.refl _ _) | (with_reducible assumption) | (with_reducible refine Frm.alloc ?_ _) | (with_reducible refine Frm.drew ?_) | (with_reducible refine Frm.drewN ?_ _) | (with_reducible refine Frm.set1 ?_ _) | (with_reducible refine Frm.setCell ?_ ?_ _) | (exact fun h => absurd h (Nat.lt_irrefl _)) | (intro hlt; simp [World.size_alloc, One] at hlt ⊢; omega)))⟩
  | true =>
    by_cases hr : r = 0
    · subst hr
      go_enter Tryz.func104, Tryz.ntmps104
      go_wp2_with fail
      refine (H.out _).mono ?_
      rintro e w1 ⟨rfl, hF1⟩
      have HF1 : Hid (Frm (fun _ => False) w w1) := Frm.trans' (b := _) (by (repeat' (first | (with_reducible exact Frm.refl _ _) | (with_reducible assumption) | (with_reducible refine Frm.alloc ?_ _) | (with_reducible refine Frm.drew ?_) | (with_reducible refine Frm.drewN ?_ _) | (with_reducible refine Frm.set1 ?_ _) | (with_reducible refine Frm.setCell ?_ ?_ _) | (exact fun h => absurd h (Nat.lt_irrefl _)) | (intro hlt; simp [World.size_alloc, One] at hlt ⊢; omega)))) hF1
      clear hF1
      go_wp2_with fail
      go_ret
      exact ⟨rfl, HF1.out⟩
    · have b1 : (r == 0) = false := beq_eq_false_iff_ne.2 hr
      have E : Hid (decide (r = 0) = false) := by unfold Hid; simpa using hr
      clear hr
      go_enter Tryz.func104, Tryz.ntmps104
      go_wp2_with fail
      refine (H.out _).mono ?_
      rintro e w1 ⟨rfl, hF1⟩
      have HF1 : Hid (Frm (fun _ => False) w w1) := Frm.trans' (b := _) (by (repeat' (first | (with_reducible exact Frm.refl _ _) | (with_reducible assumption) | (with_reducible refine Frm.alloc ?_ _) | (with_reducible refine Frm.drew ?_) | (with_reducible refine Frm.drewN ?_ _) | (with_reducible refine Frm.set1 ?_ _) | (with_reducible refine Frm.setCell ?_ ?_ _) | (exact fun h => absurd h (Nat.lt_irrefl _)) | (intro hlt; simp [World.size_alloc, One] at hlt ⊢; omega)))) hF1
      clear hF1
      go_wp2_with fail
      go_ret
      exact ⟨by rw [E.out]; rfl, HF1.out⟩

set_option maxHeartbeats 1000000 in
theorem tyCheck_any (v : Va) (w : World) (hv : v.ok) : Calls Tryz.prog 103 #[valV v] w fun e w' => e = .returned (.int .i64 (checkV v)) ∧ Frm (fun _ => False) w w' := by
  have H := Lib.hid (fun W => tyChk_any v W hv)
  unfold valV at *
  generalize checkV v = r at *
  go_enter Tryz.func103, Tryz.ntmps103
  go_wp2_with fail
  refine (H.out _).mono ?_
  rintro e w1 ⟨rfl, hF1⟩
  have HF1 : Hid (Frm (fun _ => False) w w1) := Frm.trans' (b := _) (by (repeat' (first | (with_reducible exact Frm.refl _ _) | (with_reducible assumption) | (with_reducible refine Frm.alloc ?_ _) | (with_reducible refine Frm.drew ?_) | (with_reducible refine Frm.drewN ?_ _) | (with_reducible refine Frm.set1 ?_ _) | (with_reducible refine Frm.setCell ?_ ?_ _) | (exact fun h => absurd h (Nat.lt_irrefl _)) | (intro hlt; simp [World.size_alloc, One] at hlt ⊢; omega)))) hF1
  clear hF1
  go_wp2_with fail
  go_ret
  exact ⟨rfl, HF1.out⟩


set_option maxRecDepth 100000 in
set_option maxHeartbeats 4000000 in
theorem odEntry_any (x : En) (w : World) (hx : x.ok) : Calls Tryz.prog 82 #[valE x] w fun e w' => e = .returned (.int .i64 (entryE x)) ∧ Frm (fun _ => False) w w' := by
  have HE := Lib.hid (entryE_eq x)
  have HC := Lib.hid (fun W => tyCheck_any x.df W hx.2.2.2.2.2.2)
  have HSZ := Lib.hid (fun W => tySize_any x.df.ty W)
  have HL := Lib.hid (fun n W => odLimits_any x n W hx)
  unfold numE at HE
  generalize entryE x = r at *
  generalize checkV x.df = ck at *
  generalize decide (withinC x x.df = 0) = wc at *
  obtain ⟨i, s, ac, mp, lm, ⟨at', an, ab⟩, ⟨bt, bn, bb⟩, ⟨dt, dn, db⟩⟩ := x
  clear hx
  unfold valE valV at *
  simp only at *
  generalize decide (sizeT dt ≠ 0) = num at *
  generalize sizeT dt = sz at *
  generalize strB2 ab = ab at *
  generalize strB2 bb = bb at *
  generalize strB2 db = db at *
  have hbx : ∀ W, Frm (fun _ => False) (w.alloc (.cells #[.int .u16 i, .int .u8 s, .int .i64 ac, .bool mp, .bool lm, .int .i64 at', .int .u64 an, .string ab, .int .i64 bt, .int .u64 bn, .string bb, .int .i64 dt, .int .u64 dn, .string db] 59)) W →
      W.heap[w.heap.size]? = some (.cells #[.int .u16 i, .int .u8 s, .int .i64 ac, .bool mp, .bool lm, .int .i64 at', .int .u64 an, .string ab, .int .i64 bt, .int .u64 bn, .string bb, .int .i64 dt, .int .u64 dn, .string db] 59 (0, 0)) ∧ Frm (fun _ => False) w W := fun W hF => ⟨hF.heap (heap_new _ _) (fun h => h), Frm.trans' (b := _) (by (repeat' (first | (with_reducible exact Frm.refl _ _) | (with_reducible assumption) | (with_reducible refine Frm.alloc ?_ _) | (with_reducible refine Frm.drew ?_) | (with_reducible refine Frm.drewN ?_ _) | (with_reducible refine Frm.set1 ?_ _) | (with_reducible refine Frm.setCell ?_ ?_ _) | (exact fun h => absurd h (Nat.lt_irrefl _)) | (intro hlt; simp [World.size_alloc, One] at hlt ⊢; omega)))) hF⟩
  have HBX := Lib.hid hbx
  clear hbx
  go_enter Tryz.func82, Tryz.ntmps82
  go_wp2_with fail
  refine (HC.out _).mono ?_
  rintro e w1 ⟨rfl, hF1⟩
  obtain ⟨k, hF1'⟩ := HBX.out w1 hF1
  have HF1 := Lib.hid hF1
  have HW1 := Lib.hid hF1'
  have c0 : w1.cell? ⟨w.heap.size, 0, none⟩ = some (.int .u16 i) := cell_at k
  have c1 : w1.cell? ⟨w.heap.size, 1, none⟩ = some (.int .u8 s) := cell_at k
  have c2 : w1.cell? ⟨w.heap.size, 2, none⟩ = some (.int .i64 ac) := cell_at k
  have c3 : w1.cell? ⟨w.heap.size, 3, none⟩ = some (.bool mp) := cell_at k
  have c4 : w1.cell? ⟨w.heap.size, 4, none⟩ = some (.bool lm) := cell_at k
  have c5 : w1.cell? ⟨w.heap.size, 5, none⟩ = some (.int .i64 at') := cell_at k
  have c6 : w1.cell? ⟨w.heap.size, 6, none⟩ = some (.int .u64 an) := cell_at k
  have c7 : w1.cell? ⟨w.heap.size, 7, none⟩ = some (.string ab) := cell_at k
  have c8 : w1.cell? ⟨w.heap.size, 8, none⟩ = some (.int .i64 bt) := cell_at k
  have c9 : w1.cell? ⟨w.heap.size, 9, none⟩ = some (.int .u64 bn) := cell_at k
  have c10 : w1.cell? ⟨w.heap.size, 10, none⟩ = some (.string bb) := cell_at k
  have c11 : w1.cell? ⟨w.heap.size, 11, none⟩ = some (.int .i64 dt) := cell_at k
  have c12 : w1.cell? ⟨w.heap.size, 12, none⟩ = some (.int .u64 dn) := cell_at k
  have c13 : w1.cell? ⟨w.heap.size, 13, none⟩ = some (.string db) := cell_at k
  have l0 := lt_of_block k
  clear hF1 hF1' k
  by_cases hck : ck = 0
  case neg =>
    have E : Hid (r = ck) := by unfold Hid; rw [HE.out, if_pos hck]
    have bc : (ck != 0) = true := by simpa using hck
    clear HE hck
    go_wp2_with fail
    go_ret
    exact ⟨by rw [E.out]; rfl, HW1.out⟩
  case pos =>
    rw [if_neg (by simpa using hck)] at HE
    subst hck
    go_wp2_with fail
    refine (HSZ.out _).mono ?_
    rintro e w2 ⟨rfl, hF2⟩
    have HF2 := Lib.hid (HF1.out.trans' hF2)
    obtain ⟨k, hF2'⟩ := HBX.out w2 HF2.out
    have HW2 := Lib.hid hF2'
    clear hF2 hF2' c0 c1 c2 c3 c4 c5 c6 c7 c8 c9 c10 c11 c12 c13 l0
    have c0 : w2.cell? ⟨w.heap.size, 0, none⟩ = some (.int .u16 i) := cell_at k
    have c1 : w2.cell? ⟨w.heap.size, 1, none⟩ = some (.int .u8 s) := cell_at k
    have c2 : w2.cell? ⟨w.heap.size, 2, none⟩ = some (.int .i64 ac) := cell_at k
    have c3 : w2.cell? ⟨w.heap.size, 3, none⟩ = some (.bool mp) := cell_at k
    have c4 : w2.cell? ⟨w.heap.size, 4, none⟩ = some (.bool lm) := cell_at k
    have c5 : w2.cell? ⟨w.heap.size, 5, none⟩ = some (.int .i64 at') := cell_at k
    have c6 : w2.cell? ⟨w.heap.size, 6, none⟩ = some (.int .u64 an) := cell_at k
    have c7 : w2.cell? ⟨w.heap.size, 7, none⟩ = some (.string ab) := cell_at k
    have c8 : w2.cell? ⟨w.heap.size, 8, none⟩ = some (.int .i64 bt) := cell_at k
    have c9 : w2.cell? ⟨w.heap.size, 9, none⟩ = some (.int .u64 bn) := cell_at k
    have c10 : w2.cell? ⟨w.heap.size, 10, none⟩ = some (.string bb) := cell_at k
    have c11 : w2.cell? ⟨w.heap.size, 11, none⟩ = some (.int .i64 dt) := cell_at k
    have c12 : w2.cell? ⟨w.heap.size, 12, none⟩ = some (.int .u64 dn) := cell_at k
    have c13 : w2.cell? ⟨w.heap.size, 13, none⟩ = some (.string db) := cell_at k
    have l0 := lt_of_block k
    clear k
    by_cases ha1 : ac < 0
    · have E : Hid (r = 1) := by unfold Hid; rw [HE.out, if_pos (.inl ha1)]
      clear HE
      go_wp2_with fail
      go_ret
      exact ⟨by rw [E.out]; rfl, HW2.out⟩
    · by_cases ha2 : 3 < ac
      · have E : Hid (r = 1) := by unfold Hid; rw [HE.out, if_pos (.inr ha2)]
        have ha1' : 0 ≤ ac := by omega
        clear HE ha1
        go_wp2_with fail
        go_ret
        exact ⟨by rw [E.out]; rfl, HW2.out⟩
      · rw [if_neg (by omega)] at HE
        have ha1' : 0 ≤ ac := by omega
        have ha2' : ac ≤ 3 := by omega
        clear ha1 ha2
        by_cases hmp : mp = true ∧ num = false
        · have E : Hid (r = 1) := by unfold Hid; rw [HE.out, if_pos hmp]
          obtain ⟨rfl, rfl⟩ := hmp
          clear HE
          go_wp2_with fail
          go_ret
          exact ⟨by rw [E.out]; rfl, HW2.out⟩
        · rw [if_neg hmp] at HE
          cases lm with
          | false =>
            have E : Hid (r = 0) := by unfold Hid; rw [HE.out, if_neg (by simp)]
            clear HE
            cases mp with
            | false =>
              go_wp2_with fail
              go_ret
              exact ⟨by rw [E.out]; rfl, HW2.out⟩
            | true =>
              obtain rfl : num = true := by cases num <;> simp at hmp ⊢
              clear hmp
              go_wp2_with fail
              go_ret
              exact ⟨by rw [E.out]; rfl, HW2.out⟩
          | true =>
            have HL2 := Lib.hid (fun W => HL.out num W)
            have HE2 : Hid (r = if (num && wc) = false then 1 else 0) := by unfold Hid; rw [HE.out]; simp
            clear HE HL
            generalize hb : (num && wc) = b at *
            have HBB := Lib.hid hb
            clear hb
            cases mp with
            | false =>
              go_wp2_with fail
              refine (HL2.out _).mono ?_
              rintro e w3 ⟨rfl, hF3⟩
              have HW3 := Lib.hid (HW2.out.trans' hF3)
              clear hF3
              cases b
              all_goals
                go_wp2_with fail
                go_ret
                exact ⟨by rw [HE2.out]; rfl, HW3.out⟩
            | true =>
              obtain rfl : num = true := by cases num <;> simp at hmp ⊢
              clear hmp
              go_wp2_with fail
              refine (HL2.out _).mono ?_
              rintro e w3 ⟨rfl, hF3⟩
              have HW3 := Lib.hid (HW2.out.trans' hF3)
              clear hF3
              cases b
              all_goals
                go_wp2_with fail
                go_ret
                exact ⟨by rw [HE2.out]; rfl, HW3.out⟩
end Go.Proofs.YtemjdmgfilbfaaaGreat
namespace Go.Proofs.YtemjdmgfilbfaaaGreat
open Go.RowKit
set_option linter.unusedVariables false

set_option maxRecDepth 100000 in
set_option maxHeartbeats 4000000 in
theorem rentry_any (x : En) (w : World) (hx : x.ok) : Calls Tryz.prog 89 #[valE x] w fun e w' => e = .returned (.int .i64 (entryE x)) ∧ Frm (fun _ => False) w w' := by
  have HE : Hid (entryE x = if checkV x.df ≠ 0 then checkV x.df else if x.acc < 0 ∨ 3 < x.acc ∨ (x.mp = true ∧ decide (sizeT x.df.ty ≠ 0) = false) ∨ (x.lim = true ∧ ¬ (decide (sizeT x.df.ty ≠ 0) = true ∧ withinE x x.df = (0, true))) then 1 else 0) := rfl
  have HC := Lib.hid (fun W => rCheck_any x.df W hx.2.2.2.2.2.2)
  have HSZ := Lib.hid (fun W => rSize_any x.df.ty W)
  have HP := Lib.hid (@size_pos x.df.ty)
  have HL := Lib.hid (fun W => rWithin_any x x.df W hx hx.2.2.2.2.2.2)
  generalize entryE x = r at *
  generalize checkV x.df = ck at *
  generalize withinE x x.df = wc at *
  obtain ⟨wc, wb⟩ := wc
  obtain ⟨i, s, ac, mp, lm, ⟨at', an, ab⟩, ⟨bt, bn, bb⟩, ⟨dt, dn, db⟩⟩ := x
  clear hx
  unfold valE valV at *
  simp only at *
  generalize decide (sizeT dt ≠ 0) = num at *
  generalize sizeT dt = sz at *
  generalize strB2 ab = ab at *
  generalize strB2 bb = bb at *
  generalize strB2 db = db at *
  have hbx : ∀ W, Frm (fun _ => False) (w.alloc (.cells #[.int .u16 i, .int .u8 s, .int .i64 ac, .bool mp, .bool lm, .int .i64 at', .int .u64 an, .string ab, .int .i64 bt, .int .u64 bn, .string bb, .int .i64 dt, .int .u64 dn, .string db] 59)) W →
      W.heap[w.heap.size]? = some (.cells #[.int .u16 i, .int .u8 s, .int .i64 ac, .bool mp, .bool lm, .int .i64 at', .int .u64 an, .string ab, .int .i64 bt, .int .u64 bn, .string bb, .int .i64 dt, .int .u64 dn, .string db] 59 (0, 0)) ∧ Frm (fun _ => False) w W := fun W hF => ⟨hF.heap (heap_new _ _) (fun h => h), Frm.trans' (b := _) (by (repeat' (first | (with_reducible exact Frm.refl _ _) | (with_reducible assumption) | (with_reducible refine Frm.alloc ?_ _) | (with_reducible refine Frm.drew ?_) | (with_reducible refine Frm.drewN ?_ _) | (with_reducible refine Frm.set1 ?_ _) | (with_reducible refine Frm.setCell ?_ ?_ _) | (exact fun h => absurd h (Nat.lt_irrefl _)) | (intro hlt; simp [World.size_alloc, One] at hlt ⊢; omega)))) hF⟩
  have HBX := Lib.hid hbx
  clear hbx
  go_enter Tryz.func89, Tryz.ntmps89
  go_wp2_with fail
  refine (HC.out _).mono ?_
  rintro e w1 ⟨rfl, hF1⟩
  obtain ⟨k, hF1'⟩ := HBX.out w1 hF1
  have HF1 := Lib.hid hF1
  have HW1 := Lib.hid hF1'
  have c0 : w1.cell? ⟨w.heap.size, 0, none⟩ = some (.int .u16 i) := cell_at k
  have c1 : w1.cell? ⟨w.heap.size, 1, none⟩ = some (.int .u8 s) := cell_at k
  have c2 : w1.cell? ⟨w.heap.size, 2, none⟩ = some (.int .i64 ac) := cell_at k
  have c3 : w1.cell? ⟨w.heap.size, 3, none⟩ = some (.bool mp) := cell_at k
  have c4 : w1.cell? ⟨w.heap.size, 4, none⟩ = some (.bool lm) := cell_at k
  have c5 : w1.cell? ⟨w.heap.size, 5, none⟩ = some (.int .i64 at') := cell_at k
  have c6 : w1.cell? ⟨w.heap.size, 6, none⟩ = some (.int .u64 an) := cell_at k
  have c7 : w1.cell? ⟨w.heap.size, 7, none⟩ = some (.string ab) := cell_at k
  have c8 : w1.cell? ⟨w.heap.size, 8, none⟩ = some (.int .i64 bt) := cell_at k
  have c9 : w1.cell? ⟨w.heap.size, 9, none⟩ = some (.int .u64 bn) := cell_at k
  have c10 : w1.cell? ⟨w.heap.size, 10, none⟩ = some (.string bb) := cell_at k
  have c11 : w1.cell? ⟨w.heap.size, 11, none⟩ = some (.int .i64 dt) := cell_at k
  have c12 : w1.cell? ⟨w.heap.size, 12, none⟩ = some (.int .u64 dn) := cell_at k
  have c13 : w1.cell? ⟨w.heap.size, 13, none⟩ = some (.string db) := cell_at k
  have l0 := lt_of_block k
  clear hF1 hF1' k
  by_cases hck : ck = 0
  case neg =>
    have E : Hid (r = ck) := by unfold Hid; rw [HE.out, if_pos hck]
    have bc : (ck != 0) = true := by simpa using hck
    clear HE hck
    go_wp2_with fail
    go_ret
    exact ⟨by rw [E.out]; rfl, HW1.out⟩
  case pos =>
    rw [if_neg (by simpa using hck)] at HE
    subst hck
    go_wp2_with fail
    refine (HSZ.out _).mono ?_
    rintro e w2 ⟨rfl, rfl⟩
    have hnp : decide (0 < sz) = num := HP.out
    clear HSZ HP
    by_cases ha1 : ac < 0
    · have E : Hid (r = 1) := by unfold Hid; rw [HE.out, if_pos (.inl ha1)]
      clear HE
      go_wp2_with fail
      go_ret
      exact ⟨by rw [E.out]; rfl, HW1.out⟩
    · by_cases ha2 : 3 < ac
      · have E : Hid (r = 1) := by unfold Hid; rw [HE.out, if_pos (.inr (.inl ha2))]
        have ha1' : 0 ≤ ac := by omega
        clear HE ha1
        go_wp2_with fail
        go_ret
        exact ⟨by rw [E.out]; rfl, HW1.out⟩
      · have ha1' : 0 ≤ ac := by omega
        have ha2' : ac ≤ 3 := by omega
        have HE2 : Hid (r = if (mp = true ∧ num = false) ∨ (lm = true ∧ ¬ (num = true ∧ (wc, wb) = (0, true))) then 1 else 0) := by
          unfold Hid
          rw [HE.out]
          by_cases h : (mp = true ∧ num = false) ∨ (lm = true ∧ ¬ (num = true ∧ (wc, wb) = (0, true)))
          · rw [if_pos h, if_pos (.inr (.inr h))]
          · rw [if_neg h, if_neg (by rintro (h1 | h1 | h1); exact ha1 h1; exact ha2 h1; exact h h1)]
        clear ha1 ha2 HE
        cases lm with
        | false =>
          have HE3 : Hid (r = if mp = true ∧ num = false then 1 else 0) := by unfold Hid; rw [HE2.out]; simp
          clear HE2
          cases mp <;> cases num
          all_goals
            go_wp2_with fail
            go_ret
            exact ⟨by rw [HE3.out]; rfl, HW1.out⟩
        | true =>
          have HE3 : Hid (r = if (mp = true ∧ num = false) ∨ ¬ (num = true ∧ (wc, wb) = (0, true)) then 1 else 0) := by unfold Hid; rw [HE2.out]; simp
          clear HE2
          go_wp2_with fail
          refine (HL.out _).mono ?_
          rintro e w3 ⟨rfl, hF3⟩
          have HF3 := Lib.hid (HF1.out.trans' hF3)
          obtain ⟨k, hF3'⟩ := HBX.out w3 HF3.out
          have HW3 := Lib.hid hF3'
          clear hF3 hF3' c0 c1 c2 c3 c4 c5 c6 c7 c8 c9 c10 c11 c12 c13 l0
          have c0 : w3.cell? ⟨w.heap.size, 0, none⟩ = some (.int .u16 i) := cell_at k
          have c1 : w3.cell? ⟨w.heap.size, 1, none⟩ = some (.int .u8 s) := cell_at k
          have c2 : w3.cell? ⟨w.heap.size, 2, none⟩ = some (.int .i64 ac) := cell_at k
          have c3 : w3.cell? ⟨w.heap.size, 3, none⟩ = some (.bool mp) := cell_at k
          have c4 : w3.cell? ⟨w.heap.size, 4, none⟩ = some (.bool true) := cell_at k
          have c5 : w3.cell? ⟨w.heap.size, 5, none⟩ = some (.int .i64 at') := cell_at k
          have c6 : w3.cell? ⟨w.heap.size, 6, none⟩ = some (.int .u64 an) := cell_at k
          have c7 : w3.cell? ⟨w.heap.size, 7, none⟩ = some (.string ab) := cell_at k
          have c8 : w3.cell? ⟨w.heap.size, 8, none⟩ = some (.int .i64 bt) := cell_at k
          have c9 : w3.cell? ⟨w.heap.size, 9, none⟩ = some (.int .u64 bn) := cell_at k
          have c10 : w3.cell? ⟨w.heap.size, 10, none⟩ = some (.string bb) := cell_at k
          have c11 : w3.cell? ⟨w.heap.size, 11, none⟩ = some (.int .i64 dt) := cell_at k
          have c12 : w3.cell? ⟨w.heap.size, 12, none⟩ = some (.int .u64 dn) := cell_at k
          have c13 : w3.cell? ⟨w.heap.size, 13, none⟩ = some (.string db) := cell_at k
          have l0 := lt_of_block k
          clear k
          cases num with
          | false =>
            have E : Hid (r = 1) := by unfold Hid; rw [HE3.out, if_pos (.inr (by simp))]
            clear HE3
            go_wp2_with fail
            go_ret
            exact ⟨by rw [E.out]; rfl, HW3.out⟩
          | true =>
            cases wb with
            | false =>
              have E : Hid (r = 1) := by unfold Hid; rw [HE3.out, if_pos (.inr (by simp))]
              clear HE3
              go_wp2_with fail
              go_ret
              exact ⟨by rw [E.out]; rfl, HW3.out⟩
            | true =>
              by_cases hwc : wc = 0
              · subst hwc
                have E : Hid (r = 0) := by unfold Hid; rw [HE3.out, if_neg (by simp)]
                clear HE3
                cases mp
                all_goals
                  go_wp2_with fail
                  go_ret
                  exact ⟨by rw [E.out]; rfl, HW3.out⟩
              · have E : Hid (r = 1) := by unfold Hid; rw [HE3.out, if_pos (.inr (by simpa using hwc))]
                have bw : (wc != 0) = true := by simpa using hwc
                clear HE3 hwc
                go_wp2_with fail
                go_ret
                exact ⟨by rw [E.out]; rfl, HW3.out⟩
end Go.Proofs.YtemjdmgfilbfaaaGreat
