/-
  What the code says of a value: check.
-/
import Derived.Test.YtemjdmgfilbfaaaTyW
import Derived.Test.YtemjdmgfilbfaaaTyT
import Derived.Test.YtemjdmgfilbfaaaShelf
namespace Go.Proofs.Ytemjdmgfilbfaaa
open Go.RowKit
set_option linter.unusedVariables false

theorem chk1_gives (x : Nat) (W : World) (hx : x ≤ 1114111) : Calls Try.prog 118 #[.int .i32 x] W fun e w' => e = .returned (.bool (badR x)) ∧ w' = W := by
  go_enter Try.func118, Try.ntmps118
  go_wp2
  all_goals
    go_ret
    refine ⟨?_, rfl⟩
    first
      | exact ret_bool (a := true) (fits_eq (by simp [badR]; omega))
      | exact ret_bool (a := decide (126 < (x : Int))) (fits_eq (by simp [badR]; omega))
      | exact ret_bool (a := decide ((x : Int) < 32) || decide (126 < (x : Int))) (fits_eq (by simp [badR]; omega))

theorem textCont (b : List UInt8) (w : World) : Calls Try.prog 117 #[.string (strB2 b), .func (.func 118) #[] #[]] w fun e w' => e = .returned (.bool (badB b)) ∧ Frm (fun _ => False) w w' := by
  refine (Try.strings_ContainsFunc_runes 118 #[] (enters_of Try.func118 (by kernel_rfl) rfl) badR (strB2 b) w (fun W x hx _ => ?_)).mono ?_
  · exact (chk1_gives x W hx).mono fun _ _ ⟨he, hw⟩ => ⟨he, 0, hw⟩
  · rintro e w' ⟨rfl, hb⟩
    exact ⟨by rw [strB2, idxTextAll], (Frm.of_below hb).mono fun i hi h => by omega⟩

theorem checkV_eq (v : Va) : checkV v = (if isT v.ty = false then 1 else if sizeT v.ty = 0 ∧ 65536 < v.b.length then 2 else if sizeT v.ty ≠ 0 ∧ fitsN (sizeT v.ty) (sgnT v.ty) v.n = false then 1
    else if v.ty = 1 ∧ 1 < v.n then 1 else if v.ty = 9 ∧ badB v.b = true then 1 else 0) := by
  unfold checkV
  by_cases h0 : isT v.ty = false
  · simp [h0]
  · by_cases h1 : sizeT v.ty = 0
    · have h2 : v.ty ≠ 1 := fun e => by rw [e] at h1; revert h1; decide
      simp [h0, h1, h2]
    · have h2 : v.ty ≠ 9 := fun e => h1 (by rw [e]; decide)
      by_cases h3 : fitsN (sizeT v.ty) (sgnT v.ty) v.n = false
      · simp [h0, h1, h3]
      · by_cases h4 : v.ty = 1 ∧ 1 < v.n
        · generalize sizeT v.ty = sz at *
          generalize isT v.ty = is at *
          generalize sgnT v.ty = sg at *
          simp [h0, h1, h3, h4]
        · simp [h0, h1, h3, h4, h2]

set_option maxRecDepth 100000 in
set_option maxHeartbeats 2000000 in
theorem tyChk_any (v : Va) (w : World) (hv : v.ok) : Calls Try.prog 88 #[valV v] w fun e w' => e = .returned (.int .i64 (checkV v)) ∧ Frm (fun _ => False) w w' := by
  have HC := Lib.hid (checkV_eq v)
  obtain ⟨t, n, b⟩ := v
  obtain ⟨h0, h1, h2⟩ := hv
  simp only at h0 h1 h2 HC
  have H := Lib.hid (fun W => tyOf_any t W)
  have HT := Lib.hid (fun W => textCont b W)
  have HFI := Lib.hid (fun W hs => tyFits_any t n W h0 h1 hs)
  have h3 : sizeT t = 0 ∨ 0 < sizeT t := by rcases sizeT_vals t with h | h | h | h | h <;> omega
  have HBL : (strB2 b).size = b.length := by simp [strB2, ByteArray.size]
  clear h1
  unfold valV kindV at *
  generalize checkV ⟨t, n, b⟩ = r at *
  generalize badB b = bad at *
  generalize strB2 b = sb at *
  generalize fitsN (sizeT t) (sgnT t) n = fit at *
  generalize sizeT t = sz at *
  generalize sgnT t = sg at *
  generalize isT t = is at *
  generalize b.length = bl at *
  subst HBL
  go_enter Try.func88, Try.ntmps88
  go_wp2_with fail
  refine (H.out _).mono ?_
  rintro e w1 ⟨rfl, hF⟩
  have k1 := hF.heap (heap_new w _) (fun h => h)
  have a0 : w1.cell? ⟨w.heap.size, 0, none⟩ = some (.int .i64 t) := cell_at k1
  have a1 : w1.cell? ⟨w.heap.size, 1, none⟩ = some (.int .u64 n) := cell_at k1
  have a2 : w1.cell? ⟨w.heap.size, 2, none⟩ = some (.string sb) := cell_at k1
  have l1 := lt_of_block k1
  have HF : Hid (Frm (fun _ => False) w w1) := Frm.trans' (b := _) (by (repeat' (first | (with_reducible exact Frm.refl _ _) | (with_reducible assumption) | (with_reducible refine Frm.alloc ?_ _) | (with_reducible refine Frm.drew ?_) | (with_reducible refine Frm.drewN ?_ _) | (with_reducible refine Frm.set1 ?_ _) | (with_reducible refine Frm.setCell ?_ ?_ _) | (exact fun h => absurd h (Nat.lt_irrefl _)) | (intro hlt; simp [World.size_alloc, One] at hlt ⊢; omega)))) hF
  have K1 := Lib.hid k1
  clear hF k1
  cases is with
  | false =>
    rw [if_pos rfl] at HC
    go_wp2_with fail
    go_ret
    exact ⟨by rw [HC.out]; rfl, HF.out.trans' (by (repeat' (first | (with_reducible exact Frm.refl _ _) | (with_reducible assumption) | (with_reducible refine Frm.alloc ?_ _) | (with_reducible refine Frm.drew ?_) | (with_reducible refine Frm.drewN ?_ _) | (with_reducible refine Frm.set1 ?_ _) | (with_reducible refine Frm.setCell ?_ ?_ _) | (exact fun h => absurd h (Nat.lt_irrefl _)) | (intro hlt; simp [World.size_alloc, One] at hlt ⊢; omega))))⟩
  | true =>
    rw [if_neg (by decide)] at HC
    have hcase : (sz = 0 ∧ 65536 < sb.size) ∨ (sz = 0 ∧ sb.size ≤ 65536) ∨ (0 < sz ∧ fit = false) ∨ (0 < sz ∧ fit = true) := by
      rcases h3 with h | h
      · by_cases hb : 65536 < sb.size
        · exact .inl ⟨h, hb⟩
        · exact .inr (.inl ⟨h, by omega⟩)
      · cases fit
        · exact .inr (.inr (.inl ⟨h, rfl⟩))
        · exact .inr (.inr (.inr ⟨h, rfl⟩))
    clear h3
    rcases hcase with ⟨rfl, hb⟩ | ⟨rfl, hb⟩ | ⟨hz, rfl⟩ | ⟨hz, rfl⟩
    · rw [if_pos ⟨rfl, hb⟩] at HC
      go_wp2_with fail
      go_ret
      exact ⟨by rw [HC.out]; rfl, HF.out.trans' (by (repeat' (first | (with_reducible exact Frm.refl _ _) | (with_reducible assumption) | (with_reducible refine Frm.alloc ?_ _) | (with_reducible refine Frm.drew ?_) | (with_reducible refine Frm.drewN ?_ _) | (with_reducible refine Frm.set1 ?_ _) | (with_reducible refine Frm.setCell ?_ ?_ _) | (exact fun h => absurd h (Nat.lt_irrefl _)) | (intro hlt; simp [World.size_alloc, One] at hlt ⊢; omega))))⟩
    case inr.inr.inl =>
      have hz0 : (sz == 0) = false := beq_eq_false_iff_ne.2 (by omega)
      have hz1 : sz ≠ 0 := by omega
      rw [if_neg (fun h => hz1 h.1), if_pos ⟨hz1, rfl⟩] at HC
      have HFI2 := Lib.hid (fun W => HFI.out W hz1)
      clear hz1 HFI
      go_wp2_with fail
      refine (HFI2.out _).mono ?_
      rintro e w2 ⟨rfl, hF2⟩
      have HF2 : Hid (Frm (fun _ => False) w w2) := HF.out.trans' (Frm.trans' (b := _) (by (repeat' (first | (with_reducible exact Frm.refl _ _) | (with_reducible assumption) | (with_reducible refine Frm.alloc ?_ _) | (with_reducible refine Frm.drew ?_) | (with_reducible refine Frm.drewN ?_ _) | (with_reducible refine Frm.set1 ?_ _) | (with_reducible refine Frm.setCell ?_ ?_ _) | (exact fun h => absurd h (Nat.lt_irrefl _)) | (intro hlt; simp [World.size_alloc, One] at hlt ⊢; omega)))) hF2)
      clear hF2
      go_wp2_with fail
      go_ret
      exact ⟨by rw [HC.out]; rfl, HF2.out.trans' (by (repeat' (first | (with_reducible exact Frm.refl _ _) | (with_reducible assumption) | (with_reducible refine Frm.alloc ?_ _) | (with_reducible refine Frm.drew ?_) | (with_reducible refine Frm.drewN ?_ _) | (with_reducible refine Frm.set1 ?_ _) | (with_reducible refine Frm.setCell ?_ ?_ _) | (exact fun h => absurd h (Nat.lt_irrefl _)) | (intro hlt; simp [World.size_alloc, One] at hlt ⊢; omega))))⟩
    case inr.inl =>
      have hs : ¬ (65536 < sb.size) := by omega
      rw [if_neg (fun h => hs h.2), if_neg (fun h => h.1 rfl)] at HC
      clear hs HFI
      by_cases ht1 : t = 1
      · subst ht1
        by_cases hn : 1 < n
        · rw [if_pos ⟨rfl, hn⟩] at HC
          go_wp2_with fail
          go_ret
          exact ⟨by rw [HC.out]; rfl, HF.out.trans' (by (repeat' (first | (with_reducible exact Frm.refl _ _) | (with_reducible assumption) | (with_reducible refine Frm.alloc ?_ _) | (with_reducible refine Frm.drew ?_) | (with_reducible refine Frm.drewN ?_ _) | (with_reducible refine Frm.set1 ?_ _) | (with_reducible refine Frm.setCell ?_ ?_ _) | (exact fun h => absurd h (Nat.lt_irrefl _)) | (intro hlt; simp [World.size_alloc, One] at hlt ⊢; omega))))⟩
        · rw [if_neg (fun h => hn h.2), if_neg (fun h => by cases h.1)] at HC
          have hn' : n ≤ 1 := by omega
          go_wp2_with fail
          go_ret
          exact ⟨by rw [HC.out]; rfl, HF.out.trans' (by (repeat' (first | (with_reducible exact Frm.refl _ _) | (with_reducible assumption) | (with_reducible refine Frm.alloc ?_ _) | (with_reducible refine Frm.drew ?_) | (with_reducible refine Frm.drewN ?_ _) | (with_reducible refine Frm.set1 ?_ _) | (with_reducible refine Frm.setCell ?_ ?_ _) | (exact fun h => absurd h (Nat.lt_irrefl _)) | (intro hlt; simp [World.size_alloc, One] at hlt ⊢; omega))))⟩
      · have b1 : (t == 1) = false := beq_eq_false_iff_ne.2 ht1
        rw [if_neg (fun h => ht1 h.1)] at HC
        by_cases ht9 : t = 9
        · subst ht9
          clear ht1
          go_wp2_with fail
          refine (HT.out _).mono ?_
          rintro e w2 ⟨rfl, hF2⟩
          have HF2 : Hid (Frm (fun _ => False) w w2) := HF.out.trans' (Frm.trans' (b := _) (by (repeat' (first | (with_reducible exact Frm.refl _ _) | (with_reducible assumption) | (with_reducible refine Frm.alloc ?_ _) | (with_reducible refine Frm.drew ?_) | (with_reducible refine Frm.drewN ?_ _) | (with_reducible refine Frm.set1 ?_ _) | (with_reducible refine Frm.setCell ?_ ?_ _) | (exact fun h => absurd h (Nat.lt_irrefl _)) | (intro hlt; simp [World.size_alloc, One] at hlt ⊢; omega)))) hF2)
          clear hF2
          cases bad with
          | true =>
            have HC : Hid (r = 1) := Lib.hid (by have h := HC.out; simpa using h)
            go_wp2_with fail
            go_ret
            exact ⟨by rw [HC.out]; rfl, HF2.out.trans' (by (repeat' (first | (with_reducible exact Frm.refl _ _) | (with_reducible assumption) | (with_reducible refine Frm.alloc ?_ _) | (with_reducible refine Frm.drew ?_) | (with_reducible refine Frm.drewN ?_ _) | (with_reducible refine Frm.set1 ?_ _) | (with_reducible refine Frm.setCell ?_ ?_ _) | (exact fun h => absurd h (Nat.lt_irrefl _)) | (intro hlt; simp [World.size_alloc, One] at hlt ⊢; omega))))⟩
          | false =>
            have HC : Hid (r = 0) := Lib.hid (by have h := HC.out; simpa using h)
            go_wp2_with fail
            go_ret
            exact ⟨by rw [HC.out]; rfl, HF2.out.trans' (by (repeat' (first | (with_reducible exact Frm.refl _ _) | (with_reducible assumption) | (with_reducible refine Frm.alloc ?_ _) | (with_reducible refine Frm.drew ?_) | (with_reducible refine Frm.drewN ?_ _) | (with_reducible refine Frm.set1 ?_ _) | (with_reducible refine Frm.setCell ?_ ?_ _) | (exact fun h => absurd h (Nat.lt_irrefl _)) | (intro hlt; simp [World.size_alloc, One] at hlt ⊢; omega))))⟩
        · have b9 : (t == 9) = false := beq_eq_false_iff_ne.2 ht9
          rw [if_neg (fun h => ht9 h.1)] at HC
          clear ht1 ht9
          go_wp2_with fail
          go_ret
          exact ⟨by rw [HC.out]; rfl, HF.out.trans' (by (repeat' (first | (with_reducible exact Frm.refl _ _) | (with_reducible assumption) | (with_reducible refine Frm.alloc ?_ _) | (with_reducible refine Frm.drew ?_) | (with_reducible refine Frm.drewN ?_ _) | (with_reducible refine Frm.set1 ?_ _) | (with_reducible refine Frm.setCell ?_ ?_ _) | (exact fun h => absurd h (Nat.lt_irrefl _)) | (intro hlt; simp [World.size_alloc, One] at hlt ⊢; omega))))⟩
    case inr.inr.inr =>
      have hz0 : (sz == 0) = false := beq_eq_false_iff_ne.2 (by omega)
      have hz1 : sz ≠ 0 := by omega
      rw [if_neg (fun h => hz1 h.1), if_neg (fun h => by cases h.2)] at HC
      have HFI2 := Lib.hid (fun W => HFI.out W hz1)
      clear hz1 HFI
      have go2 : ∀ w2, Frm (fun _ => False) w1 w2 → w2.cell? ⟨w.heap.size, 0, none⟩ = some (.int .i64 t) ∧ w2.cell? ⟨w.heap.size, 1, none⟩ = some (.int .u64 n) ∧ w2.cell? ⟨w.heap.size, 2, none⟩ = some (.string sb) ∧ w.heap.size < w2.heap.size := fun w2 hF2 => by
        have k2 := hF2.heap K1.out (fun h => h)
        exact ⟨cell_at k2, cell_at k2, cell_at k2, lt_of_block k2⟩
      have GO2 := Lib.hid go2
      clear go2
      go_wp2_with fail
      refine (HFI2.out _).mono ?_
      rintro e w2 ⟨rfl, hF2⟩
      obtain ⟨d0, d1, d2, m2⟩ := GO2.out w2 (Frm.trans' (b := _) (by (repeat' (first | (with_reducible exact Frm.refl _ _) | (with_reducible assumption) | (with_reducible refine Frm.alloc ?_ _) | (with_reducible refine Frm.drew ?_) | (with_reducible refine Frm.drewN ?_ _) | (with_reducible refine Frm.set1 ?_ _) | (with_reducible refine Frm.setCell ?_ ?_ _) | (exact fun h => absurd h (Nat.lt_irrefl _)) | (intro hlt; simp [World.size_alloc, One] at hlt ⊢; omega)))) hF2)
      have HF2 : Hid (Frm (fun _ => False) w w2) := HF.out.trans' (Frm.trans' (b := _) (by (repeat' (first | (with_reducible exact Frm.refl _ _) | (with_reducible assumption) | (with_reducible refine Frm.alloc ?_ _) | (with_reducible refine Frm.drew ?_) | (with_reducible refine Frm.drewN ?_ _) | (with_reducible refine Frm.set1 ?_ _) | (with_reducible refine Frm.setCell ?_ ?_ _) | (exact fun h => absurd h (Nat.lt_irrefl _)) | (intro hlt; simp [World.size_alloc, One] at hlt ⊢; omega)))) hF2)
      clear hF2 a0 a1 a2 l1
      by_cases ht1 : t = 1
      · subst ht1
        by_cases hn : 1 < n
        · rw [if_pos ⟨rfl, hn⟩] at HC
          go_wp2_with fail
          go_ret
          exact ⟨by rw [HC.out]; rfl, HF2.out.trans' (by (repeat' (first | (with_reducible exact Frm.refl _ _) | (with_reducible assumption) | (with_reducible refine Frm.alloc ?_ _) | (with_reducible refine Frm.drew ?_) | (with_reducible refine Frm.drewN ?_ _) | (with_reducible refine Frm.set1 ?_ _) | (with_reducible refine Frm.setCell ?_ ?_ _) | (exact fun h => absurd h (Nat.lt_irrefl _)) | (intro hlt; simp [World.size_alloc, One] at hlt ⊢; omega))))⟩
        · rw [if_neg (fun h => hn h.2), if_neg (fun h => by cases h.1)] at HC
          have hn' : n ≤ 1 := by omega
          go_wp2_with fail
          go_ret
          exact ⟨by rw [HC.out]; rfl, HF2.out.trans' (by (repeat' (first | (with_reducible exact Frm.refl _ _) | (with_reducible assumption) | (with_reducible refine Frm.alloc ?_ _) | (with_reducible refine Frm.drew ?_) | (with_reducible refine Frm.drewN ?_ _) | (with_reducible refine Frm.set1 ?_ _) | (with_reducible refine Frm.setCell ?_ ?_ _) | (exact fun h => absurd h (Nat.lt_irrefl _)) | (intro hlt; simp [World.size_alloc, One] at hlt ⊢; omega))))⟩
      · have b1 : (t == 1) = false := beq_eq_false_iff_ne.2 ht1
        rw [if_neg (fun h => ht1 h.1)] at HC
        by_cases ht9 : t = 9
        · subst ht9
          clear ht1
          go_wp2_with fail
          refine (HT.out _).mono ?_
          rintro e w3 ⟨rfl, hF3⟩
          have HF3 : Hid (Frm (fun _ => False) w w3) := HF2.out.trans' (Frm.trans' (b := _) (by (repeat' (first | (with_reducible exact Frm.refl _ _) | (with_reducible assumption) | (with_reducible refine Frm.alloc ?_ _) | (with_reducible refine Frm.drew ?_) | (with_reducible refine Frm.drewN ?_ _) | (with_reducible refine Frm.set1 ?_ _) | (with_reducible refine Frm.setCell ?_ ?_ _) | (exact fun h => absurd h (Nat.lt_irrefl _)) | (intro hlt; simp [World.size_alloc, One] at hlt ⊢; omega)))) hF3)
          clear hF3
          cases bad with
          | true =>
            have HC : Hid (r = 1) := Lib.hid (by have h := HC.out; simpa using h)
            go_wp2_with fail
            go_ret
            exact ⟨by rw [HC.out]; rfl, HF3.out.trans' (by (repeat' (first | (with_reducible exact Frm.refl _ _) | (with_reducible assumption) | (with_reducible refine Frm.alloc ?_ _) | (with_reducible refine Frm.drew ?_) | (with_reducible refine Frm.drewN ?_ _) | (with_reducible refine Frm.set1 ?_ _) | (with_reducible refine Frm.setCell ?_ ?_ _) | (exact fun h => absurd h (Nat.lt_irrefl _)) | (intro hlt; simp [World.size_alloc, One] at hlt ⊢; omega))))⟩
          | false =>
            have HC : Hid (r = 0) := Lib.hid (by have h := HC.out; simpa using h)
            go_wp2_with fail
            go_ret
            exact ⟨by rw [HC.out]; rfl, HF3.out.trans' (by (repeat' (first | (with_reducible exact Frm.refl _ _) | (with_reducible assumption) | (with_reducible refine Frm.alloc ?_ _) | (with_reducible refine Frm.drew ?_) | (with_reducible refine Frm.drewN ?_ _) | (with_reducible refine Frm.set1 ?_ _) | (with_reducible refine Frm.setCell ?_ ?_ _) | (exact fun h => absurd h (Nat.lt_irrefl _)) | (intro hlt; simp [World.size_alloc, One] at hlt ⊢; omega))))⟩
        · have b9 : (t == 9) = false := beq_eq_false_iff_ne.2 ht9
          rw [if_neg (fun h => ht9 h.1)] at HC
          clear ht1 ht9
          go_wp2_with fail
          go_ret
          exact ⟨by rw [HC.out]; rfl, HF2.out.trans' (by (repeat' (first | (with_reducible exact Frm.refl _ _) | (with_reducible assumption) | (with_reducible refine Frm.alloc ?_ _) | (with_reducible refine Frm.drew ?_) | (with_reducible refine Frm.drewN ?_ _) | (with_reducible refine Frm.set1 ?_ _) | (with_reducible refine Frm.setCell ?_ ?_ _) | (exact fun h => absurd h (Nat.lt_irrefl _)) | (intro hlt; simp [World.size_alloc, One] at hlt ⊢; omega))))⟩
end Go.Proofs.Ytemjdmgfilbfaaa
