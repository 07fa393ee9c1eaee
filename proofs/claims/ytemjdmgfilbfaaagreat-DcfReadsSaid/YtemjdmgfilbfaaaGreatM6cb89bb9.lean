/-
  A text's bytes, looked at rune by rune: what is found is a byte that no text has. Plain.
-/
import Derived.Shelf.GgClosure.StringsRunes
import Derived.Test.YtemjdmgfilbfaaaGreatMc6bffdeb
set_option linter.unusedVariables false
set_option linter.unusedSimpArgs false
namespace Go.Proofs.YtemjdmgfilbfaaaGreat
open Go.RowKit

def badR (x : Nat) : Bool := decide (x < 32) || decide (126 < x)

theorem decode_low {s : ByteArray} {i : Nat} (h : (s.get! i).toNat < 128) : Utf8.decode s i = ((s.get! i).toNat, 1) := by
  unfold Utf8.decode
  simp only [Nat.add_zero]
  rw [if_pos h]
theorem decode_high {s : ByteArray} {i : Nat} (h : 128 ≤ (s.get! i).toNat) : 128 ≤ (Utf8.decode s i).1 := by
  unfold Utf8.decode
  simp only [Nat.add_zero]
  rw [if_neg (by omega)]
  repeat' split
  all_goals (first | (simp only [Utf8.runeError]; omega) | omega | (simp_all; omega))

theorem idxText (b : List UInt8) (f pos : Nat) (hf : b.length ≤ pos + f) : (0 ≤ Lib.idxFuncFrom badR true ⟨b.toArray⟩ f pos) ↔ badB (b.drop pos) = true := by
  induction f generalizing pos with
  | zero =>
    have : b.drop pos = [] := List.drop_eq_nil_of_le (by omega)
    simp [Lib.idxFuncFrom, this, badB]
  | succ f ih =>
    unfold Lib.idxFuncFrom
    by_cases h : pos < b.length
    · have hs : pos < (⟨b.toArray⟩ : ByteArray).size := by simpa [ByteArray.size] using h
      have hg : (⟨b.toArray⟩ : ByteArray).get! pos = b[pos] := by
        simp [ByteArray.get!, h]
      rw [if_pos hs, List.drop_eq_getElem_cons h]
      by_cases h1 : (b[pos]).toNat < 128
      · rw [decode_low (by rw [hg]; exact h1), hg]
        simp only
        by_cases h2 : badR (b[pos]).toNat = true
        · rw [if_pos h2]
          simp only [badB, List.any_cons]
          simp only [badR] at h2
          simp [h2]
        · rw [if_neg h2]
          have h3 : badR (b[pos]).toNat = false := by simpa using h2
          rw [ih (pos + 1) (by omega)]
          simp only [badB, List.any_cons]
          simp only [badR] at h3
          simp [h3]
      · have h2 := decode_high (s := ⟨b.toArray⟩) (i := pos) (by rw [hg]; omega)
        have h3 : badR (Utf8.decode ⟨b.toArray⟩ pos).1 = true := by
          unfold badR
          simp; omega
        rw [if_pos h3]
        simp only [badB, List.any_cons]
        have : decide (126 < (b[pos]).toNat) = true := by simp; omega
        simp [this]
    · have hs : ¬ pos < (⟨b.toArray⟩ : ByteArray).size := by simpa [ByteArray.size] using h
      rw [if_neg hs]
      have : b.drop pos = [] := List.drop_eq_nil_of_le (by omega)
      simp [this, badB]
theorem idxTextAll (b : List UInt8) : decide (0 ≤ Lib.idxFunc badR true ⟨b.toArray⟩) = badB b := by
  have := idxText b b.length 0 (by omega)
  rw [List.drop_zero] at this
  have hs : (⟨b.toArray⟩ : ByteArray).size = b.length := by simp [ByteArray.size]
  unfold Lib.idxFunc
  rw [hs]
  rw [Bool.eq_iff_iff]
  simpa using this
end Go.Proofs.YtemjdmgfilbfaaaGreat
