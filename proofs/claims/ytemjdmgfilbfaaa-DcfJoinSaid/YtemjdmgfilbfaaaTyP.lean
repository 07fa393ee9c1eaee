/-
  Values of types: what can be, what is told of them, their bytes. Plain: no Go function is named here.
-/
import Derived.Test.YtemjdmgfilbfaaaItB
import Derived.Lib.Bytealg
namespace Go.Proofs.Ytemjdmgfilbfaaa
open Go.RowKit

/-- A value: its type, its number (of 64 bits), its bytes. -/
structure Va where
  ty : Int
  n : Int
  b : List UInt8
deriving DecidableEq

def Va.zero : Va := ⟨0, 0, []⟩
def sizeT (t : Int) : Int := if t = 1 ∨ t = 2 ∨ t = 5 then 1 else if t = 3 ∨ t = 6 then 2 else if t = 4 ∨ t = 7 then 4 else if t = 21 ∨ t = 27 then 8 else 0
def sgnT (t : Int) : Bool := t == 2 || t == 3 || t == 4 || t == 21
def isT (t : Int) : Bool := sizeT t != 0 || (t == 9 || t == 10 || t == 15)
def two64 : Int := 18446744073709551616
def capN (sz : Int) : Int := if sz = 1 then 256 else if sz = 2 then 65536 else if sz = 4 then 4294967296 else 18446744073709551616
def fitsN (sz : Int) (sg : Bool) (n : Int) : Bool := if sg = true then decide (2 * n < capN sz) || decide (2 * two64 - capN sz ≤ 2 * n) else decide (n < capN sz)
def badB (b : List UInt8) : Bool := b.any fun c => decide (c.toNat < 32) || decide (126 < c.toNat)
def checkV (v : Va) : Int :=
  if isT v.ty = false then 1
  else if sizeT v.ty ≠ 0 then (if fitsN (sizeT v.ty) (sgnT v.ty) v.n = false ∨ v.ty = 1 ∧ 1 < v.n then 1 else 0)
  else if 65536 < v.b.length then 2 else if v.ty = 9 ∧ badB v.b = true then 1 else 0
def plainV (v : Va) : Va := if sizeT v.ty ≠ 0 then ⟨v.ty, v.n, []⟩ else if isT v.ty = true then ⟨v.ty, 0, v.b⟩ else v
def encV (v : Va) : List UInt8 × Int := if checkV v ≠ 0 then ([], checkV v) else if sizeT v.ty ≠ 0 then (leOf v.n (sizeT v.ty).toNat, 0) else (v.b, 0)
/-- The number of so many bytes, as one of 64 bits. -/
def wideN (sz : Int) (sg : Bool) (m : Int) : Int := if sg = true ∧ capN sz ≤ 2 * m then m + (two64 - capN sz) else m
def rawV (t : Int) (bs : List UInt8) : Va := if sizeT t ≠ 0 then ⟨t, wideN (sizeT t) (sgnT t) (numOf bs), []⟩ else ⟨t, 0, bs⟩
def decV (t : Int) (bs : List UInt8) : Va × Int :=
  if isT t = false then (.zero, 1) else if (bs.length : Int) < sizeT t then (.zero, 3)
  else if sizeT t ≠ 0 ∧ sizeT t < bs.length ∨ 65536 < bs.length then (.zero, 2)
  else if checkV (rawV t bs) ≠ 0 then (.zero, 8) else (rawV t bs, 0)
def s64 (n : Int) : Int := if 9223372036854775808 ≤ n then n - two64 else n
def cmpI (a b : Int) : Int := if a < b then -1 else if b < a then 1 else 0
def cmpB (a b : List UInt8) : Int := Lib.compareBytes a b
def orderV (a b : Va) : Int × Int :=
  if checkV a ≠ 0 then (0, checkV a) else if checkV b ≠ 0 then (0, checkV b) else if a.ty ≠ b.ty then (0, 1)
  else if sizeT a.ty = 0 then (cmpB a.b b.b, 0) else if sgnT a.ty = true then (cmpI (s64 a.n) (s64 b.n), 0) else (cmpI a.n b.n, 0)

/-- A value that can lie in memory. -/
def Va.ok (v : Va) : Prop := 0 ≤ v.n ∧ v.n < two64 ∧ v.b.length ≤ 140737488351232

theorem sizeT_vals (t : Int) : sizeT t = 0 ∨ sizeT t = 1 ∨ sizeT t = 2 ∨ sizeT t = 4 ∨ sizeT t = 8 := by
  unfold sizeT
  repeat' split
  all_goals simp
theorem sgn_size {t : Int} (h : sgnT t = true) : sizeT t ≠ 0 := by
  unfold sgnT at h
  simp only [Bool.or_eq_true, beq_iff_eq] at h
  unfold sizeT
  rcases h with ((h | h) | h) | h <;> subst h <;> decide
theorem is_of_size {t : Int} (h : sizeT t ≠ 0) : isT t = true := by
  unfold isT
  simp [h]
/-- A type is one of these. -/
theorem ty_cases (t : Int) : t = 1 ∨ t = 2 ∨ t = 3 ∨ t = 4 ∨ t = 5 ∨ t = 6 ∨ t = 7 ∨ t = 9 ∨ t = 10 ∨ t = 15 ∨ t = 21 ∨ t = 27 ∨
    (t ≠ 1 ∧ t ≠ 2 ∧ t ≠ 3 ∧ t ≠ 4 ∧ t ≠ 5 ∧ t ≠ 6 ∧ t ≠ 7 ∧ t ≠ 9 ∧ t ≠ 10 ∧ t ≠ 15 ∧ t ≠ 21 ∧ t ≠ 27) := by omega
theorem no_type {t : Int} (h : t ≠ 1 ∧ t ≠ 2 ∧ t ≠ 3 ∧ t ≠ 4 ∧ t ≠ 5 ∧ t ≠ 6 ∧ t ≠ 7 ∧ t ≠ 9 ∧ t ≠ 10 ∧ t ≠ 15 ∧ t ≠ 21 ∧ t ≠ 27) : sizeT t = 0 ∧ sgnT t = false ∧ isT t = false := by
  have h1 : sizeT t = 0 := by
    unfold sizeT
    rw [if_neg (by omega), if_neg (by omega), if_neg (by omega), if_neg (by omega)]
  refine ⟨h1, ?_, ?_⟩
  · unfold sgnT; simp; omega
  · unfold isT; rw [h1]; simp; omega
end Go.Proofs.Ytemjdmgfilbfaaa
