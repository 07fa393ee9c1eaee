/-
  Plain: what bytes say, as items; and back.
-/
import Derived.Test.YtmkkeglcjbogcaaDcfN
namespace Go.Proofs.Ytmkkeglcjbogcaa
set_option linter.unusedVariables false

/-- An item: its place, its bytes. -/
abbrev It := Int × Int × List UInt8

/-- n items of bytes, up to the first that is none: the items, what stands behind; or what is wrong. -/
def decN : Nat → List UInt8 → Except Int (List It × List UInt8)
  | 0, bs => .ok ([], bs)
  | n + 1, bs =>
    if bs.length < 7 then .error 3
    else if 65536 < numOf ((bs.drop 3).take 4) then .error 2
    else if ((bs.drop 7).length : Int) < numOf ((bs.drop 3).take 4) then .error 3
    else match decN n ((bs.drop 7).drop (numOf ((bs.drop 3).take 4)).toNat) with
      | .error e => .error e
      | .ok (l, r) => .ok ((numOf (bs.take 2), ((bs.getD 2 0).toNat : Int), (bs.drop 7).take (numOf ((bs.drop 3).take 4)).toNat) :: l, r)

def decOf (bs : List UInt8) : List It × Int :=
  if bs.length < 4 then ([], 3)
  else if 1024 < numOf (bs.take 4) then ([], 2)
  else match decN (numOf (bs.take 4)).toNat (bs.drop 4) with
    | .error e => ([], e)
    | .ok (l, r) => if 0 < r.length then ([], 8) else (l, 0)

/-- A number in so many bytes, lowest first. -/
def leOf (n : Int) : Nat → List UInt8
  | 0 => []
  | k + 1 => UInt8.ofNat (n % 256).toNat :: leOf (n / 256) k
def encIt8 (x : It) : List UInt8 := leOf x.1 2 ++ [UInt8.ofNat x.2.1.toNat] ++ leOf x.2.2.length 4 ++ x.2.2
def encOf (l : List It) : List UInt8 := leOf l.length 4 ++ l.flatMap encIt8

theorem leOf_numOf (bs : List UInt8) : leOf (numOf bs) bs.length = bs := by
  induction bs with
  | nil => rfl
  | cons b r ih =>
    have hb := b.toNat_lt
    have h1 : numOf (b :: r) % 256 = (b.toNat : Int) := by simp only [numOf]; omega
    have h2 : numOf (b :: r) / 256 = numOf r := by simp only [numOf]; omega
    simp only [List.length_cons, leOf, h1, h2, ih, Int.toNat_natCast, UInt8.ofNat_toNat]

theorem numOf_nn (bs : List UInt8) : 0 ≤ numOf bs := by
  induction bs with
  | nil => simp [numOf]
  | cons b r ih => simp only [numOf]; omega

theorem decN_back (n : Nat) (bs : List UInt8) (l : List It) (r : List UInt8) (h : decN n bs = .ok (l, r)) : l.length = n ∧ bs = l.flatMap encIt8 ++ r ∧ ∀ x ∈ l, (x.2.2.length : Int) ≤ 65536 := by
  induction n generalizing bs l r with
  | zero => simp only [decN, Except.ok.injEq, Prod.mk.injEq] at h; obtain ⟨rfl, rfl⟩ := h; simp
  | succ n ih =>
    rw [decN] at h
    split at h
    · cases h
    · rename_i h7
      split at h
      · cases h
      · rename_i h6
        split at h
        · cases h
        · rename_i h5
          split at h
          · cases h
          · rename_i l2 r2 h4
            simp only [Except.ok.injEq, Prod.mk.injEq] at h
            obtain ⟨rfl, rfl⟩ := h
            obtain ⟨e1, e2, e3⟩ := ih _ _ _ h4
            clear ih h4
            obtain ⟨c0, c1, c2, c3, c4, c5, c6, r0, rfl⟩ : ∃ c0 c1 c2 c3 c4 c5 c6 r0, bs = c0 :: c1 :: c2 :: c3 :: c4 :: c5 :: c6 :: r0 := by
              match bs, h7 with
              | c0 :: c1 :: c2 :: c3 :: c4 :: c5 :: c6 :: r0, _ => exact ⟨_, _, _, _, _, _, _, _, rfl⟩
              | [], h | [_], h | [_, _], h | [_, _, _], h | [_, _, _, _], h | [_, _, _, _, _], h | [_, _, _, _, _, _], h => exact absurd (by simp) h
            simp only [List.drop_succ_cons, List.drop_zero, List.take_succ_cons, List.take_zero] at e2 h6 h5 ⊢
            have hn := numOf_nn [c3, c4, c5, c6]
            have hl1 := leOf_numOf [c0, c1]
            have hl2 := leOf_numOf [c3, c4, c5, c6]
            simp only [List.length_cons, List.length_nil] at hl1 hl2
            generalize numOf [c3, c4, c5, c6] = n0 at *
            obtain ⟨k, rfl⟩ := Int.eq_ofNat_of_zero_le hn
            simp only [Int.toNat_natCast] at e2 ⊢
            have hk : (r0.take k).length = k := by simp; omega
            refine ⟨by simp [e1], ?_, fun x hx => ?_⟩
            · rw [List.flatMap_cons, encIt8]
              simp only [hk, List.getD_cons_succ, List.getD_cons_zero, Int.toNat_natCast, UInt8.ofNat_toNat]
              rw [show leOf (numOf [c0, c1]) 2 = [c0, c1] from hl1, show leOf (k : Int) 4 = [c3, c4, c5, c6] from hl2]
              simp only [List.cons_append, List.nil_append, List.append_assoc]
              rw [← e2, List.take_append_drop]
            · rcases List.mem_cons.1 hx with rfl | hx
              · simp only [hk]; omega
              · exact e3 x hx

theorem decN_error (n : Nat) (bs : List UInt8) (e : Int) (h : decN n bs = .error e) : e = 2 ∨ e = 3 := by
  induction n generalizing bs with
  | zero => simp [decN] at h
  | succ n ih =>
    rw [decN] at h
    split at h
    · simp at h; omega
    · split at h
      · simp at h; omega
      · split at h
        · simp at h; omega
        · split at h
          · rename_i e2 h4
            simp at h
            subst h
            exact ih _ h4
          · simp at h

/-- What was read is written as it was. -/
theorem decOf_back (bs : List UInt8) (l : List It) (h : decOf bs = (l, 0)) : encOf l = bs ∧ (l.length : Int) ≤ 1024 ∧ ∀ x ∈ l, (x.2.2.length : Int) ≤ 65536 := by
  unfold decOf at h
  split at h
  · simp at h
  · rename_i h4
    split at h
    · simp at h
    · rename_i h1
      split at h
      · rename_i e he
        simp only [Prod.mk.injEq] at h
        rcases decN_error _ _ _ he with rfl | rfl <;> omega
      · rename_i l2 r he
        split at h
        · simp at h
        · rename_i hr
          simp only [Prod.mk.injEq, and_true] at h
          subst h
          obtain ⟨e1, e2, e3⟩ := decN_back _ _ _ _ he
          have hn := numOf_nn (bs.take 4)
          have hl := leOf_numOf (bs.take 4)
          rw [List.length_take, Nat.min_eq_left (by omega)] at hl
          have hrn : r = [] := List.eq_nil_of_length_eq_zero (by omega)
          subst hrn
          rw [List.append_nil] at e2
          refine ⟨?_, by omega, e3⟩
          unfold encOf
          rw [e1, ← e2, Int.toNat_of_nonneg hn, hl, List.take_append_drop]

end Go.Proofs.Ytmkkeglcjbogcaa
