/-
  Plain: where an entry is put in order.
-/
import Derived.Test.YtemjdmgfilbfaaaOdS
namespace Go.Proofs.Ytemjdmgfilbfaaa
set_option linter.unusedVariables false

theorem insE_at (x : En) (l : List En) (k : Nat) (hk : k ≤ l.length) (h1 : ∀ (j : Nat) (hj : j < l.length), j < k → plE l[j] < plE x) (h2 : ∀ hk : k < l.length, ¬ plE l[k] < plE x) : insE x l = l.take k ++ x :: l.drop k := by
  induction l generalizing k with
  | nil => simp at hk; subst hk; rfl
  | cons y r ih =>
    cases k with
    | zero =>
      have := h2 (by simp)
      simp only [List.getElem_cons_zero] at this
      unfold insE
      rw [if_neg this]
      rfl
    | succ k =>
      have := h1 0 (by simp) (by omega)
      simp only [List.getElem_cons_zero] at this
      unfold insE
      rw [if_pos this, ih k (by simpa using hk) (fun j hj hjk => ?_) (fun hk => ?_)]
      · rfl
      · exact h1 (j + 1) (by simpa using hj) (by omega)
      · have := h2 (by simpa using hk)
        simpa using this
/-- The entries that stand after k of them are handed in. -/
def putE (xs : List En) (k : Nat) : List En := ((xs.take k).map plainE).foldl (fun d x => insE x d) []
theorem putE_zero (xs : List En) : putE xs 0 = [] := rfl
theorem putE_succ (xs : List En) (k : Nat) (hk : k < xs.length) : putE xs (k + 1) = insE (plainE xs[k]) (putE xs k) := by
  unfold putE
  rw [List.take_succ_eq_append_getElem hk, List.map_append, List.foldl_append]
  rfl
theorem putE_all (xs : List En) : (putE xs xs.length).map (fun x => (x, x.df)) = newD xs := by
  unfold putE newD sortE
  rw [List.take_length]
theorem putE_len (xs : List En) (k : Nat) (hk : k ≤ xs.length) : (putE xs k).length = k := by
  unfold putE
  have := (foldE ((xs.take k).map plainE) []).length_eq
  rw [this]
  simp
  omega
theorem putE_mem (xs : List En) (k : Nat) (x : En) (h : x ∈ putE xs k) : ∃ y ∈ xs, x = plainE y := by
  unfold putE at h
  have h2 := (foldE ((xs.take k).map plainE) []).mem_iff.1 h
  rw [List.nil_append] at h2
  obtain ⟨y, hy, e⟩ := List.mem_map.1 h2
  exact ⟨y, List.mem_of_mem_take hy, e.symm⟩
end Go.Proofs.Ytemjdmgfilbfaaa
