/-
  Plain: what comes of looking at nodes again and again.
-/
import Derived.Test.YtjjmkpjclhielaaBootD
namespace Go.Proofs.Ytjjmkpjclhielaa
set_option linter.unusedVariables false

theorem bestI_none {l : List Nd} {k : Nat} (h : bestI l k = none) : ∀ i x, i < k → l[i]? = some x → x.is ≠ 0 := by
  induction k with
  | zero => intro i x hi; omega
  | succ k ih =>
    rw [bestI] at h
    intro i x hi hx
    split at h
    · rename_i hn
      rcases Nat.lt_succ_iff_lt_or_eq.1 hi with hi | rfl
      · exact ih h i x hi hx
      · rw [hn] at hx; cases hx
    · rename_i z hz
      split at h
      · split at h
        · cases h
        · split at h
          · split at h <;> cases h
          · cases h
      · rename_i hz0
        rcases Nat.lt_succ_iff_lt_or_eq.1 hi with hi | rfl
        · exact ih h i x hi hx
        · rw [hz] at hx; cases hx; exact hz0

theorem bestI_some {l : List Nd} {k j : Nat} (h : bestI l k = some j) : j < k ∧ ∃ y, l[j]? = some y ∧ y.is = 0 ∧ ∀ i x, i < k → l[i]? = some x → x.is = 0 → y.looked ≤ x.looked := by
  induction k generalizing j with
  | zero => simp [bestI] at h
  | succ k ih =>
    rw [bestI] at h
    split at h
    · rename_i hn
      obtain ⟨h1, y, h2, h3, h4⟩ := ih h
      refine ⟨by omega, y, h2, h3, fun i x hi hx => ?_⟩
      rcases Nat.lt_succ_iff_lt_or_eq.1 hi with hi | rfl
      · exact h4 i x hi hx
      · rw [hn] at hx; cases hx
    · rename_i x hx
      split at h
      · rename_i h0
        split at h
        · rename_i hb
          cases h
          refine ⟨by omega, x, hx, h0, fun i x' hi hx' h0' => ?_⟩
          rcases Nat.lt_succ_iff_lt_or_eq.1 hi with hi | rfl
          · exact absurd h0' (bestI_none hb i x' hi hx')
          · rw [hx] at hx'; cases hx'; exact Int.le_refl _
        · rename_i j' hb
          obtain ⟨h1, y, h2, h3, h4⟩ := ih hb
          rw [h2] at h
          simp only at h
          split at h
          · rename_i hlt
            cases h
            refine ⟨by omega, x, hx, h0, fun i x' hi hx' h0' => ?_⟩
            rcases Nat.lt_succ_iff_lt_or_eq.1 hi with hi | rfl
            · have := h4 i x' hi hx' h0'; omega
            · rw [hx] at hx'; cases hx'; exact Int.le_refl _
          · rename_i hge
            cases h
            refine ⟨by omega, y, h2, h3, fun i x' hi hx' h0' => ?_⟩
            rcases Nat.lt_succ_iff_lt_or_eq.1 hi with hi | rfl
            · exact h4 i x' hi hx' h0'
            · rw [hx] at hx'; cases hx'; omega
      · rename_i h0
        obtain ⟨h1, y, h2, h3, h4⟩ := ih h
        refine ⟨by omega, y, h2, h3, fun i x' hi hx' h0' => ?_⟩
        rcases Nat.lt_succ_iff_lt_or_eq.1 hi with hi | rfl
        · exact h4 i x' hi hx' h0'
        · rw [hx] at hx'; cases hx'; exact absurd h0' h0
/-- All nodes have numbers of their own. -/
def Own1 (b : Bs) : Prop := (b.l.map (·.p.node)).Nodup
theorem placeN_self {l : List Nd} (h : (l.map (·.p.node)).Nodup) {j : Nat} {y : Nd} (hy : l[j]? = some y) : placeN l y.p.node = some j := by
  unfold placeN
  rw [List.findIdx?_eq_some_iff_getElem]
  obtain ⟨hj, rfl⟩ := List.getElem?_eq_some_iff.1 hy
  refine ⟨hj, by simp, fun i hi => ?_⟩
  simp only [beq_iff_eq]
  intro e
  have := List.pairwise_iff_getElem.1 h i j (by simp; omega) (by simp; omega) hi
  simp at this
  exact this e
theorem placeN_some {l : List Nd} {n : Int} {i : Nat} (h : placeN l n = some i) : ∃ y, l[i]? = some y ∧ y.p.node = n := by
  unfold placeN at h
  rw [List.findIdx?_eq_some_iff_getElem] at h
  obtain ⟨hi, h1, _⟩ := h
  exact ⟨l[i], List.getElem?_eq_getElem hi, by simpa using h1⟩
theorem placeN_none {l : List Nd} {n : Int} (h : placeN l n = none) : ∀ x ∈ l, x.p.node ≠ n := by
  unfold placeN at h
  rw [List.findIdx?_eq_none_iff] at h
  intro x hx
  have := h x hx
  simpa using this

/-- What Next says, where there is one. -/
theorem nextOf_some {b : Bs} {n : Int} (ho : Own1 b) (h : nextOf b = (n, true)) : b.halted = false ∧ ∃ j y, placeN b.l n = some j ∧ b.l[j]? = some y ∧ y.p.node = n ∧ y.is = 0 ∧ ∀ (i : Nat) (x : Nd), b.l[i]? = some x → x.is = 0 → y.looked ≤ x.looked := by
  unfold nextOf at h
  split at h
  · simp at h
  · rename_i j hj
    obtain ⟨h1, y, h2, h3, h4⟩ := bestI_some hj
    split at h
    · simp at h
    · rename_i hh
      rw [h2] at h
      simp only [Prod.mk.injEq, and_true] at h
      subst h
      refine ⟨by simpa using hh, j, y, placeN_self ho h2, h2, rfl, h3, fun i x hx => h4 i x (List.getElem?_eq_some_iff.1 hx).1 hx⟩
theorem nextOf_none {b : Bs} {n : Int} (h : nextOf b = (n, false)) : n = 0 ∧ (b.halted = true ∨ ∀ x ∈ b.l, x.is ≠ 0) := by
  unfold nextOf at h
  split at h
  · rename_i hj
    simp at h
    refine ⟨h.symm, .inr fun x hx => ?_⟩
    obtain ⟨i, hi, rfl⟩ := List.getElem_of_mem hx
    exact bestI_none hj i _ hi (List.getElem?_eq_getElem hi)
  · rename_i j hj
    split at h
    · rename_i hh
      simp at h
      exact ⟨h.symm, .inl hh⟩
    · obtain ⟨h1, y, h2, _⟩ := bestI_some hj
      rw [h2] at h
      simp at h

/-- What a look at an open node does. -/
theorem sawOf_open {b : Bs} {n : Int} {j : Nat} {y : Nd} (s : Sn) (hp : placeN b.l n = some j) (hy : b.l[j]? = some y) (h0 : y.is = 0) (hh : b.halted = false) :
    sawOf b n s = (⟨b.l.set j (y.seen s b.tries), b.tries, (decide ((y.seen s b.tries).is = 2) && y.p.mand)⟩, (judgeOf y.p s).1, (judgeOf y.p s).2, 0) := by
  unfold sawOf
  rw [hp]
  simp only
  rw [hy]
  simp only
  rw [if_neg (by simp [h0, hh]), hh]
  simp
theorem set_own {b : Bs} {j : Nat} {y z : Nd} (ho : Own1 b) (hy : b.l[j]? = some y) (hz : z.p = y.p) : ((b.l.set j z).map (·.p.node)) = b.l.map (·.p.node) := by
  obtain ⟨hj, rfl⟩ := List.getElem?_eq_some_iff.1 hy
  rw [List.map_set, hz]
  apply List.ext_getElem
  · simp
  · intro i h1 h2
    rw [List.getElem_set]
    split
    · rename_i e; subst e; simp
    · rfl
end Go.Proofs.Ytjjmkpjclhielaa
