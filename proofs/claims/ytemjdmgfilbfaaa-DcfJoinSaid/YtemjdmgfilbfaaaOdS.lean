/-
  Ordered entries: plain.
-/
import Derived.Test.YtemjdmgfilbfaaaOdP
namespace Go.Proofs.Ytemjdmgfilbfaaa
set_option linter.unusedVariables false

theorem insE_perm (x : En) (l : List En) : (insE x l).Perm (x :: l) := by
  induction l with
  | nil => exact List.Perm.refl _
  | cons y r ih =>
    unfold insE
    split
    · exact (ih.cons y).trans (List.Perm.swap x y r)
    · exact List.Perm.refl _
def Srt (l : List En) : Prop := l.Pairwise fun a b => plE a ≤ plE b
theorem insE_srt (x : En) (l : List En) (h : Srt l) : Srt (insE x l) := by
  unfold Srt at *
  induction l with
  | nil => simp [insE]
  | cons y r ih =>
    rw [List.pairwise_cons] at h
    unfold insE
    split
    · rename_i hlt
      rw [List.pairwise_cons]
      refine ⟨fun b hb => ?_, ih h.2⟩
      rcases List.mem_cons.1 ((insE_perm x r).mem_iff.1 hb) with rfl | hb
      · exact Int.le_of_lt hlt
      · exact h.1 b hb
    · rename_i hlt
      rw [List.pairwise_cons, List.pairwise_cons]
      refine ⟨fun b hb => ?_, h⟩
      rcases List.mem_cons.1 hb with rfl | hb
      · exact Int.not_lt.1 hlt
      · exact Int.le_trans (Int.not_lt.1 hlt) (h.1 b hb)
theorem foldE (l d : List En) : (l.foldl (fun d x => insE x d) d).Perm (d ++ l) := by
  induction l generalizing d with
  | nil => simp
  | cons x r ih =>
    rw [List.foldl_cons]
    refine (ih (insE x d)).trans ?_
    exact ((insE_perm x d).append_right r).trans (by simpa using (List.perm_middle (a := x) (l₁ := d) (l₂ := r)).symm)
theorem foldS (l d : List En) (h : Srt d) : Srt (l.foldl (fun d x => insE x d) d) := by
  induction l generalizing d with
  | nil => exact h
  | cons x r ih => exact ih _ (insE_srt x d h)
theorem sortE_perm (l : List En) : (sortE l).Perm l := by simpa [sortE] using foldE l []
theorem sortE_srt (l : List En) : Srt (sortE l) := foldS l [] List.Pairwise.nil

theorem chk_facts {l : List En} {seen : List Int} (h : chkE seen l = 0) : (∀ x ∈ l, entryE x = 0) ∧ (l.map plE).Nodup ∧ ∀ x ∈ l, plE x ∉ seen := by
  induction l generalizing seen with
  | nil => simp
  | cons x r ih =>
    unfold chkE at h
    split at h
    · exact absurd h (by assumption)
    · rename_i h1
      split at h
      · exact absurd h (by decide)
      · rename_i h2
        obtain ⟨i1, i2, i3⟩ := ih h
        refine ⟨fun y hy => ?_, ?_, fun y hy => ?_⟩
        · rcases List.mem_cons.1 hy with rfl | hy
          · exact Decidable.not_not.1 h1
          · exact i1 y hy
        · rw [List.map_cons, List.nodup_cons]
          refine ⟨fun hm => ?_, i2⟩
          obtain ⟨y, hy, e⟩ := List.mem_map.1 hm
          exact i3 y hy (by simp [e])
        · rcases List.mem_cons.1 hy with rfl | hy
          · exact h2
          · exact fun hm => i3 y hy (List.mem_append_left _ hm)
theorem check_facts {l : List En} (h : checkE l = 0) : l.length ≤ 1024 ∧ (∀ x ∈ l, entryE x = 0) ∧ (l.map plE).Nodup := by
  unfold checkE at h
  split at h
  · exact absurd h (by decide)
  · rename_i h1
    obtain ⟨a, b, _⟩ := chk_facts h
    exact ⟨by omega, a, b⟩
theorem nodup_of_map {α β : Type} {f : α → β} {l : List α} (h : (l.map f).Nodup) {x y : α} (hx : x ∈ l) (hy : y ∈ l) (e : f x = f y) : x = y := by
  induction l with
  | nil => cases hx
  | cons a r ih =>
    rw [List.map_cons, List.nodup_cons] at h
    rcases List.mem_cons.1 hx with rfl | hx
    · rcases List.mem_cons.1 hy with rfl | hy
      · rfl
      · exact absurd (List.mem_map.2 ⟨y, hy, e.symm⟩) h.1
    · rcases List.mem_cons.1 hy with e2 | hy
      · exact absurd (List.mem_map.2 ⟨x, hx, by rw [e, e2]⟩) h.1
      · exact ih h.2 hx hy
theorem newI_eq (l : List En) : l.map newI = (l.map plainE).map fun x => (x, x.df) := by
  rw [List.map_map]
  rfl
theorem plE_plain (x : En) : plE (plainE x) = plE x := rfl
theorem newD_perm (xs : List En) : (newD xs).Perm (xs.map newI) := by
  rw [newI_eq]
  exact (sortE_perm _).map _
theorem newD_srt (xs : List En) : (newD xs).Pairwise fun a b => plE a.1 ≤ plE b.1 := by
  unfold newD
  rw [List.pairwise_map]
  exact sortE_srt _
theorem newD_uniq {xs : List En} {l : List Im} (hn : (xs.map plE).Nodup) (hp : l.Perm (xs.map newI)) (hs : l.Pairwise fun a b => plE a.1 ≤ plE b.1) : l = newD xs := by
  refine List.Perm.eq_of_pairwise (le := fun a b => plE a.1 ≤ plE b.1) ?_ hs (newD_srt xs) (hp.trans (newD_perm xs).symm)
  intro a b ha hb h1 h2
  have e : plE a.1 = plE b.1 := Int.le_antisymm h1 h2
  have ha := hp.mem_iff.1 ha
  have hb := (newD_perm xs).mem_iff.1 hb
  obtain ⟨x, hx, rfl⟩ := List.mem_map.1 ha
  obtain ⟨y, hy, rfl⟩ := List.mem_map.1 hb
  rw [nodup_of_map hn hx hy e]
theorem newD_plE (xs : List En) (hn : (xs.map plE).Nodup) : ((newD xs).map fun x => plE x.1).Nodup := by
  have h := (newD_perm xs).map fun x => plE x.1
  refine h.nodup_iff.2 ?_
  rw [List.map_map]
  exact hn
theorem newD_len (xs : List En) : (newD xs).length = xs.length := by
  rw [(newD_perm xs).length_eq, List.length_map]
end Go.Proofs.Ytemjdmgfilbfaaa
