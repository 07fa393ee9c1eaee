/-
  Plain: a dictionary of entries from the back is the same one.
-/
import Derived.Test.YtemjdmgfilbfaaaOdX
namespace Go.Proofs.Ytemjdmgfilbfaaa
set_option linter.unusedVariables false

theorem chk_of {l : List En} {seen : List Int} (h1 : ∀ x ∈ l, entryE x = 0) (h2 : (l.map plE).Nodup) (h3 : ∀ x ∈ l, plE x ∉ seen) : chkE seen l = 0 := by
  induction l generalizing seen with
  | nil => rfl
  | cons x r ih =>
    rw [List.map_cons, List.nodup_cons] at h2
    unfold chkE
    rw [if_neg (by rw [h1 x (List.mem_cons_self ..)]; simp), if_neg (h3 x (List.mem_cons_self ..))]
    refine ih (fun y hy => h1 y (List.mem_cons_of_mem _ hy)) h2.2 fun y hy hm => ?_
    rcases List.mem_append.1 hm with hm | hm
    · exact h3 y (List.mem_cons_of_mem _ hy) hm
    · simp at hm
      exact h2.1 (List.mem_map.2 ⟨y, hy, hm⟩)
theorem check_rev {l : List En} (h : checkE l = 0) : checkE l.reverse = 0 := by
  obtain ⟨a, b, c⟩ := check_facts h
  unfold checkE
  rw [List.length_reverse, if_neg (by omega)]
  refine chk_of (fun x hx => b x (List.mem_reverse.1 hx)) ?_ (by simp)
  rw [List.map_reverse]
  exact (List.reverse_perm _).nodup_iff.2 c
theorem newD_rev {l : List En} (h : checkE l = 0) : newD l.reverse = newD l := by
  obtain ⟨_, _, c⟩ := check_facts h
  refine newD_uniq c ?_ (newD_srt _)
  exact (newD_perm _).trans ((List.reverse_perm l).map _)
end Go.Proofs.Ytemjdmgfilbfaaa
