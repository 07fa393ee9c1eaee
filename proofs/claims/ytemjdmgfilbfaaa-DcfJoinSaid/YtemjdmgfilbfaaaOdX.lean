/-
  OdLimits: the plain law.
-/
import Derived.Test.YtemjdmgfilbfaaaOdW
namespace Go.Proofs.Ytemjdmgfilbfaaa
set_option linter.unusedVariables false

/-- What holds of a dictionary of these entries, whatever is written. -/
structure LInv (xs : List En) (d : List Im) : Prop where
  ok : DOk d
  fst : d.map (·.1) = (newD xs).map (·.1)
  lim : ∀ x ∈ d, x.1.lim = true → withinE x.1 x.2 = (0, true)
  con : ∀ x ∈ d, x.1.acc ≠ 2 → x.1.acc ≠ 1 → x.2 = x.1.df

theorem order_plain {v m : Va} (h : sizeT v.ty ≠ 0) : orderV (plainV v) m = orderV v m := by
  have e : plainV v = ⟨v.ty, v.n, []⟩ := by unfold plainV; rw [if_pos h]
  have c : checkV (plainV v) = checkV v := by
    rw [e]
    unfold checkV
    simp only [h, ne_eq, not_false_eq_true, if_true]
  unfold orderV
  rw [c]
  simp only [e, h, if_false]
theorem within_plain {x : En} {v : Va} (h : sizeT v.ty ≠ 0) : withinE (plainE x) (plainV v) = withinE x v := by
  have e1 : (plainE x).mn = x.mn := rfl
  have e2 : (plainE x).mx = x.mx := rfl
  unfold withinE
  rw [e1, e2, order_plain h, order_plain h]
theorem entry_lim {x : En} (h : entryE x = 0) (hl : x.lim = true) : sizeT x.df.ty ≠ 0 ∧ withinE x x.df = (0, true) := by
  unfold entryE at h
  by_cases h0 : checkV x.df = 0
  · rw [if_neg (by simpa using h0)] at h
    by_cases h1 : x.acc < 0 ∨ 3 < x.acc ∨ (x.mp = true ∧ numE x = false) ∨ (x.lim = true ∧ ¬ (numE x = true ∧ withinE x x.df = (0, true)))
    · rw [if_pos h1] at h; exact absurd h (by decide)
    · have h2 : ¬ (x.lim = true ∧ ¬ (numE x = true ∧ withinE x x.df = (0, true))) := fun h => h1 (.inr (.inr (.inr h)))
      have h3 : numE x = true ∧ withinE x x.df = (0, true) := Decidable.byContradiction fun h => h2 ⟨hl, h⟩
      exact ⟨by simpa [numE] using h3.1, h3.2⟩
  · rw [if_pos h0] at h; exact absurd h h0
theorem newD_ok {xs : List En} (h : checkE xs = 0) (hx : ∀ x ∈ xs, x.ok) : DOk (newD xs) := by
  obtain ⟨h1, h2, h3⟩ := check_facts h
  refine ⟨?_, fun y hy => ?_, by rw [newD_len]; exact h1⟩
  · have a := newD_srt xs
    have b := newD_plE xs h3
    rw [List.Nodup, List.pairwise_map] at b
    exact (a.and b).imp fun {x y} h => by have := h.1; have := h.2; omega
  · obtain ⟨x, hm, rfl⟩ := List.mem_map.1 ((newD_perm xs).mem_iff.1 hy)
    exact ⟨plainE_ok (hx x hm), plainV_ok (hx x hm).2.2.2.2.2.2⟩
theorem linv_new {xs : List En} (h : checkE xs = 0) (hx : ∀ x ∈ xs, x.ok) : LInv xs (newD xs) := by
  obtain ⟨h1, h2, h3⟩ := check_facts h
  refine ⟨newD_ok h hx, rfl, fun y hy hl => ?_, fun y hy _ _ => ?_⟩
  · obtain ⟨x, hm, rfl⟩ := List.mem_map.1 ((newD_perm xs).mem_iff.1 hy)
    obtain ⟨e1, e2⟩ := entry_lim (h2 x hm) hl
    exact (within_plain e1).trans e2
  · obtain ⟨x, hm, rfl⟩ := List.mem_map.1 ((newD_perm xs).mem_iff.1 hy)
    rfl
theorem withinC_zero {x : En} {v : Va} (h : withinC x v = 0) : withinE x v = (0, true) := by
  unfold withinC at h
  by_cases h1 : (withinE x v).2 = false
  · rw [if_pos h1] at h; exact absurd h (by decide)
  · rw [if_neg h1] at h
    exact Prod.ext h (by simpa using h1)
theorem take_zero {x : En} {b : List UInt8} (h : (takeE x b).1 = 0) : (x.acc = 1 ∨ x.acc = 2) ∧ (x.lim = true → withinE x (takeE x b).2 = (0, true)) := by
  unfold takeE at *
  by_cases h1 : x.acc ≠ 1 ∧ x.acc ≠ 2
  · rw [if_pos h1] at h; exact absurd h (by show ¬ codeNoWrite = 0; decide)
  · simp only [if_neg h1] at *
    refine ⟨by omega, fun hl => ?_⟩
    by_cases h3 : (decV x.df.ty b).2 = 3
    · rw [if_pos h3] at h; exact absurd h (by show ¬ codeShort = 0; decide)
    · simp only [if_neg h3] at *
      by_cases h2 : (decV x.df.ty b).2 = 2
      · rw [if_pos h2] at h; exact absurd h (by show ¬ codeLong = 0; decide)
      · simp only [if_neg h2] at *
        by_cases h0 : (decV x.df.ty b).2 ≠ 0
        · rw [if_pos h0] at h; exact absurd h (by show ¬ codeBad = 0; decide)
        · simp only [if_neg h0, if_pos hl] at *
          exact withinC_zero h
theorem linv_write {xs : List En} {d : List Im} (h : LInv xs d) (i s : Int) (b : List UInt8) : LInv xs (writeD d i s b) := by
  refine ⟨h.ok.write i s b, ?_, ?_, ?_⟩
  · rw [← h.fst]
    unfold writeD
    split
    · rfl
    · split
      · rfl
      · rename_i x hx
        split
        · obtain ⟨hk, rfl⟩ := List.getElem?_eq_some_iff.1 hx
          apply List.ext_getElem (by simp)
          intro j h1 h2
          rw [List.getElem_map, List.getElem_map, List.getElem_set]
          split
          · rename_i e; subst e; rfl
          · rfl
        · rfl
  · unfold writeD
    split
    · exact h.lim
    · split
      · exact h.lim
      · rename_i k _ x hx
        split
        · rename_i ht
          intro y hy hl
          rcases List.mem_or_eq_of_mem_set hy with hy | rfl
          · exact h.lim y hy hl
          · exact (take_zero ht).2 hl
        · exact h.lim
  · unfold writeD
    split
    · exact h.con
    · split
      · exact h.con
      · rename_i k _ x hx
        split
        · rename_i ht
          intro y hy h2 h1
          rcases List.mem_or_eq_of_mem_set hy with hy | rfl
          · exact h.con y hy h2 h1
          · rcases (take_zero ht).1 with e | e
            · exact absurd e h1
            · exact absurd e h2
        · exact h.con
/-- What Get tells of an entry that was handed in. -/
theorem get_there {xs : List En} {d : List Im} (h : LInv xs d) (hx : ∀ x ∈ xs, x.ok) {x : En} (hm : x ∈ xs) : ∃ v, getD2 d x.idx x.sub = (v, 0) ∧ (plainE x, v) ∈ d := by
  have h1 : plainE x ∈ d.map (·.1) := by
    rw [h.fst]
    exact List.mem_map.2 ⟨newI x, (newD_perm xs).mem_iff.2 (List.mem_map.2 ⟨x, hm, rfl⟩), rfl⟩
  obtain ⟨y, hy, e⟩ := List.mem_map.1 h1
  obtain ⟨k, hk, rfl⟩ := List.getElem_of_mem hy
  have hs := (hx x hm).2.2
  have hf := find_hit h.ok (i := x.idx) (s := x.sub) ⟨hs.1, hs.2.1⟩ hk (by rw [e]; rfl)
  refine ⟨d[k].2, ?_, ?_⟩
  · unfold getD2
    rw [hf.1]
    simp [hk]
  · rw [← e]; exact hy
theorem limits_facts {xs : List En} {d : List Im} (h : LInv xs d) (hx : ∀ x ∈ xs, x.ok) {x : En} (hm : x ∈ xs) : ∃ v : Va, getD2 d x.idx x.sub = (v, 0) ∧ v.ok ∧ (x.lim = true → withinE x v = (0, true)) ∧ (x.acc ≠ 2 → x.acc ≠ 1 → v = plainV x.df) := by
  obtain ⟨v, hg, hy⟩ := get_there h hx hm
  exact ⟨v, hg, (h.ok.ok _ hy).2, fun hl => h.lim _ hy hl, fun h2 h1 => h.con _ hy h2 h1⟩
end Go.Proofs.Ytemjdmgfilbfaaa
