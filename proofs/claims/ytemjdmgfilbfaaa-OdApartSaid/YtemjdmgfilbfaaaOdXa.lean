/-
  Plain: what is written, or set, to one entry leaves all others.
-/
import Derived.Test.YtemjdmgfilbfaaaOdX
import Derived.Test.YtemjdmgfilbfaaaOdZ
namespace Go.Proofs.Ytemjdmgfilbfaaa
set_option linter.unusedVariables false

/-- The dictionary as it was, or with another value of one entry. -/
def Upd (d d' : List Im) (i s : Int) : Prop := d' = d ∨ ∃ (k : Nat) (hk : k < d.length) (v : Va), v.ok ∧ findD d i s = some k ∧ d' = d.set k (d[k].1, v)
theorem upd_write {d : List Im} (i s : Int) (b : List UInt8) : Upd d (writeD d i s b) i s := by
  unfold writeD
  cases hf : findD d i s with
  | none => exact .inl rfl
  | some k =>
    have hk : k < d.length := by
      unfold findD at hf
      obtain ⟨h, _⟩ := List.findIdx?_eq_some_iff_getElem.1 hf
      exact h
    simp only [List.getElem?_eq_getElem hk]
    split
    · refine .inr ⟨k, hk, _, ?_, hf, rfl⟩
      unfold takeE
      split
      · exact ⟨by simp [Va.zero], by simp [Va.zero, two64], by simp [Va.zero]⟩
      · split
        · exact decV_ok _ _
        · split
          · exact decV_ok _ _
          · split
            · exact decV_ok _ _
            · split <;> exact decV_ok _ _
    · exact .inl rfl
theorem upd_set {d : List Im} (i s : Int) (v : Va) (hv : v.ok) : Upd d (setD d i s v).1 i s := by
  unfold setD
  cases hf : findD d i s with
  | none => exact .inl rfl
  | some k =>
    have hk : k < d.length := by
      unfold findD at hf
      obtain ⟨h, _⟩ := List.findIdx?_eq_some_iff_getElem.1 hf
      exact h
    simp only [List.getElem?_eq_getElem hk]
    split
    · exact .inl rfl
    · exact .inr ⟨k, hk, _, plainV_ok hv, hf, rfl⟩
theorem find_fst (d : List Im) (i s : Int) : findD d i s = (d.map (·.1)).findIdx? (fun x => x.idx == i && x.sub == s) := by
  unfold findD
  rw [List.findIdx?_map]
  rfl
theorem set_fst (d : List Im) (k : Nat) (hk : k < d.length) (v : Va) : (d.set k (d[k].1, v)).map (·.1) = d.map (·.1) := by
  rw [List.map_set]
  have : (d.map (·.1))[k]'(by simpa using hk) = d[k].1 := by simp
  conv => lhs; rw [← this]
  exact List.set_getElem_self _
theorem upd_ok {d d' : List Im} {i s : Int} (h : Upd d d' i s) (hd : DOk d) : DOk d' := by
  rcases h with rfl | ⟨k, hk, v, hv, _, rfl⟩
  · exact hd
  · exact hd.upd hk v hv
theorem apart_facts {xs : List En} {d d' : List Im} {i s : Int} (h : LInv xs d) (hx : ∀ x ∈ xs, x.ok) (hU : Upd d d' i s) {x : En} (hm : x ∈ xs) :
    ∃ v v' : Va, getD2 d x.idx x.sub = (v, 0) ∧ getD2 d' x.idx x.sub = (v', 0) ∧ (v' = v ∨ (x.idx = i ∧ x.sub = s)) := by
  obtain ⟨v, hv, _⟩ := get_there h hx hm
  rcases hU with rfl | ⟨k, hk, u, _, hf, rfl⟩
  · exact ⟨v, v, hv, hv, .inl rfl⟩
  · have hfe : findD (d.set k (d[k].1, u)) x.idx x.sub = findD d x.idx x.sub := by rw [find_fst, find_fst, set_fst d k hk u]
    cases hfx : findD d x.idx x.sub with
    | none =>
      unfold getD2 at hv
      rw [hfx] at hv
      simp at hv
    | some j =>
      have hj : j < d.length := by
        unfold findD at hfx
        obtain ⟨h, _⟩ := List.findIdx?_eq_some_iff_getElem.1 hfx
        exact h
      have e1 : getD2 d x.idx x.sub = (d[j].2, 0) := by unfold getD2; rw [hfx]; simp [hj]
      have e2 : getD2 (d.set k (d[k].1, u)) x.idx x.sub = (((d.set k (d[k].1, u))[j]'(by simpa using hj)).2, 0) := by unfold getD2; rw [hfe, hfx]; simp [hj]
      rw [e1] at hv
      refine ⟨d[j].2, _, e1, e2, ?_⟩
      by_cases hkj : k = j
      · subst hkj
        refine .inr ?_
        unfold findD at hf hfx
        obtain ⟨_, p1, _⟩ := List.findIdx?_eq_some_iff_getElem.1 hf
        obtain ⟨_, p2, _⟩ := List.findIdx?_eq_some_iff_getElem.1 hfx
        unfold isAt at p1 p2
        simp at p1 p2
        omega
      · refine .inl ?_
        rw [List.getElem_set_ne hkj]
end Go.Proofs.Ytemjdmgfilbfaaa
