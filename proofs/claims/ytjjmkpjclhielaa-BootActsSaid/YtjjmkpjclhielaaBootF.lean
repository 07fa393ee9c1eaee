/-
  The walk of BootFair.
-/
import Derived.Test.YtjjmkpjclhielaaBootA
namespace Go.Proofs.Ytjjmkpjclhielaa
open Go.RowKit
set_option linter.unusedVariables false

/-- Of all nodes none was looked at twice more than another: all m times, or m + 1. -/
def FairAt (l : List Nd) (t m : Int) : Prop := (l.map (·.p.node)).Nodup ∧ 0 ≤ m ∧ m < t ∧ ∀ x ∈ l, (x.is = 0 ∧ x.looked = m) ∨ (x.looked = m + 1 ∧ ((m + 1 < t ∧ x.is = 0) ∨ (t ≤ m + 1 ∧ x.is = 2)))
theorem FairAt.new {ps : List Pl} {t : Int} (hn : (ps.map (·.node)).Nodup) (ht : 1 ≤ t) : FairAt (ps.map Nd.new) t 0 := by
  refine ⟨by simpa [Function.comp_def, Nd.new] using hn, Int.le_refl _, by omega, fun x hx => ?_⟩
  obtain ⟨p, hp, rfl⟩ := List.mem_map.1 hx
  exact .inl ⟨rfl, rfl⟩
theorem away_seen (y : Nd) (s : Sn) (t : Int) (hs : s.there = false) : y.seen s t = ⟨y.p, if t ≤ y.looked + 1 then 2 else 0, y.looked + 1, 66⟩ := by
  simp only [Nd.seen, judge_away y.p s hs]
  rw [if_neg (by omega)]
  have ha : againOf 66 = true := rfl
  simp [ha]
theorem FairAt.saw {l : List Nd} {t m : Int} {hh : Bool} (h : FairAt l t m) {n : Int} (hn : nextOf ⟨l, t, hh⟩ = (n, true)) (s : Sn) (hs : s.there = false) :
    hh = false ∧ ∃ k, placeN l n = some k ∧ (∀ x, l[k]? = some x → x.is = 0) ∧ ∃ m', FairAt (sawOf ⟨l, t, false⟩ n s).1.l t m' := by
  obtain ⟨hf, j, y, hp, hy, hyn, hy0, hmin⟩ := nextOf_some (b := ⟨l, t, hh⟩) h.1 hn
  have hf : hh = false := hf
  subst hf
  refine ⟨rfl, j, hp, fun x hx => by rw [hy] at hx; cases hx; exact hy0, ?_⟩
  have hsw := sawOf_open (b := ⟨l, t, false⟩) s hp hy hy0 rfl
  rw [hsw]
  simp only
  rw [away_seen y s t hs]
  have hmem : y ∈ l := List.mem_of_getElem? hy
  obtain ⟨hnd, hm0, hmt, hall⟩ := h
  have e : ∀ z : Nd, z.p = y.p → (l.set j z).map (·.p.node) = l.map (·.p.node) := fun z hz => set_own (b := ⟨l, t, false⟩) hnd hy hz
  have hyl := hall y hmem
  by_cases hex : ∃ x ∈ l, x.is = 0 ∧ x.looked = m
  · obtain ⟨x, hx, hx0, hxm⟩ := hex
    obtain ⟨i, hi, rfl⟩ := List.getElem_of_mem hx
    have := hmin i _ (List.getElem?_eq_getElem hi) hx0
    have hym : y.looked = m := by
      rcases hyl with h | h
      · exact h.2
      · omega
    refine ⟨m, by rw [e ⟨y.p, if t ≤ y.looked + 1 then 2 else 0, y.looked + 1, 66⟩ rfl]; exact hnd, hm0, hmt, fun z hz => ?_⟩
    rcases List.mem_or_eq_of_mem_set hz with hz | rfl
    · exact hall z hz
    · right
      simp only [hym]
      by_cases hc : t ≤ m + 1
      · rw [if_pos hc]; exact ⟨trivial, .inr ⟨hc, rfl⟩⟩
      · rw [if_neg hc]; exact ⟨trivial, .inl ⟨by omega, rfl⟩⟩
  · have hall2 : ∀ x ∈ l, x.looked = m + 1 := fun x hx => by
      rcases hall x hx with h | h
      · exact absurd ⟨x, hx, h⟩ hex
      · exact h.1
    have hyt : m + 1 < t := by
      rcases hyl with h | ⟨_, h | h⟩
      · exact absurd ⟨y, hmem, h⟩ hex
      · exact h.1
      · omega
    refine ⟨m + 1, by rw [e ⟨y.p, if t ≤ y.looked + 1 then 2 else 0, y.looked + 1, 66⟩ rfl]; exact hnd, by omega, hyt, fun z hz => ?_⟩
    rcases List.mem_or_eq_of_mem_set hz with hz | rfl
    · left
      rcases hall z hz with h | ⟨_, h | h⟩
      · exact absurd ⟨z, hz, h⟩ hex
      · exact ⟨h.2, hall2 z hz⟩
      · omega
    · right
      simp only [hall2 y hmem]
      by_cases hc : t ≤ m + 1 + 1
      · rw [if_pos hc]; exact ⟨trivial, .inr ⟨hc, rfl⟩⟩
      · rw [if_neg hc]; exact ⟨trivial, .inl ⟨by omega, rfl⟩⟩
theorem FairAt.status {l : List Nd} {t m : Int} (h : FairAt l t m) {n : Int} (hn : n ∈ l.map (·.p.node)) : ∃ st lk, statusOf l n = (st, lk, true) ∧ m ≤ lk ∧ lk ≤ m + 1 := by
  obtain ⟨x, hx, rfl⟩ := List.mem_map.1 hn
  obtain ⟨j, hj, rfl⟩ := List.getElem_of_mem hx
  have hp := placeN_self h.1 (List.getElem?_eq_getElem hj)
  refine ⟨l[j].status, l[j].looked, ?_, ?_⟩
  · unfold statusOf
    rw [hp]
    simp only
    rw [List.getElem?_eq_getElem hj]
  · rcases h.2.2.2 _ hx with h | h
    · omega
    · omega
theorem saw_nodes {b : Bs} {n : Int} {s : Sn} : (sawOf b n s).1.l.map (·.p.node) = b.l.map (·.p.node) := by
  unfold sawOf
  split
  · rfl
  · split
    · rfl
    · rename_i i _ x hx
      split
      · rfl
      · simp only
        obtain ⟨hj, rfl⟩ := List.getElem?_eq_some_iff.1 hx
        rw [List.map_set]
        apply List.ext_getElem (by simp)
        intro q h1 h2
        rw [List.getElem_set]
        split
        · rename_i e; subst e; simp [Nd.seen]
        · rfl
end Go.Proofs.Ytjjmkpjclhielaa
