/-
  What every act keeps: the plans, and that nobody is looked at more often than there are tries.
-/
import Derived.Test.YtjjmkpjclhielaaBootQ2
namespace Go.Proofs.Ytjjmkpjclhielaa
open Go.RowKit
set_option linter.unusedVariables false

/-- The plans are ps; nobody was looked at more than t times, and who is open less than that. -/
def Keeps (ps : List Pl) (t : Int) (l : List Nd) : Prop := l.map (·.p) = ps ∧ ∀ y ∈ l, 0 ≤ y.looked ∧ y.looked ≤ t ∧ (y.is = 0 → y.looked < t)

theorem Keeps.new (ps : List Pl) {t : Int} (ht : 1 ≤ t) : Keeps ps t (ps.map Nd.new) := ⟨by simp [Nd.new, Function.comp_def], fun y hy => by
  obtain ⟨p, _, rfl⟩ := List.mem_map.1 hy
  refine ⟨by simp [Nd.new], by simp only [Nd.new]; omega, fun _ => by simp only [Nd.new]; omega⟩⟩

theorem Keeps.set {ps : List Pl} {t : Int} {l : List Nd} (h : Keeps ps t l) {i : Nat} {x : Nd} (hx : l[i]? = some x) {z : Nd} (hp : z.p = x.p) (hz : 0 ≤ z.looked ∧ z.looked ≤ t ∧ (z.is = 0 → z.looked < t)) : Keeps ps t (l.set i z) := by
  obtain ⟨hi, rfl⟩ := List.getElem?_eq_some_iff.1 hx
  refine ⟨?_, fun y hy => ?_⟩
  · rw [List.map_set, hp, ← h.1]
    apply List.ext_getElem?
    intro j
    rw [List.getElem?_set]
    split
    · subst j; simp [hi]
    · rfl
  · rcases List.mem_or_eq_of_mem_set hy with hm | rfl
    · exact h.2 y hm
    · exact hz

theorem seen_is {x : Nd} {s : Sn} {t : Int} (h : (x.seen s t).is = 0) : x.looked + 1 < t := by
  unfold Nd.seen at h
  simp only at h
  split at h
  · omega
  · split at h
    · omega
    · rename_i h2
      exact Classical.byContradiction fun h3 => h2 (Or.inr (by omega))

theorem Keeps.saw {ps : List Pl} {b : Bs} (h : Keeps ps b.tries b.l) (n : Int) (s : Sn) : Keeps ps b.tries (sawOf b n s).1.l := by
  unfold sawOf
  cases hp : placeN b.l n with
  | none => exact h
  | some i =>
    obtain ⟨x, hx, _⟩ := placeN_some hp
    simp only [hx]
    split
    · exact h
    · rename_i hs
      have h1 := h.2 x (List.mem_of_getElem? hx)
      have h0 : x.is = 0 := Classical.byContradiction fun e => hs (Or.inl e)
      have h2 := h1.2.2 h0
      exact h.set hx rfl ⟨by simp only [Nd.seen]; omega, by simp only [Nd.seen]; omega, fun hz => by simp only [Nd.seen]; exact seen_is hz⟩
theorem Keeps.lost {ps : List Pl} {t : Int} {b : Bs} (ht : 1 ≤ t) (h : Keeps ps t b.l) (n : Int) : Keeps ps t (lostN b n).1.l := by
  unfold lostN
  cases hp : placeN b.l n with
  | none => exact h
  | some i =>
    obtain ⟨x, hx, _⟩ := placeN_some hp
    simp only [hx]
    split
    · exact h
    · exact h.set hx rfl ⟨by simp [Nd.new], by simp only [Nd.new]; omega, fun _ => by simp only [Nd.new]; omega⟩

theorem saw_tries (b : Bs) (n : Int) (s : Sn) : (sawOf b n s).1.tries = b.tries := by
  unfold sawOf
  split
  · rfl
  · split
    · rfl
    · split <;> rfl
theorem lost_tries (b : Bs) (n : Int) : (lostN b n).1.tries = b.tries := by
  unfold lostN
  split
  · rfl
  · split
    · rfl
    · split <;> rfl
theorem lost_halted (b : Bs) (n : Int) : (lostN b n).1.halted = b.halted := by
  unfold lostN
  split
  · rfl
  · split
    · rfl
    · split <;> rfl

theorem Keeps.nodup {ps : List Pl} {t : Int} {l : List Nd} (h : Keeps ps t l) (hn : (ps.map (·.node)).Nodup) : (l.map (·.p.node)).Nodup := by
  have : l.map (·.p.node) = ps.map (·.node) := by rw [← h.1]; simp [Function.comp_def]
  rw [this]; exact hn
theorem Keeps.range {ps : List Pl} {t : Int} {l : List Nd} (h : Keeps ps t l) (hn : ∀ p ∈ ps, 1 ≤ p.node ∧ p.node ≤ 127) : ∀ x ∈ l, 1 ≤ x.p.node ∧ x.p.node ≤ 127 := fun x hx => hn x.p (by rw [← h.1]; exact List.mem_map_of_mem hx)
theorem Keeps.len {ps : List Pl} {t : Int} {l : List Nd} (h : Keeps ps t l) : l.length = ps.length := by rw [← h.1]; simp
end Go.Proofs.Ytjjmkpjclhielaa
