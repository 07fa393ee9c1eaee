/-
  The plain law behind BeatApart and BeatWatches: what is told of a node hangs on its beats and the ticks alone. No program in sight.
-/
import Derived.Test.YtmkkeglcjbogcaaTake
namespace Go.Proofs.Ytmkkeglcjbogcaa
open Go.RowKit
set_option linter.unusedVariables false
set_option linter.unusedSimpArgs false

def takeWd (x : Wd) (bs : List UInt8) : Wd × List News × Bool := if bs.length = 1 then x.take (bs.headD 0).toNat else (x, [], false)
def mine (ns : List News) (n : Int) : List News := ns.filter fun a => decide (a.1 = n)

theorem take_node (x : Wd) (c : Int) : (x.take c).1.node = x.node ∧ ∀ a ∈ (x.take c).2.1, a.1 = x.node := by
  unfold Wd.take
  split
  · simp
  · split
    · simp only
      refine ⟨trivial, fun a ha => ?_⟩
      split at ha
      · simp at ha; rw [ha]
      · split at ha <;> simp at ha
        rw [ha]
    · simp
theorem takeWd_node (x : Wd) (bs : List UInt8) : (takeWd x bs).1.node = x.node ∧ ∀ a ∈ (takeWd x bs).2.1, a.1 = x.node := by
  unfold takeWd
  split
  · exact take_node x _
  · simp
theorem tick_node (x : Wd) : (x.tick).1.node = x.node ∧ ∀ a ∈ (x.tick).2, a.1 = x.node := by
  unfold Wd.tick
  split
  · simp
  · split <;> simp

/-- The numbers of a watched node are in their ranges. -/
def Wd.ok (x : Wd) : Prop := 1 ≤ x.ticks ∧ x.ticks ≤ 4294967296 ∧ 0 ≤ x.since ∧ x.since ≤ x.ticks ∧ (x.there = true → x.lost = false → x.since < x.ticks)
theorem ok_take {x : Wd} (h : x.ok) (c : Int) : (x.take c).1.ok := by
  obtain ⟨h1, h2, h3, h4, h5⟩ := h
  unfold Wd.take
  split
  · exact ⟨h1, h2, Int.le_refl _, by simp only; omega, fun h => by simp at h⟩
  · split
    · exact ⟨h1, h2, Int.le_refl _, by simp only; omega, fun _ _ => by simp only; omega⟩
    · exact ⟨h1, h2, h3, h4, h5⟩
theorem ok_takeWd {x : Wd} (h : x.ok) (bs : List UInt8) : (takeWd x bs).1.ok := by
  unfold takeWd
  split
  · exact ok_take h _
  · exact h
theorem ok_tick {x : Wd} (h : x.ok) : x.tick.1.ok := by
  obtain ⟨h1, h2, h3, h4, h5⟩ := h
  unfold Wd.tick
  split
  · exact ⟨h1, h2, h3, h4, h5⟩
  · rename_i hc
    have hc' : x.there = true ∧ x.lost = false := by simpa using hc
    have h6 := h5 hc'.1 hc'.2
    split
    · exact ⟨h1, h2, by simp only; omega, by simp only; omega, fun _ h => by simp at h⟩
    · exact ⟨h1, h2, by simp only; omega, by simp only; omega, fun _ _ => by simp only; omega⟩
def okL (l : List (Nat × Wd)) : Prop := ∀ q ∈ l, q.2.ok
theorem okL.since {l : List (Nat × Wd)} (h : okL l) : ∀ q ∈ l, 0 ≤ q.2.since ∧ q.2.since ≤ 4294967296 := fun q hq => by
  obtain ⟨h1, h2, h3, h4, _⟩ := h q hq
  omega
theorem okL.ticked {l : List (Nat × Wd)} (h : okL l) : okL (ticked l) := fun q hq => by
  obtain ⟨r, hr, rfl⟩ := List.mem_map.1 hq
  exact ok_tick (h r hr)

/-- What Take does to a list, said by the place. -/
theorem takeOf_cases (l : List (Nat × Wd)) (n : Int) (bs : List UInt8) : (n ∉ nodes l ∧ takeOf l n bs = (l, [], false)) ∨
    ∃ k, ∃ h : k < l.length, l[k].2.node = n ∧ (takeOf l n bs).1 = l.set k (l[k].1, (takeWd l[k].2 bs).1) ∧ (takeOf l n bs).2 = (takeWd l[k].2 bs).2 := by
  by_cases hin : n ∈ nodes l
  · right
    obtain ⟨k, hk, hn, hno⟩ := nodes_in hin
    have hf : l.findIdx? (fun q => decide (q.2.node = n)) = some k := by
      rw [List.findIdx?_eq_some_iff_getElem]
      refine ⟨hk, by simpa using hn, fun j hj => ?_⟩
      have := hno j hj
      rw [List.getD_eq_getElem?_getD, List.getElem?_eq_getElem (by simp [nodes]; omega)] at this
      simpa [nodes] using this
    refine ⟨k, hk, hn, ?_⟩
    unfold takeOf takeWd
    rw [hf]
    by_cases hl : bs.length = 1
    · simp [hl, hk]
    · simp only [hl, if_false]
      exact ⟨(List.set_getElem_self hk).symm, trivial⟩
  · left
    refine ⟨hin, ?_⟩
    have hf : l.findIdx? (fun q => decide (q.2.node = n)) = none := by
      rw [List.findIdx?_eq_none_iff]
      intro q hq
      simp only [decide_eq_false_iff_not]
      exact fun e => hin (by rw [← e]; exact List.mem_map_of_mem hq)
    unfold takeOf
    rw [hf]

theorem okL.take {l : List (Nat × Wd)} (h : okL l) (n : Int) (bs : List UInt8) : okL (takeOf l n bs).1 := by
  rcases takeOf_cases l n bs with ⟨_, e⟩ | ⟨k, hk, _, e, _⟩
  · rw [e]; exact h
  · rw [e]
    intro q hq
    rcases List.mem_or_eq_of_mem_set hq with hq | rfl
    · exact h q hq
    · exact ok_takeWd (h _ (List.getElem_mem hk)) bs
theorem nodes_take (l : List (Nat × Wd)) (n : Int) (bs : List UInt8) : nodes (takeOf l n bs).1 = nodes l ∧ (takeOf l n bs).1.map (·.1) = l.map (·.1) := by
  rcases takeOf_cases l n bs with ⟨_, e⟩ | ⟨k, hk, _, e, _⟩
  · rw [e]; exact ⟨rfl, rfl⟩
  · rw [e]
    constructor
    · unfold nodes
      apply List.ext_getElem (by simp)
      intro i h1 h2
      by_cases e : k = i
      · subst e; simp [takeWd_node]
      · simp [e]
    · apply List.ext_getElem (by simp)
      intro i h1 h2
      by_cases e : k = i
      · subst e; simp
      · simp [e]
theorem nodes_ticked (l : List (Nat × Wd)) : nodes (ticked l) = nodes l ∧ (ticked l).map (·.1) = l.map (·.1) := by
  constructor
  · simp [nodes, ticked, Function.comp_def, tick_node]
  · simp [ticked, Function.comp_def]

/-- One node's part of a watcher. -/
structure Part (l : List (Nat × Wd)) (y : Wd) : Prop where
  nd : (nodes l).Nodup
  at_ : ∃ k, ∃ h : k < l.length, l[k].2 = y

theorem Part.take_same {l : List (Nat × Wd)} {y : Wd} (h : Part l y) (bs : List UInt8) : (takeOf l y.node bs).2 = (takeWd y bs).2 ∧ Part (takeOf l y.node bs).1 (takeWd y bs).1 := by
  obtain ⟨k, hk, rfl⟩ := h.at_
  rcases takeOf_cases l l[k].2.node bs with ⟨hn, _⟩ | ⟨j, hj, hjn, e1, e2⟩
  · exact absurd (List.mem_map_of_mem (f := fun q : Nat × Wd => q.2.node) (List.getElem_mem hk)) hn
  · have : j = k := nodup_at h.nd (i := j) (k := k) (by simpa [nodes] using hj) (by simpa [nodes] using hk) (by simpa [nodes] using hjn)
    subst this
    refine ⟨e2, ⟨by rw [(nodes_take _ _ _).1]; exact h.nd, j, by rw [e1]; simpa using hj, ?_⟩⟩
    simp only [e1]
    simp
theorem Part.take_other {l : List (Nat × Wd)} {y : Wd} (h : Part l y) {n : Int} (hn : n ≠ y.node) (bs : List UInt8) : mine (takeOf l n bs).2.1 y.node = [] ∧ Part (takeOf l n bs).1 y := by
  obtain ⟨k, hk, rfl⟩ := h.at_
  rcases takeOf_cases l n bs with ⟨_, e⟩ | ⟨j, hj, hjn, e1, e2⟩
  · rw [e]; exact ⟨rfl, h⟩
  · have hjk : j ≠ k := fun e => hn (by subst e; exact hjn.symm)
    refine ⟨?_, ⟨by rw [(nodes_take _ _ _).1]; exact h.nd, k, by rw [e1]; simpa using hk, ?_⟩⟩
    · rw [e2]
      unfold mine
      rw [List.filter_eq_nil_iff]
      intro a ha
      have := (takeWd_node l[j].2 bs).2 a ha
      simp [this, hjn, hn]
    · simp only [e1]
      simp [hjk]
theorem Part.tick {l : List (Nat × Wd)} {y : Wd} (h : Part l y) : mine (tickNews l) y.node = y.tick.2 ∧ Part (ticked l) y.tick.1 := by
  obtain ⟨k, hk, rfl⟩ := h.at_
  refine ⟨?_, ⟨by rw [(nodes_ticked _).1]; exact h.nd, k, by simpa [ticked] using hk, by simp [ticked]⟩⟩
  have hsplit : l = l.take k ++ l[k] :: l.drop (k + 1) := by rw [← List.drop_eq_getElem_cons hk, List.take_append_drop]
  have hother : ∀ q : Nat × Wd, q.2.node ≠ l[k].2.node → mine q.2.tick.2 l[k].2.node = [] := fun q hq => by
    unfold mine
    rw [List.filter_eq_nil_iff]
    intro a ha
    have := (tick_node q.2).2 a ha
    simp [this, hq]
  have hnil : ∀ m : List (Nat × Wd), (∀ q ∈ m, q.2.node ≠ l[k].2.node) → mine (tickNews m) l[k].2.node = [] := fun m hm => by
    induction m with
    | nil => rfl
    | cons q r ih =>
      have h1 := hother q (hm q (by simp))
      have h2 := ih (fun q' hq' => hm q' (by simp [hq']))
      unfold mine tickNews at *
      rw [List.flatMap_cons, List.filter_append, h1, h2]; rfl
  have hself : mine l[k].2.tick.2 l[k].2.node = l[k].2.tick.2 := by
    unfold mine
    rw [List.filter_eq_self]
    intro a ha
    simpa using (tick_node l[k].2).2 a ha
  have hlt : ∀ q ∈ l.take k, q.2.node ≠ l[k].2.node := fun q hq e => by
    obtain ⟨i, hi, rfl⟩ := List.getElem_of_mem hq
    simp at hi
    have := nodup_at h.nd (i := i) (k := k) (by simp [nodes]; omega) (by simpa [nodes] using hk) (by simpa [nodes] using e)
    omega
  have hgt : ∀ q ∈ l.drop (k + 1), q.2.node ≠ l[k].2.node := fun q hq e => by
    obtain ⟨i, hi, rfl⟩ := List.getElem_of_mem hq
    simp at hi
    have := nodup_at h.nd (i := k + 1 + i) (k := k) (by simp [nodes]; omega) (by simpa [nodes] using hk) (by simpa [nodes] using e)
    omega
  have e : tickNews l = tickNews (l.take k) ++ (l[k].2.tick.2 ++ tickNews (l.drop (k + 1))) := by
    have : tickNews l = tickNews (l.take k ++ l[k] :: l.drop (k + 1)) := by rw [← hsplit]
    rw [this]
    simp only [tickNews, List.flatMap_append, List.flatMap_cons]
  rw [e]
  have h1 := hnil _ hlt
  have h2 := hnil _ hgt
  unfold mine at *
  rw [List.filter_append, List.filter_append, h1, h2, hself]
  simp
end Go.Proofs.Ytmkkeglcjbogcaa
