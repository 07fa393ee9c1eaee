/-
  Plain laws: which nodes the law itself has seen come and go.
-/
import Derived.Test.YtmkkeglcjbogcaaRefL
namespace Go.Proofs.Ytmkkeglcjbogcaa
open Go.RowKit
set_option linter.unusedVariables false

def thereStep (T : Int → Bool) (u : News) : Int → Bool := fun m => if m = u.1 then decide (u.2.1 = 1 ∨ u.2.1 = 2) else T m
def okNews (T : Int → Bool) (u : News) : Prop := ¬ (u.2.1 = 1 ∧ T u.1 = true) ∧ (u.2.1 = 3 ∨ u.2.1 = 2 → T u.1 = true) ∧ 0 ≤ u.1 ∧ u.1 ≤ 127
def after (T : Int → Bool) (ns : List News) : Int → Bool := ns.foldl thereStep T
def goodN : (Int → Bool) → List News → Prop
  | _, [] => True
  | T, u :: r => okNews T u ∧ goodN (thereStep T u) r
theorem goodN_append (T : Int → Bool) (a b : List News) : goodN T (a ++ b) ↔ goodN T a ∧ goodN (after T a) b := by
  induction a generalizing T with
  | nil => simp [goodN, after]
  | cons u r ih => simp only [List.cons_append, goodN, ih, after, List.foldl_cons, and_assoc]
theorem after_append (T : Int → Bool) (a b : List News) : after T (a ++ b) = after (after T a) b := by simp [after]

def theT (l : List (Nat × Wd)) : Int → Bool := fun m => l.any fun q => decide (q.2.node = m ∧ (seenOf q.2).1 = 1)
theorem theT_at {l : List (Nat × Wd)} (hnd : (nodes l).Nodup) {k : Nat} (hk : k < l.length) : theT l l[k].2.node = decide ((seenOf l[k].2).1 = 1) := by
  unfold theT
  rw [Bool.eq_iff_iff]
  simp only [List.any_eq_true, decide_eq_true_eq]
  constructor
  · rintro ⟨q, hq, e, h⟩
    obtain ⟨j, hj, rfl⟩ := List.getElem_of_mem hq
    obtain rfl : j = k := nodup_at hnd (by simpa [nodes] using hj) (by simpa [nodes] using hk) (by simpa [nodes] using e)
    exact h
  · exact fun h => ⟨_, List.getElem_mem hk, rfl, h⟩
theorem theT_out {l : List (Nat × Wd)} {m : Int} (h : m ∉ nodes l) : theT l m = false := by
  unfold theT
  rw [List.any_eq_false]
  intro q hq
  simp only [decide_eq_true_eq]
  rintro ⟨e, _⟩
  exact h (List.mem_map.2 ⟨q, hq, e⟩)
theorem theT_cons (q : Nat × Wd) (r : List (Nat × Wd)) (m : Int) : theT (q :: r) m = (decide (q.2.node = m ∧ (seenOf q.2).1 = 1) || theT r m) := by simp [theT]

theorem one_there (x : Wd) (T : Int → Bool) (hT : T x.node = decide ((seenOf x).1 = 1)) (hr : 1 ≤ x.node ∧ x.node ≤ 127) :
    goodN T x.tick.2 ∧ ∀ m, after T x.tick.2 m = if m = x.node then decide ((seenOf x.tick.1).1 = 1) else T m := by
  obtain ⟨n, t, st, th, lo, si⟩ := x
  simp only at hT hr
  by_cases e : th = false ∨ lo = true
  · have : (⟨n, t, st, th, lo, si⟩ : Wd).tick = (⟨n, t, st, th, lo, si⟩, []) := by unfold Wd.tick; rw [if_pos e]
    rw [this]
    refine ⟨trivial, fun m => ?_⟩
    simp only [after, List.foldl_nil]
    split
    · subst_vars; exact hT
    · rfl
  · obtain ⟨rfl, rfl⟩ : th = true ∧ lo = false := by simpa using e
    have hT1 : T n = true := by rw [hT]; simp [seenOf]
    by_cases e3 : t ≤ si + 1
    · have : (⟨n, t, st, true, false, si⟩ : Wd).tick = (⟨n, t, st, true, true, si + 1⟩, [(n, 3, st)]) := by unfold Wd.tick; simp [e3]
      rw [this]
      refine ⟨⟨⟨by simp, fun _ => hT1, by simp only; omega, by simp only; omega⟩, trivial⟩, fun m => ?_⟩
      simp only [after, List.foldl_cons, List.foldl_nil, thereStep, seenOf]
      split <;> simp
    · have : (⟨n, t, st, true, false, si⟩ : Wd).tick = (⟨n, t, st, true, false, si + 1⟩, []) := by unfold Wd.tick; simp [e3]
      rw [this]
      refine ⟨trivial, fun m => ?_⟩
      simp only [after, List.foldl_nil, seenOf]
      split
      · subst_vars; rw [hT1]; simp
      · rfl

theorem tick_there (l : List (Nat × Wd)) (T : Int → Bool) (hnd : (nodes l).Nodup) (hT : ∀ q ∈ l, T q.2.node = decide ((seenOf q.2).1 = 1)) (hr : ∀ n ∈ nodes l, 1 ≤ n ∧ n ≤ 127) :
    goodN T (tickNews l) ∧ ∀ m, after T (tickNews l) m = if m ∈ nodes l then theT (ticked l) m else T m := by
  induction l generalizing T with
  | nil => exact ⟨trivial, fun m => by simp [tickNews, after, nodes]⟩
  | cons q r ih =>
    have hn1 : q.2.node ∉ nodes r := by simp [nodes] at hnd ⊢; exact hnd.1
    have hn2 : (nodes r).Nodup := by simp [nodes] at hnd ⊢; exact hnd.2
    obtain ⟨g1, a1⟩ := one_there q.2 T (hT q (by simp)) (hr _ (by simp [nodes]))
    have hT1 : ∀ p ∈ r, after T q.2.tick.2 p.2.node = decide ((seenOf p.2).1 = 1) := fun p hp => by
      rw [a1, if_neg (fun e => hn1 (by rw [← e]; exact List.mem_map.2 ⟨p, hp, rfl⟩))]
      exact hT p (by simp [hp])
    obtain ⟨g2, a2⟩ := ih (after T q.2.tick.2) hn2 hT1 (fun n hn => hr n (by simp only [nodes, List.map_cons, List.mem_cons] at hn ⊢; exact .inr hn))
    have ht : tickNews (q :: r) = q.2.tick.2 ++ tickNews r := by simp [tickNews]
    have htk : ticked (q :: r) = (q.1, q.2.tick.1) :: ticked r := by simp [ticked]
    rw [ht]
    refine ⟨(goodN_append _ _ _).2 ⟨g1, g2⟩, fun m => ?_⟩
    rw [after_append, a2, htk, theT_cons, a1]
    simp only [(tick_node q.2).1]
    have hmem : m ∈ nodes (q :: r) ↔ m = q.2.node ∨ m ∈ nodes r := by simp [nodes]
    by_cases hm : m ∈ nodes r
    · have hne : q.2.node ≠ m := fun e => hn1 (by rw [e]; exact hm)
      rw [if_pos hm, if_pos (hmem.2 (.inr hm)), decide_eq_false (fun h => hne h.1), Bool.false_or]
    · rw [if_neg hm]
      by_cases e : m = q.2.node
      · subst e
        rw [if_pos rfl, if_pos (hmem.2 (.inl rfl)), theT_out (by rw [(nodes_ticked r).1]; exact hm)]
        simp
      · rw [if_neg e, if_neg (fun h => (hmem.1 h).elim e hm)]

theorem tick_all (l : List (Nat × Wd)) (hnd : (nodes l).Nodup) (hr : ∀ n ∈ nodes l, 1 ≤ n ∧ n ≤ 127) : goodN (theT l) (tickNews l) ∧ after (theT l) (tickNews l) = theT (ticked l) := by
  obtain ⟨g, a⟩ := tick_there l (theT l) hnd (fun q hq => by
    obtain ⟨j, hj, rfl⟩ := List.getElem_of_mem hq
    exact theT_at hnd hj) hr
  refine ⟨g, funext fun m => ?_⟩
  rw [a]
  split
  · rfl
  · rename_i h
    rw [theT_out h, theT_out (by rw [(nodes_ticked l).1]; exact h)]

theorem take_there (x : Wd) (c : Int) (T : Int → Bool) (hT : T x.node = decide ((seenOf x).1 = 1)) (hr : 1 ≤ x.node ∧ x.node ≤ 127) :
    goodN T (x.take c).2.1 ∧ ∀ m, after T (x.take c).2.1 m = if m = x.node then decide ((seenOf (x.take c).1).1 = 1) else T m := by
  obtain ⟨n, t, st, th, lo, si⟩ := x
  simp only at hT hr
  by_cases h0 : c = 0
  · have : (⟨n, t, st, th, lo, si⟩ : Wd).take c = (⟨n, t, 0, false, false, 0⟩, [(n, 0, 0)], true) := by unfold Wd.take; rw [if_pos h0]
    rw [this]
    refine ⟨⟨⟨by simp, by simp, by simp only; omega, by simp only; omega⟩, trivial⟩, fun m => ?_⟩
    simp only [after, List.foldl_cons, List.foldl_nil, thereStep, seenOf]
    split <;> simp
  · by_cases hok : c = 4 ∨ c = 5 ∨ c = 127
    · rw [wd_take_on _ c hok]
      simp only
      by_cases e : th = false ∨ lo = true
      · rw [if_pos e]
        have hT0 : T n = false := by
          rw [hT]; unfold seenOf; cases th <;> cases lo <;> simp at e ⊢
        refine ⟨⟨⟨by simp [hT0], by simp, by simp only; omega, by simp only; omega⟩, trivial⟩, fun m => ?_⟩
        simp only [after, List.foldl_cons, List.foldl_nil, thereStep, seenOf]
        split <;> simp
      · rw [if_neg e]
        obtain ⟨rfl, rfl⟩ : th = true ∧ lo = false := by simpa using e
        have hT1 : T n = true := by rw [hT]; simp [seenOf]
        split
        · refine ⟨⟨⟨by simp, fun _ => hT1, by simp only; omega, by simp only; omega⟩, trivial⟩, fun m => ?_⟩
          simp only [after, List.foldl_cons, List.foldl_nil, thereStep, seenOf]
          split <;> simp
        · refine ⟨trivial, fun m => ?_⟩
          simp only [after, List.foldl_nil, seenOf]
          split
          · subst_vars; rw [hT1]; simp
          · rfl
    · rw [take_bad _ c h0 (by omega) (by omega) (by omega)]
      refine ⟨trivial, fun m => ?_⟩
      simp only [after, List.foldl_nil]
      split
      · subst_vars; exact hT
      · rfl

theorem theT_set {l : List (Nat × Wd)} (hnd : (nodes l).Nodup) {k : Nat} (hk : k < l.length) (p : Nat) (x : Wd) (hx : x.node = l[k].2.node) (m : Int) : theT (l.set k (p, x)) m = if m = l[k].2.node then decide ((seenOf x).1 = 1) else theT l m := by
  have hk2 : k < (l.set k (p, x)).length := by simpa using hk
  have hns : nodes (l.set k (p, x)) = nodes l := by
    have := watchesOf_set (l := l) hk (q := (p, ⟨x.node, l[k].2.ticks, x.state, x.there, x.lost, x.since⟩)) hx rfl
    unfold nodes
    apply List.ext_getElem (by simp)
    intro i h1 h2
    simp only [List.getElem_map, List.getElem_set]
    split
    · subst_vars; exact hx
    · rfl
  split
  · rename_i e
    subst e
    have := theT_at (l := l.set k (p, x)) (by rw [hns]; exact hnd) hk2
    simpa [hx] using this
  · rename_i e
    unfold theT
    rw [Bool.eq_iff_iff]
    simp only [List.any_eq_true, decide_eq_true_eq]
    constructor
    · rintro ⟨q, hq, e1, h⟩
      obtain ⟨j, hj, rfl⟩ := List.getElem_of_mem hq
      rw [List.getElem_set] at e1 h
      split at e1
      · exact absurd (e1.symm.trans hx) e
      · rename_i hjk
        rw [if_neg hjk] at h
        exact ⟨_, List.getElem_mem (by simpa using hj), e1, h⟩
    · rintro ⟨q, hq, e1, h⟩
      obtain ⟨j, hj, rfl⟩ := List.getElem_of_mem hq
      have hjk : k ≠ j := fun hh => by subst hh; exact e e1.symm
      refine ⟨(l.set k (p, x))[j]'(by simpa using hj), List.getElem_mem _, ?_⟩
      rw [List.getElem_set, if_neg hjk]
      exact ⟨e1, h⟩

theorem take_all (l : List (Nat × Wd)) (n : Int) (bs : List UInt8) (hnd : (nodes l).Nodup) (hr : ∀ n ∈ nodes l, 1 ≤ n ∧ n ≤ 127) : goodN (theT l) (takeOf l n bs).2.1 ∧ after (theT l) (takeOf l n bs).2.1 = theT (takeOf l n bs).1 := by
  rcases takeOf_cases l n bs with ⟨_, e⟩ | ⟨k, hk, _, e1, e2⟩
  · rw [e]; exact ⟨trivial, rfl⟩
  · rw [e1, e2]
    unfold takeWd
    split
    · obtain ⟨g, a⟩ := take_there l[k].2 (bs.headD 0).toNat (theT l) (theT_at hnd hk) (hr _ (List.mem_map.2 ⟨_, List.getElem_mem hk, rfl⟩))
      refine ⟨g, funext fun m => ?_⟩
      rw [a, theT_set hnd hk _ _ (take_node _ _).1]
    · rw [show ((l[k].1, (l[k].2, ([] : List News), false).1) : Nat × Wd) = (l[k].1, l[k].2) from rfl, set_self l k hk]
      exact ⟨trivial, rfl⟩

def cellsT (T : Int → Bool) : Array Value := ((List.range 128).map fun (i : Nat) => Value.bool (T i)).toArray
theorem cellsT_get (T : Int → Bool) (i : Nat) (h : i < 128) : (cellsT T)[i]? = some (.bool (T i)) := by simp [cellsT, h]
theorem cellsT_set (T : Int → Bool) (i : Nat) (h : i < 128) (v : Bool) : (cellsT T).setIfInBounds i (.bool v) = cellsT (fun m => if m = (i : Int) then v else T m) := by
  apply Array.ext_getElem?
  intro j
  rw [Array.getElem?_setIfInBounds]
  by_cases hj : j < 128
  · rw [cellsT_get _ j hj, cellsT_get _ j hj]
    by_cases e : i = j
    · subst e; simp [cellsT, h]
    · have : ¬ ((j : Int) = (i : Int)) := by omega
      simp [e, this]
  · have e1 : ∀ T, (cellsT T)[j]? = none := fun T => by simp [cellsT]; omega
    rw [e1, e1]
    simp [cellsT]
    omega

end Go.Proofs.Ytmkkeglcjbogcaa
