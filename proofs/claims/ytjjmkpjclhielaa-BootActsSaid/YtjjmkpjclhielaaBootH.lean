/-
  Plain: in how many looks a boot ends.
-/
import Derived.Test.YtjjmkpjclhielaaBootF
namespace Go.Proofs.Ytjjmkpjclhielaa
set_option linter.unusedVariables false

/-- How often an open node may still be looked at. -/
def leftN (t : Int) (x : Nd) : Int := if x.is = 0 then t - x.looked else 0
def leftOf (l : List Nd) (t : Int) : Int := (l.map (leftN t)).sum
/-- What holds all along: of open nodes each was looked at less than t times. -/
def EndOk (l : List Nd) (t : Int) : Prop := (l.map (·.p.node)).Nodup ∧ ∀ x ∈ l, 0 ≤ x.looked ∧ x.looked ≤ t ∧ (x.is = 0 → x.looked < t)
theorem EndOk.new {ps : List Pl} {t : Int} (hn : (ps.map (·.node)).Nodup) (ht : 1 ≤ t) : EndOk (ps.map Nd.new) t ∧ leftOf (ps.map Nd.new) t = t * ps.length := by
  refine ⟨⟨by simpa [Function.comp_def, Nd.new] using hn, fun x hx => ?_⟩, ?_⟩
  · obtain ⟨p, hp, rfl⟩ := List.mem_map.1 hx
    simp only [Nd.new]
    omega
  · unfold leftOf
    clear hn
    induction ps with
    | nil => simp
    | cons p r ih =>
      simp only [List.map_cons, List.sum_cons, List.length_cons] at ih ⊢
      rw [ih]
      simp only [leftN, Nd.new, if_true]
      have : t * ((r.length + 1 : Nat) : Int) = t * (r.length : Int) + t := by rw [Int.natCast_add, Int.mul_add]; simp
      omega
theorem leftOf_nn' {l : List Nd} {t : Int} (h : ∀ x ∈ l, 0 ≤ x.looked ∧ x.looked ≤ t ∧ (x.is = 0 → x.looked < t)) : 0 ≤ leftOf l t := by
  unfold leftOf
  induction l with
  | nil => simp
  | cons x r ih =>
    have h1 := ih (fun y hy => h y (List.mem_cons_of_mem _ hy))
    have h2 := h x (by simp)
    simp only [List.map_cons, List.sum_cons]
    have : 0 ≤ leftN t x := by unfold leftN; split <;> omega
    omega
theorem leftOf_nn {l : List Nd} {t : Int} (h : EndOk l t) : 0 ≤ leftOf l t := leftOf_nn' h.2
theorem sum_set {l : List Nd} {t : Int} {j : Nat} {y z : Nd} (hy : l[j]? = some y) : leftOf (l.set j z) t = leftOf l t - leftN t y + leftN t z := by
  unfold leftOf
  induction l generalizing j with
  | nil => simp at hy
  | cons x r ih =>
    cases j with
    | zero =>
      simp at hy
      subst hy
      simp only [List.set_cons_zero, List.map_cons, List.sum_cons]
      omega
    | succ j =>
      have := ih (j := j) (by simpa using hy)
      simp only [List.set_cons_succ, List.map_cons, List.sum_cons]
      omega
theorem seen_left (y : Nd) (s : Sn) (t : Int) (h0 : y.is = 0) (hl : y.looked < t) (hl0 : 0 ≤ y.looked) : leftN t (y.seen s t) < leftN t y ∧ 0 ≤ leftN t (y.seen s t) ∧ 0 ≤ (y.seen s t).looked ∧ (y.seen s t).looked ≤ t ∧ ((y.seen s t).is = 0 → (y.seen s t).looked < t) := by
  have hy : leftN t y = t - y.looked := by unfold leftN; rw [if_pos h0]
  rw [hy]
  by_cases h1 : (judgeOf y.p s).1 = 0 ∨ (judgeOf y.p s).1 = 76
  · rw [seen_run h1]
    simp only [leftN]
    omega
  · by_cases h2 : againOf (judgeOf y.p s).1 = false ∨ t ≤ y.looked + 1
    · rw [seen_up h1 h2]
      simp only [leftN]
      omega
    · rw [seen_still h1 h2]
      have : ¬ t ≤ y.looked + 1 := fun h => h2 (.inr h)
      simp only [leftN]
      omega
theorem EndOk.saw {l : List Nd} {t : Int} {hh : Bool} (h : EndOk l t) {n : Int} (hn : nextOf ⟨l, t, hh⟩ = (n, true)) (s : Sn) :
    hh = false ∧ ∃ k y, placeN l n = some k ∧ l[k]? = some y ∧ y.p.node = n ∧ y.is = 0 ∧ EndOk (sawOf ⟨l, t, false⟩ n s).1.l t ∧ leftOf (sawOf ⟨l, t, false⟩ n s).1.l t < leftOf l t ∧ (sawOf ⟨l, t, false⟩ n s).2.2.2 = 0 := by
  obtain ⟨hf, j, y, hp, hy, hyn, hy0, hmin⟩ := nextOf_some (b := ⟨l, t, hh⟩) h.1 hn
  have hf : hh = false := hf
  subst hf
  refine ⟨rfl, j, y, hp, hy, hyn, hy0, ?_⟩
  rw [sawOf_open (b := ⟨l, t, false⟩) s hp hy hy0 rfl]
  simp only
  have hmem : y ∈ l := List.mem_of_getElem? hy
  obtain ⟨h1, h2, h3⟩ := h.2 y hmem
  obtain ⟨a1, a2, a3, a4, a5⟩ := seen_left y s t hy0 (h3 hy0) h1
  have e : (l.set j (y.seen s t)).map (·.p.node) = l.map (·.p.node) := set_own (b := ⟨l, t, false⟩) h.1 hy rfl
  refine ⟨⟨by rw [e]; exact h.1, fun z hz => ?_⟩, ?_, trivial⟩
  · rcases List.mem_or_eq_of_mem_set hz with hz | rfl
    · exact h.2 z hz
    · exact ⟨a3, a4, a5⟩
  · have hs : leftOf (l.set j (y.seen s t)) t = leftOf l t - leftN t y + leftN t (y.seen s t) := sum_set hy
    have : leftOf (l.set j (y.seen s t)) t < leftOf l t := by omega
    exact this

/-- Where each node is seen as it was planned: those that were looked at once run, the others are open. -/
def WellOk (l : List Nd) (k : Int) : Prop := (∀ x ∈ l, (x.is = 0 ∧ x.looked = 0) ∨ x.is = 1) ∧ ((l.filter fun x => x.is == 1).length : Int) = k
/-- What is seen of a node that is as it was planned. -/
def seenAs (p : Pl) : Sn := ⟨true, p.dev, p.i0, p.i1, p.i2, p.i3, p.day, p.time, 127, 0, true⟩
theorem judge_well (p : Pl) : (judgeOf p (seenAs p)).1 = 0 := by
  have h := (judge_one p (seenAs p)).1
  apply h
  unfold judgeOf identOf lateOf seenAs
  simp only
  rw [if_neg (by simp), if_neg (by simp), if_neg (by simp), if_neg (by simp), if_neg (by simp), if_neg (by simp)]
  simp only
  split
  · rw [if_neg (by decide)]
  · rw [if_neg (by simp), if_neg (by simp), if_neg (by simp), if_neg (by simp)]
theorem WellOk.new (ps : List Pl) : WellOk (ps.map Nd.new) 0 := by
  refine ⟨fun x hx => ?_, ?_⟩
  · obtain ⟨p, hp, rfl⟩ := List.mem_map.1 hx
    exact .inl ⟨rfl, rfl⟩
  · have : ((ps.map Nd.new).filter fun x => x.is == 1) = [] := by
      rw [List.filter_eq_nil_iff]
      intro x hx
      obtain ⟨p, hp, rfl⟩ := List.mem_map.1 hx
      simp [Nd.new]
    rw [this]; rfl
theorem filter_set {l : List Nd} {j : Nat} {y z : Nd} (hy : l[j]? = some y) (h0 : y.is = 0) (h1 : z.is = 1) : ((l.set j z).filter fun x => x.is == 1).length = (l.filter fun x => x.is == 1).length + 1 := by
  induction l generalizing j with
  | nil => simp at hy
  | cons x r ih =>
    cases j with
    | zero =>
      simp at hy
      subst hy
      simp [List.filter_cons, h0, h1]
    | succ j =>
      have := ih (j := j) (by simpa using hy)
      simp only [List.set_cons_succ, List.filter_cons]
      split
      · simp only [List.length_cons, this]
      · exact this
theorem WellOk.saw {l : List Nd} {t k : Int} (h : WellOk l k) (hnd : (l.map (·.p.node)).Nodup) {n : Int} {j : Nat} {y : Nd} (hp : placeN l n = some j) (hy : l[j]? = some y) (h0 : y.is = 0) :
    WellOk (sawOf ⟨l, t, false⟩ n (seenAs y.p)).1.l (k + 1) ∧ (sawOf ⟨l, t, false⟩ n (seenAs y.p)).1.halted = false := by
  rw [sawOf_open (b := ⟨l, t, false⟩) _ hp hy h0 rfl]
  have hs : (y.seen (seenAs y.p) t) = ⟨y.p, 1, y.looked + 1, 0⟩ := by
    simp only [Nd.seen, judge_well]
    simp
  simp only [hs]
  refine ⟨⟨fun x hx => ?_, ?_⟩, by simp⟩
  · rcases List.mem_or_eq_of_mem_set hx with hx | rfl
    · exact h.1 x hx
    · exact .inr rfl
  · rw [filter_set hy h0 rfl]
    have := h.2
    omega
theorem WellOk.fin {l : List Nd} {t k : Int} {n : Int} (h : WellOk l k) (hn : nextOf ⟨l, t, false⟩ = (n, false)) : k = l.length ∧ mayOf ⟨l, t, false⟩ = true ∧ (runN l).length = l.length := by
  obtain ⟨_, hh | hall⟩ := nextOf_none hn
  · cases hh
  · have hall : ∀ x ∈ l, x.is ≠ 0 := hall
    have hr : ∀ x ∈ l, x.is = 1 := fun x hx => by
      rcases h.1 x hx with h | h
      · exact absurd h.1 (hall x hx)
      · exact h
    have hf : (l.filter fun x => x.is == 1) = l := by
      rw [List.filter_eq_self]
      intro x hx
      simp [hr x hx]
    refine ⟨by rw [← h.2, hf], ?_, by unfold runN; rw [hf]; simp⟩
    unfold mayOf
    have : (l.any fun x => x.p.mand && !(x.is == 1)) = false := by
      rw [List.any_eq_false]
      intro x hx
      simp [hr x hx]
    simp [this]
end Go.Proofs.Ytjjmkpjclhielaa
