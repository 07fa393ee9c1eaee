/-
  Sorted distinct numbers: the count below n is the place of n.
-/
import Derived.Test.YtjjmkpjclhielaaBootP7
import Derived.Test.YtjjmkpjclhielaaBootU
namespace Go.Proofs.Ytjjmkpjclhielaa
open Go.RowKit
set_option linter.unusedVariables false

def below (S : List Int) (n : Int) : Nat := (S.filter fun x => decide (x < n)).length

theorem below_at {S : List Int} {n : Int} (h : S.Pairwise (· < ·)) (hn : n ∈ S) : S[below S n]? = some n := by
  induction S with
  | nil => cases hn
  | cons a r ih =>
    obtain ⟨h1, h2⟩ := List.pairwise_cons.1 h
    rcases List.mem_cons.1 hn with rfl | hr
    · have : below (n :: r) n = 0 := by
        unfold below
        rw [List.length_eq_zero_iff, List.filter_eq_nil_iff]
        intro x hx
        rcases List.mem_cons.1 hx with rfl | hx
        · simp
        · have := h1 x hx; simp; omega
      rw [this]; rfl
    · have ha := h1 n hr
      have : below (a :: r) n = below r n + 1 := by unfold below; simp [ha]
      rw [this]
      simpa using ih h2 hr

theorem below_no {S : List Int} {n : Int} (hn : n ∉ S) : below S (n + 1) = below S n := by
  unfold below
  congr 1
  apply List.filter_congr
  intro x hx
  have : x ≠ n := fun e => hn (e ▸ hx)
  simp; omega

theorem below_yes {S : List Int} {n : Int} (h : S.Pairwise (· < ·)) (hn : n ∈ S) : below S (n + 1) = below S n + 1 := by
  induction S with
  | nil => cases hn
  | cons a r ih =>
    obtain ⟨h1, h2⟩ := List.pairwise_cons.1 h
    rcases List.mem_cons.1 hn with rfl | hr
    · have hnr : n ∉ r := fun hh => by have := h1 n hh; omega
      have e := below_no hnr
      unfold below at e ⊢
      simp [show n < n + 1 by omega, e]
    · have ha := h1 n hr
      have e := ih h2 hr
      unfold below at e ⊢
      simp [ha, show a < n + 1 by omega, e]

theorem below_first {S : List Int} {n : Int} (h : ∀ x ∈ S, n ≤ x) : below S n = 0 := by
  unfold below
  rw [List.length_eq_zero_iff, List.filter_eq_nil_iff]
  intro x hx
  have := h x hx
  simp; omega

theorem below_all {S : List Int} {n : Int} (h : ∀ x ∈ S, x < n) : below S n = S.length := by
  unfold below
  rw [List.filter_eq_self.2]
  intro x hx
  have := h x hx
  simp; omega

theorem sorted_mem (zs : List Int) (n : Int) : n ∈ sorted zs ↔ n ∈ zs := by unfold sorted; exact List.mem_mergeSort
theorem sorted_lt {zs : List Int} (h : zs.Nodup) : (sorted zs).Pairwise (· < ·) := by
  have h1 : (sorted zs).Pairwise (fun x y => decide (x ≤ y) = true) := by
    unfold sorted
    exact List.pairwise_mergeSort (fun a b c h1 h2 => by simp at *; omega) (fun a b => by simp; omega) zs
  have h2 : (sorted zs).Nodup := (List.mergeSort_perm zs _).nodup_iff.2 h
  have h3 := h1.and h2
  exact h3.imp (fun {a b} hab => by
    have := hab.1; have h4 := hab.2
    simp at this
    omega)
theorem run_nodup {l : List Nd} (h : (l.map (·.p.node)).Nodup) : (runN l).Nodup := by
  unfold runN
  exact h.sublist (List.Sublist.map _ List.filter_sublist)

theorem run_mem_some {l : List Nd} (h : (l.map (·.p.node)).Nodup) {n : Int} {k : Nat} {y : Nd} (hp : placeN l n = some k) (hy : l[k]? = some y) : n ∈ runN l ↔ y.is = 1 := by
  obtain ⟨z, hz, hzn⟩ := placeN_some hp
  rw [hy] at hz
  obtain rfl := Option.some.inj hz
  unfold runN
  constructor
  · intro hm
    obtain ⟨x, hx, hxn⟩ := List.mem_map.1 hm
    obtain ⟨hx1, hx2⟩ := List.mem_filter.1 hx
    obtain ⟨j, hj⟩ := List.mem_iff_getElem?.1 hx1
    have := placeN_self h hj
    rw [hxn, hp] at this
    obtain rfl := Option.some.inj this
    rw [hy] at hj
    obtain rfl := Option.some.inj hj
    simpa using hx2
  · intro h1
    exact List.mem_map.2 ⟨y, List.mem_filter.2 ⟨List.mem_of_getElem? hy, by simpa using h1⟩, hzn⟩

theorem run_mem_none {l : List Nd} {n : Int} (hp : placeN l n = none) : n ∉ runN l := by
  intro hm
  obtain ⟨x, hx, hxn⟩ := List.mem_map.1 hm
  exact placeN_none hp x (List.mem_filter.1 hx).1 hxn

theorem run_range {l : List Nd} (h : ∀ x ∈ l, 1 ≤ x.p.node ∧ x.p.node ≤ 127) : ∀ n ∈ sorted (runN l), 1 ≤ n ∧ n ≤ 127 := by
  intro n hn
  rw [sorted_mem] at hn
  obtain ⟨x, hx, rfl⟩ := List.mem_map.1 hn
  exact h x (List.mem_filter.1 hx).1
end Go.Proofs.Ytjjmkpjclhielaa
