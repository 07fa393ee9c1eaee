/-
  What the heart's functions do (NewHeart, Set, Tick).
-/
import Derived.Test.YtmkkeglcjbogcaaProg
import Derived.Test.YtmkkeglcjbogcaaCore
namespace Go.Proofs.Ytmkkeglcjbogcaa
open Go.RowKit

/-- Does a heart beat at this tick, with this state? -/
def beats (each left st : Int) : Bool := decide (each ≠ 0) && decide (left = 1) && (decide (st = 4) || decide (st = 5) || decide (st = 127))
/-- How many ticks are left behind it. -/
def leftOf (each left : Int) : Int := if each = 0 then left else if left = 1 then each else left - 1

def HeartAt (w : World) (b : Nat) (each left : Int) : Prop := w.heap[b]? = some (.cells #[.int .u64 each, .int .u64 left] 138 (0, 0))

/-- What a tick leaves: its slice v and whether it tells (f). -/
def TickPost (b : Nat) (each left st : Int) (w : World) (e : Ending) (w' : World) : Prop :=
  ∃ v, e = .returned (.tuple #[v, .bool (beats each left st)]) ∧ HeartAt w' b each (leftOf each left) ∧ Frm (One b) w w' ∧
    (beats each left st = false → v = .slice none 0 0) ∧
    (beats each left st = true → ∃ g, v = .slice (some ⟨g, 0, none⟩) 1 1 ∧ w'.cell? ⟨g, 0, none⟩ = some (.int .u8 st))

theorem heart_set {w : World} {b : Nat} {each left : Int} (h : HeartAt w b each left) (n : Int) : HeartAt (w.setCell ⟨b, 1, none⟩ (.int .u64 n)) b each n := heap_set_same h _

set_option maxHeartbeats 400000 in
theorem heart_tick (b : Nat) (each left st : Int) (w : World) (hO : HeartAt w b each left) (h0 : 0 ≤ left) (h1 : each ≠ 0 → 1 ≤ left) (h2 : left ≤ 4294967296) :
    Calls Try.prog 26 #[.pointer (some ⟨b, 0, none⟩), .int .i64 st] w (TickPost b each left st w) := by
  have hb := lt_of_block hO
  have c0 : w.cell? ⟨b, 0, none⟩ = some (.int .u64 each) := cell_at hO
  have c1 : w.cell? ⟨b, 1, none⟩ = some (.int .u64 left) := cell_at hO
  have f := frees hO
  by_cases e0 : each = 0
  · subst e0
    go_enter Try.func26, Try.ntmps26
    go_wp2
    go_ret2
    exact ⟨_, rfl, hO, Frm.refl _ _, fun _ => rfl, fun h => by simp [beats] at h⟩
  · have h3 := h1 e0
    have E0 : (each == 0) = false := by simp [e0]
    clear h1 h0
    have H0 : Hid (¬ each = 0) := e0
    clear e0
    by_cases e1 : left = 1
    · subst e1
      by_cases s4 : st = 4
      · subst s4
        go_enter Try.func26, Try.ntmps26
        go_wp2
        go_ret2
        have e0 := H0.out
        exact ⟨_, by simp [beats, e0]; rfl, by rw [show leftOf each 1 = each by simp [leftOf, e0]]; exact heap_alloc_old (heart_set (heart_set hO _) _), by (repeat' (first | (with_reducible exact Frm.refl _ _) | (with_reducible assumption) | (with_reducible refine Frm.alloc ?_ _) | (with_reducible refine Frm.drew ?_) | (with_reducible refine Frm.drewN ?_ _) | (with_reducible refine Frm.set1 ?_ _) | (with_reducible refine Frm.setCell ?_ ?_ _) | (intro hlt; simp [World.size_alloc, One] at hlt ⊢; omega))), fun h => by simp [beats, e0] at h, fun h => ⟨_, rfl, by simp [go_sem]⟩⟩
      have E4 : (st == 4) = false := by simp [s4]
      by_cases s5 : st = 5
      · subst s5
        go_enter Try.func26, Try.ntmps26
        go_wp2
        go_ret2
        have e0 := H0.out
        exact ⟨_, by simp [beats, e0]; rfl, by rw [show leftOf each 1 = each by simp [leftOf, e0]]; exact heap_alloc_old (heart_set (heart_set hO _) _), by (repeat' (first | (with_reducible exact Frm.refl _ _) | (with_reducible assumption) | (with_reducible refine Frm.alloc ?_ _) | (with_reducible refine Frm.drew ?_) | (with_reducible refine Frm.drewN ?_ _) | (with_reducible refine Frm.set1 ?_ _) | (with_reducible refine Frm.setCell ?_ ?_ _) | (intro hlt; simp [World.size_alloc, One] at hlt ⊢; omega))), fun h => by simp [beats, e0] at h, fun h => ⟨_, rfl, by simp [go_sem]⟩⟩
      have E5 : (st == 5) = false := by simp [s5]
      by_cases s127 : st = 127
      · subst s127
        go_enter Try.func26, Try.ntmps26
        go_wp2
        go_ret2
        have e0 := H0.out
        exact ⟨_, by simp [beats, e0]; rfl, by rw [show leftOf each 1 = each by simp [leftOf, e0]]; exact heap_alloc_old (heart_set (heart_set hO _) _), by (repeat' (first | (with_reducible exact Frm.refl _ _) | (with_reducible assumption) | (with_reducible refine Frm.alloc ?_ _) | (with_reducible refine Frm.drew ?_) | (with_reducible refine Frm.drewN ?_ _) | (with_reducible refine Frm.set1 ?_ _) | (with_reducible refine Frm.setCell ?_ ?_ _) | (intro hlt; simp [World.size_alloc, One] at hlt ⊢; omega))), fun h => by simp [beats, e0] at h, fun h => ⟨_, rfl, by simp [go_sem]⟩⟩
      have E127 : (st == 127) = false := by simp [s127]
      have H1 : Hid (beats each 1 st = false) := by simp [Hid, beats, s4, s5, s127]
      clear s4 s5 s127
      go_enter Try.func26, Try.ntmps26
      go_wp2
      go_ret2
      have e0 := H0.out
      exact ⟨_, by rw [H1.out]; rfl, by rw [show leftOf each 1 = each by simp [leftOf, e0]]; exact heart_set (heart_set hO _) _, by (repeat' (first | (with_reducible exact Frm.refl _ _) | (with_reducible assumption) | (with_reducible refine Frm.alloc ?_ _) | (with_reducible refine Frm.drew ?_) | (with_reducible refine Frm.drewN ?_ _) | (with_reducible refine Frm.set1 ?_ _) | (with_reducible refine Frm.setCell ?_ ?_ _) | (intro hlt; simp [World.size_alloc, One] at hlt ⊢; omega))), fun _ => rfl, fun h => by rw [H1.out] at h; cases h⟩
    · have e2 : 0 < left - 1 := by omega
      have H1 : Hid (beats each left st = false ∧ leftOf each left = left - 1) := by simp [Hid, beats, leftOf, e1, H0.out]
      clear e1
      go_enter Try.func26, Try.ntmps26
      go_wp2
      go_ret2
      exact ⟨_, by rw [H1.out.1]; rfl, by rw [H1.out.2]; exact heart_set hO _, by (repeat' (first | (with_reducible exact Frm.refl _ _) | (with_reducible assumption) | (with_reducible refine Frm.alloc ?_ _) | (with_reducible refine Frm.drew ?_) | (with_reducible refine Frm.drewN ?_ _) | (with_reducible refine Frm.set1 ?_ _) | (with_reducible refine Frm.setCell ?_ ?_ _) | (intro hlt; simp [World.size_alloc, One] at hlt ⊢; omega))), fun _ => rfl, fun h => by rw [H1.out.1] at h; cases h⟩

end Go.Proofs.Ytmkkeglcjbogcaa
