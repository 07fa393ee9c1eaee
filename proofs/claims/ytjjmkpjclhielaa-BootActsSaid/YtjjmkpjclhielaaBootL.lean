/-
  That the law's own look at the living ('lives') is true.
-/
import Derived.Test.YtjjmkpjclhielaaBootW
import Derived.Test.YtjjmkpjclhielaaBootT
import Derived.Test.YtjjmkpjclhielaaBootU
namespace Go.Proofs.Ytjjmkpjclhielaa
open Go.RowKit
set_option linter.unusedVariables false

def p5 : Pl := ⟨5, 0, 0, 0, 0, 0, 0, 0, [], true, false⟩
def s5 : Sn := ⟨true, 0, 0, 0, 0, 0, 0, 0, 127, 0, true⟩
theorem new_five : newOf [p5] 3 = 0 := by rfl
theorem saw_five : sawOf ⟨[Nd.new p5], 3, false⟩ 5 s5 = (⟨[⟨p5, 1, 1, 0⟩], 3, false⟩, 0, 1, 0) := by rfl
theorem next_five : nextOf ⟨[Nd.new p5], 3, false⟩ = (5, true) := by rfl
theorem nilIts (w : World) (p : Pl) (h : p.its = []) : HasIts w (.slice none 0 0) p := ⟨[], ⟨⟨none, 0, rfl, Nat.le_refl _, Nat.zero_le _, fun h => absurd h (by simp)⟩, fun x hx => by cases hx⟩, by rw [h]; rfl⟩
theorem one_plan (w : World) (p : Pl) (v : Value) (h : HasIts w v p) {b : Nat} (hb : w.heap[b]? = some (.cells (encP (p, v)).toArray 38 (0, 0))) : PlansAt w (.slice (some ⟨b, 0, none⟩) 1 1) [(p, v)] := by
  refine ⟨⟨_, 1, rfl, Nat.le_refl _, by decide, fun _ => ⟨b, 0, rfl, lt_of_block hb, fun i hi j hj => ?_⟩⟩, fun x hx => ?_⟩
  · obtain rfl : i = 0 := by simp at hi; omega
    rw [cell_at hb]
    simp
  · simp at hx
    subst hx
    exact h

theorem single_fst {l : List (Nat × Nd)} {p : Nat} (h : l.map (·.1) = [p]) : ∃ x, l = [(p, x)] := by
  have h1 : l.length = 1 := by have := congrArg List.length h; simpa using this
  obtain ⟨⟨q, x⟩, rfl⟩ := List.length_eq_one_iff.1 h1
  have h2 : q = p := by simpa using h
  exact ⟨x, by rw [h2]⟩
theorem single_nds {l : List (Nat × Nd)} {x : Nd} (h : nds l = [x]) : ∃ p y, l = [(p, y)] := by
  have h1 : l.length = 1 := by have := congrArg List.length h; simpa [nds] using this
  obtain ⟨⟨q, y⟩, rfl⟩ := List.length_eq_one_iff.1 h1
  exact ⟨q, y, rfl⟩
theorem sorted_five : sorted [5] = [5] := by simp [sorted]
def LivesB (w : World) (e : Ending) (w' : World) : Prop := e = .returned (.bool true) ∧ Frm (fun _ => False) w w'

set_option maxRecDepth 100000 in
set_option maxHeartbeats 400000 in
theorem livesB_any (w : World) : Calls Try.prog 10 #[] w (LivesB w) := by
  go_enter Try.func10, Try.ntmps10
  go_wp2_with fail
  refine (bnew_any _ [(p5, .slice none 0 0)] 3 _ (one_plan _ p5 _ (nilIts _ _ rfl) (heap_new _ _)) (by simp [p5])).mono ?_
  rintro e w1 ⟨hF1, hp⟩
  have hn : newOf ([(p5, Value.slice none 0 0)].map (·.1)) 3 = 0 := new_five
  rw [hn] at hp
  rcases hp with ⟨h, _⟩ | ⟨_, b, l, rfl, hB, hl, hb, hq⟩
  · exact absurd rfl h
  have hF1 : Frm (fun _ => False) w w1 := Frm.trans' (by (repeat' (first | (with_reducible exact Frm.refl _ _) | (with_reducible assumption) | (with_reducible refine Frm.alloc ?_ _) | (with_reducible refine Frm.drew ?_) | (with_reducible refine Frm.drewN ?_ _) | (with_reducible refine Frm.set1 ?_ _) | (with_reducible refine Frm.setCell ?_ ?_ _) | (exact fun h => absurd h (Nat.lt_irrefl _)) | (intro hlt; simp [World.size_alloc, One] at hlt ⊢; omega)))) hF1
  have hl1 : nds l = [Nd.new p5] := hl
  obtain ⟨p, x, rfl⟩ := single_nds hl1
  have hx : x = Nd.new p5 := by simpa [nds] using hl1
  subst hx
  have hpw : w.heap.size ≤ p := by have := hq (p, Nd.new p5) (by simp); simp at this; omega
  have hbw : w.heap.size ≤ b := by simp at hb; omega
  have HB := Lib.hid hB
  have HF1 := Lib.hid hF1
  clear hB hF1 hn hl hl1 hq hb
  unfold ptr
  go_wp2_with fail
  refine (may_any b _ 3 false _ HB.out).mono ?_
  rintro e w2 ⟨rfl, m2, rfl⟩
  have e1 : mayOf ⟨nds [(p, Nd.new p5)], 3, false⟩ = false := rfl
  rw [e1]
  go_wp2_with fail
  refine (next_any b _ 3 false _ (HB.out.grow (by (repeat' (first | (with_reducible exact Frm.refl _ _) | (with_reducible assumption) | (with_reducible refine Frm.alloc ?_ _) | (with_reducible refine Frm.drew ?_) | (with_reducible refine Frm.drewN ?_ _) | (with_reducible refine Frm.set1 ?_ _) | (with_reducible refine Frm.setCell ?_ ?_ _) | (exact fun h => absurd h (Nat.lt_irrefl _)) | (intro hlt; simp [World.size_alloc, One] at hlt ⊢; omega)))))).mono ?_
  rintro e w3 ⟨rfl, m3, rfl⟩
  have e2 : nextOf ⟨nds [(p, Nd.new p5)], 3, false⟩ = (5, true) := next_five
  rw [e2]
  have HSAW := Lib.hid (fun W hF => saw_open b [(p, Nd.new p5)] 3 5 s5 W (HB.out.grow (w' := W) hF) 0 rfl (fun _ => rfl) (by simp [Nd.new]))
  have e3 : sawOf ⟨nds [(p, Nd.new p5)], 3, false⟩ 5 s5 = (⟨[⟨p5, 1, 1, 0⟩], 3, false⟩, 0, 1, 0) := saw_five
  rw [e3] at HSAW
  clear e1 e2 e3
  unfold ptr at HSAW
  go_wp2_with fail
  refine (HSAW.out _ (by (repeat' (first | (with_reducible exact Frm.refl _ _) | (with_reducible assumption) | (with_reducible refine Frm.alloc ?_ _) | (with_reducible refine Frm.drew ?_) | (with_reducible refine Frm.drewN ?_ _) | (with_reducible refine Frm.set1 ?_ _) | (with_reducible refine Frm.setCell ?_ ?_ _) | (exact fun h => absurd h (Nat.lt_irrefl _)) | (intro hlt; simp [World.size_alloc, One] at hlt ⊢; omega))))).mono ?_
  rintro e w4 ⟨rfl, l4, hB4, hl4, hp4, hF4⟩
  have hF4 : Frm (fun _ => False) w w4 := (HF1.out.trans' (by (repeat' (first | (with_reducible exact Frm.refl _ _) | (with_reducible assumption) | (with_reducible refine Frm.alloc ?_ _) | (with_reducible refine Frm.drew ?_) | (with_reducible refine Frm.drewN ?_ _) | (with_reducible refine Frm.set1 ?_ _) | (with_reducible refine Frm.setCell ?_ ?_ _) | (exact fun h => absurd h (Nat.lt_irrefl _)) | (intro hlt; simp [World.size_alloc, One] at hlt ⊢; omega))))).trans hF4 (fun i hi h => by
    rcases h with h | h
    · omega
    · simp at h; omega)
  obtain ⟨x4, rfl⟩ := single_fst hp4
  have hx4 : x4 = ⟨p5, 1, 1, 0⟩ := by simpa [nds] using hl4
  subst hx4
  have HB4 := Lib.hid hB4
  have HF4 := Lib.hid hF4
  clear hB4 hF4 hl4 hp4
  simp only
  go_wp2_with fail
  refine (run_any b _ 3 false _ HB4.out (by simp)).mono ?_
  rintro e w5 ⟨v5, rfl, hr5, hF5⟩
  have e5 : runN (nds [(p, ⟨p5, 1, 1, 0⟩)]) = [5] := rfl
  rw [e5] at hr5
  have e6 := sorted_five
  rw [e6] at hr5
  obtain ⟨A5, c5, rfl, _, _, h5⟩ := row_open hr5
  obtain ⟨g5, rfl, _, _, _, hc5⟩ := h5 (by simp)
  have k5 : w5.cell? ⟨g5, 0, none⟩ = some (.int .i64 5) := by rw [hc5 0 (by simp)]; rfl
  have HB5 := Lib.hid (HB4.out.grow hF5)
  have HF5 := Lib.hid (HF4.out.trans' hF5)
  have e7 : mayOf ⟨nds [(p, ⟨p5, 1, 1, 0⟩)], 3, false⟩ = true := rfl
  have HM := Lib.hid (may_any b _ 3 false _ HB5.out)
  rw [e7] at HM
  clear h5 hc5 hr5 hF5 e5 e6 e7
  simp only [List.length_singleton]
  unfold ptr at HM
  go_wp2_with fail
  refine HM.out.mono ?_
  rintro e w6 ⟨rfl, m6, rfl⟩
  go_wp2_with fail
  go_ret
  exact ⟨rfl, HF5.out.drewN _⟩
end Go.Proofs.Ytjjmkpjclhielaa
