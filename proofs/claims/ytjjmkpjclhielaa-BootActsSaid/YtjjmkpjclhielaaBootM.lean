/-
  A boot in memory; which node has a number.
-/
import Derived.Test.YtjjmkpjclhielaaBootJ
import Derived.Test.YtjjmkpjclhielaaBootP
import Derived.Deep.RegionLaw
import Derived.Deep.DeepCutAuto
namespace Go.Proofs.Ytjjmkpjclhielaa
open Go.RowKit
set_option linter.unusedVariables false

def ptr (p : Nat) : Value := .pointer (some ⟨p, 0, none⟩)
def Nd.cells (x : Nd) (A : Option Addr) (c : Nat) : Array Value := #[.int .i64 x.p.node, .int .u32 x.p.dev, .int .u32 x.p.i0, .int .u32 x.p.i1, .int .u32 x.p.i2, .int .u32 x.p.i3, .int .u32 x.p.day, .int .u32 x.p.time, .slice A x.p.its.length c, .bool x.p.mand, .bool x.p.keep, .int .i64 x.is, .int .i64 x.looked, .int .u8 x.status]
/-- A node at block p. -/
def NodeAt (w : World) (p : Nat) (x : Nd) : Prop := ∃ A c, x.p.its.length ≤ 9223372036854775807 ∧ w.heap[p]? = some (.cells (x.cells A c) 74 (0, 0))
theorem NodeAt.frm {S : Nat → Prop} {w w' : World} {p : Nat} {x : Nd} (h : NodeAt w p x) (hF : Frm S w w') (hS : ¬ S p) : NodeAt w' p x := by
  obtain ⟨A, c, h1, h2⟩ := h
  exact ⟨A, c, h1, hF.heap h2 hS⟩
set_option maxHeartbeats 400000 in
theorem of1_any (p bx : Nat) (a n : Int) (w : World) (h : w.cell? ⟨p, 0, none⟩ = some (.int .i64 a)) (hb : w.cell? ⟨bx, 0, none⟩ = some (.int .i64 n)) :
    Calls Try.prog 39 #[ptr p, ptr bx] w fun e w' => e = .returned (.bool (a == n)) ∧ ∃ m, w' = w.drewN m := by
  unfold ptr
  go_enter Try.func39, Try.ntmps39
  go_wp2
  go_quiet (fail)
  go_wp2
  go_ret
  exact ⟨rfl, _, rfl⟩

/-- The first place at which n stands, -1 if nowhere. -/
def placeOf (l : List Int) (n : Int) : Int := if l.idxOf n < l.length then (l.idxOf n : Int) else -1

theorem placeOf_hit {l : List Int} {n : Int} {k : Nat} (hk : k < l.length) (h : l.getD k 0 = n) (hno : ∀ j, j < k → l.getD j 0 ≠ n) : placeOf l n = k := by
  have h1 : l.idxOf n = k := by
    induction l generalizing k with
    | nil => simp at hk
    | cons x r ih =>
      cases k with
      | zero => simp at h; subst h; simp
      | succ k =>
        have hx : x ≠ n := by simpa using hno 0 (by omega)
        have := ih (by simpa using hk) (by simpa using h) (fun j hj => by simpa using hno (j + 1) (by omega))
        have hx' : (x == n) = false := by simpa using hx
        simp [List.idxOf_cons, hx', this]
  unfold placeOf
  rw [h1, if_pos hk]

theorem placeOf_miss {l : List Int} {n : Int} (hno : ∀ j, j < l.length → l.getD j 0 ≠ n) : placeOf l n = -1 := by
  unfold placeOf
  rw [if_neg]
  intro h
  have := hno _ h
  rw [List.getD_eq_getElem?_getD, List.getElem?_eq_getElem h] at this
  simp at this

theorem placeOf_cases (l : List Int) (n : Int) : (placeOf l n = -1 ∧ n ∉ l) ∨ ∃ k, placeOf l n = (k : Nat) ∧ k < l.length ∧ l.getD k 0 = n ∧ k = l.idxOf n := by
  unfold placeOf
  by_cases h : l.idxOf n < l.length
  · rw [if_pos h]
    exact .inr ⟨_, rfl, h, by rw [List.getD_eq_getElem?_getD, List.getElem?_eq_getElem h]; simp, rfl⟩
  · rw [if_neg h]
    exact .inl ⟨rfl, fun hm => h (List.idxOf_lt_length_of_mem hm)⟩

set_option maxHeartbeats 400000 in
theorem idx_any (ps : List Nat) (l : List Int) (g bx cap : Nat) (A : Option Addr) (n : Int) (w : World) (hl : l.length = ps.length) (hm : ps.length ≤ maxLen)
    (hA : 0 < ps.length → A = some ⟨g, 0, none⟩)
    (hr : ∀ i, i < ps.length → w.cell? ⟨g, i, none⟩ = some (ptr (ps.getD i 0))) (hx : ∀ i, i < ps.length → w.cell? ⟨ps.getD i 0, 0, none⟩ = some (.int .i64 (l.getD i 0)))
    (hb : w.cell? ⟨bx, 0, none⟩ = some (.int .i64 n)) :
    Calls Try.prog 38 #[.slice A ps.length cap, .func (.func 39) #[] #[ptr bx]] w fun e w' => e = .returned (.int .i64 (placeOf l n)) ∧ ∃ m, w' = w.drewN m := by
  unfold maxLen at hm
  have HR := Lib.hid hr
  have HX := Lib.hid hx
  have HA := Lib.hid hA
  have HL := Lib.hid hl
  clear hr hx hA hl
  go_enter Try.func38, Try.ntmps38
  go_wp2
  go_loopw [5, 8] (fun _ i wr => ∃ k m : Nat, k ≤ ps.length ∧ i = .int .i64 k ∧ wr = w.drewN m ∧ ∀ j, j < k → l.getD j 0 ≠ n) (fun _ i _ => ps.length - (intOf i).toNat)
  case atStart => exact ⟨0, 0, Nat.zero_le _, rfl, rfl, fun j hj => absurd hj (by omega)⟩
  case round =>
    obtain ⟨k, m, hk, rfl, rfl, hno⟩ := hrel
    have HN := Lib.hid hno
    clear hno
    by_cases hlt : k < ps.length
    · obtain rfl := HA.out (by omega)
      obtain ⟨p, hp⟩ : ∃ p, p = ps.getD k 0 := ⟨_, rfl⟩
      obtain ⟨a, ha⟩ : ∃ a, a = l.getD k 0 := ⟨_, rfl⟩
      have c1 : w.cell? ⟨g, k, none⟩ = some (.pointer (some ⟨p, 0, none⟩)) := by rw [hp]; exact HR.out k hlt
      have c2 : w.cell? ⟨p, 0, none⟩ = some (.int .i64 a) := by rw [hp, ha]; exact HX.out k hlt
      have Ha := Lib.hid ha
      clear hp ha
      unfold ptr
      go_wp2_with (go_at_call 39; refine (of1_any p bx a n _ (by simpa using c2) (by simpa using hb)).mono ?_; rintro e w' ⟨rfl, m', rfl⟩)
      · have hyes : (a == n) = true := by assumption
        go_ret
        exact ⟨ret_int (placeOf_hit (by rw [HL.out]; exact hlt) (by rw [← Ha.out]; simpa using hyes) HN.out).symm, _, rfl⟩
      · have hno : (a == n) = false := by assumption
        go_roundw
        case rel =>
          refine ⟨k + 1, _, by omega, by go_num, rfl, fun j hj => ?_⟩
          rcases Nat.lt_succ_iff_lt_or_eq.1 hj with h | rfl
          · exact HN.out j h
          · rw [← Ha.out]; simpa using hno
        case measure => simp [intOf]; omega
    · have hkn : k = ps.length := by omega
      have HK := Lib.hid hkn
      clear hkn
      go_wp2
      go_ret
      exact ⟨ret_int (placeOf_miss (by rw [HL.out, ← HK.out]; exact HN.out)).symm, _, rfl⟩

/-- A boot at block b: its nodes, each in a block of its own. -/
structure BAt (w : World) (b : Nat) (l : List (Nat × Nd)) (t : Int) (hh : Bool) : Prop where
  row : ∃ v, w.heap[b]? = some (.cells #[v, .int .i64 t, .bool hh] 64 (0, 0)) ∧ w.ownsRow b 66 1 v l.length (l.map fun q => ptr q.1)
  el : ∀ (i : Nat) (h : i < l.length), NodeAt w l[i].1 l[i].2
  nd : (l.map (·.1)).Nodup

def nodesN (l : List (Nat × Nd)) : List Int := l.map (·.2.p.node)

set_option maxHeartbeats 400000 in
theorem of_hit (b : Nat) (l : List (Nat × Nd)) (t : Int) (hh : Bool) (n : Int) (w : World) (h : BAt w b l t hh) (k : Nat) (hk : k < l.length) (hn : l[k].2.p.node = n) (hno : ∀ j, j < k → (nodesN l).getD j 0 ≠ n) :
    Calls Try.prog 26 #[ptr b, .int .i64 n] w fun e w' => e = .returned (ptr l[k].1) ∧ ∃ m, w' = (w.alloc (.cells #[.int .i64 n] 3)).drewN m := by
  obtain ⟨v, hO, hr⟩ := h.row
  obtain ⟨A, cap, rfl, h1, h2, h3⟩ := row_open hr
  obtain ⟨g, rfl, _, ⟨cur, hcur⟩, hf, hc⟩ := h3 (by omega)
  have c0 : w.cell? ⟨b, 0, none⟩ = some (.slice (some ⟨g, 0, none⟩) l.length cap) := cell_at hO
  have hb := lt_of_block hO
  have hg : g < w.heap.size := lt_of_block hcur
  have ck : w.cell? ⟨g, k, none⟩ = some (.pointer (some ⟨l[k].1, 0, none⟩)) := by rw [hc k (by omega)]; simp [hk, ptr]
  have hw2 : maxLen = 9223372036854775807 := rfl
  have hidx := idx_any (l.map (·.1)) (nodesN l) g w.heap.size cap (some ⟨g, 0, none⟩) n (w.alloc (.cells #[.int .i64 n] 3)) (by simp [nodesN]) (by simp; omega) (fun _ => rfl)
    (fun i hi => by
      have hi' : i < l.length := by simpa using hi
      rw [World.cell?_alloc_past _ _ _ hg, hc i (by omega)]; simp [hi'])
    (fun i hi => by
      have hi' : i < l.length := by simpa using hi
      obtain ⟨A3, c3, _, this⟩ := h.el i hi'
      simp [hi', nodesN]
      rw [World.cell?_alloc_past _ _ _ (lt_of_block this), cell_at this]; rfl)
    (by simp)
  simp only [List.length_map] at hidx
  rw [placeOf_hit (k := k) (by simpa [nodesN] using hk) (by simpa [nodesN, hk] using hn) hno] at hidx
  have HI := Lib.hid hidx
  obtain ⟨p, hp⟩ : ∃ p, p = l[k].1 := ⟨_, rfl⟩
  rw [← hp] at ck ⊢
  clear hidx hno hc hf hr hO hn h hcur h1 h2 h3 hp hw2
  unfold ptr at *
  go_enter Try.func26, Try.ntmps26
  go_wp2_with (go_at_call 38; refine HI.out.mono ?_; rintro e w' ⟨rfl, m, rfl⟩)
  go_ret
  exact ⟨rfl, _, rfl⟩

set_option maxHeartbeats 400000 in
theorem of_miss (b : Nat) (l : List (Nat × Nd)) (t : Int) (hh : Bool) (n : Int) (w : World) (h : BAt w b l t hh) (hno : ∀ j, j < l.length → (nodesN l).getD j 0 ≠ n) :
    Calls Try.prog 26 #[ptr b, .int .i64 n] w fun e w' => e = .returned (.pointer none) ∧ ∃ m, w' = (w.alloc (.cells #[.int .i64 n] 3)).drewN m := by
  obtain ⟨v, hO, hr⟩ := h.row
  obtain ⟨A, cap, rfl, h1, h2, h3⟩ := row_open hr
  have c0 : w.cell? ⟨b, 0, none⟩ = some (.slice A l.length cap) := cell_at hO
  have hb := lt_of_block hO
  have hidx : ∃ m0 : Nat, Calls Try.prog 38 #[.slice A l.length cap, .func (.func 39) #[] #[ptr w.heap.size]] (w.alloc (.cells #[.int .i64 n] 3)) fun e w' => e = .returned (.int .i64 (-1)) ∧ ∃ m, w' = (w.alloc (.cells #[.int .i64 n] 3)).drewN m := by
    refine ⟨0, ?_⟩
    have hp : placeOf (nodesN l) n = -1 := placeOf_miss (by simpa [nodesN] using hno)
    rw [← hp]
    by_cases h0 : 0 < l.length
    · obtain ⟨g, rfl, _, ⟨cur, hcur⟩, hf, hc⟩ := h3 h0
      have hg : g < w.heap.size := lt_of_block hcur
      have hidx := idx_any (l.map (·.1)) (nodesN l) g w.heap.size cap (some ⟨g, 0, none⟩) n (w.alloc (.cells #[.int .i64 n] 3)) (by simp [nodesN]) (by simp; omega) (fun _ => rfl)
        (fun i hi => by
          have hi' : i < l.length := by simpa using hi
          rw [World.cell?_alloc_past _ _ _ hg, hc i (by omega)]; simp [hi'])
        (fun i hi => by
          have hi' : i < l.length := by simpa using hi
          obtain ⟨A3, c3, _, this⟩ := h.el i hi'
          simp [hi', nodesN]
          rw [World.cell?_alloc_past _ _ _ (lt_of_block this), cell_at this]; rfl)
        (by simp)
      simpa using hidx
    · have hl0 : l = [] := List.eq_nil_of_length_eq_zero (by omega)
      subst hl0
      exact idx_any [] (nodesN []) 0 w.heap.size cap A n _ (by simp [nodesN]) (by simp [maxLen]) (fun h => by simp at h) (fun i hi => by simp at hi) (fun i hi => by simp at hi) (by simp)
  obtain ⟨_, hidx⟩ := hidx
  have HI := Lib.hid hidx
  clear hidx hno hr hO h h1 h2 h3
  unfold ptr at *
  go_enter Try.func26, Try.ntmps26
  go_wp2_with (go_at_call 38; refine HI.out.mono ?_; rintro e w' ⟨rfl, m, rfl⟩)
  go_ret
  exact ⟨rfl, _, rfl⟩


end Go.Proofs.Ytjjmkpjclhielaa
