/-
  What the watcher's functions do: of, Take, Tick.
-/
import Derived.Test.YtmkkeglcjbogcaaProg
import Derived.Test.YtmkkeglcjbogcaaCore
import Derived.Deep.QuietTactic
import Derived.BigQuiet
namespace Go.Proofs.Ytmkkeglcjbogcaa
open Go.RowKit
set_option linter.unusedVariables false

structure Wd where
  node : Int
  ticks : Int
  state : Int
  there : Bool
  lost : Bool
  since : Int

def Wd.cells (x : Wd) : Array Value := #[.int .i64 x.node, .int .u64 x.ticks, .int .i64 x.state, .bool x.there, .bool x.lost, .int .u64 x.since]
def ptr (p : Nat) : Value := .pointer (some ⟨p, 0, none⟩)

set_option maxHeartbeats 400000 in
theorem of1_any (p bx : Nat) (a n : Int) (w : World) (h : w.cell? ⟨p, 0, none⟩ = some (.int .i64 a)) (hb : w.cell? ⟨bx, 0, none⟩ = some (.int .i64 n)) :
    Calls Try.prog 91 #[ptr p, ptr bx] w fun e w' => e = .returned (.bool (a == n)) ∧ ∃ m, w' = w.drewN m := by
  unfold ptr
  go_enter Try.func91, Try.ntmps91
  go_wp2
  go_quiet (fail)
  go_wp2
  go_ret
  exact ⟨rfl, _, rfl⟩

/-- The first place at which n stands, -1 if nowhere. -/
def placeOf (l : List Int) (n : Int) : Int := if l.idxOf n < l.length then (l.idxOf n : Int) else -1

theorem placeOf_hit {l : List Int} {n : Int} {k : Nat} (hk : k < l.length) (h : l.getD k 0 = n) (hno : ∀ j, j < k → l.getD j 0 ≠ n) : placeOf l n = k := by
  have h1 : l.idxOf n = k := by
    induction l generalizing k with
    | nil => simp at hk
    | cons x r ih =>
      cases k with
      | zero => simp at h; subst h; simp
      | succ k =>
        have hx : x ≠ n := by simpa using hno 0 (by omega)
        have := ih (by simpa using hk) (by simpa using h) (fun j hj => by simpa using hno (j + 1) (by omega))
        have hx' : (x == n) = false := by simpa using hx
        simp [List.idxOf_cons, hx', this]
  unfold placeOf
  rw [h1, if_pos hk]

theorem placeOf_miss {l : List Int} {n : Int} (hno : ∀ j, j < l.length → l.getD j 0 ≠ n) : placeOf l n = -1 := by
  unfold placeOf
  rw [if_neg]
  intro h
  have := hno _ h
  rw [List.getD_eq_getElem?_getD, List.getElem?_eq_getElem h] at this
  simp at this

theorem placeOf_cases (l : List Int) (n : Int) : (placeOf l n = -1 ∧ n ∉ l) ∨ ∃ k, placeOf l n = (k : Nat) ∧ k < l.length ∧ l.getD k 0 = n ∧ k = l.idxOf n := by
  unfold placeOf
  by_cases h : l.idxOf n < l.length
  · rw [if_pos h]
    exact .inr ⟨_, rfl, h, by rw [List.getD_eq_getElem?_getD, List.getElem?_eq_getElem h]; simp, rfl⟩
  · rw [if_neg h]
    exact .inl ⟨rfl, fun hm => h (List.idxOf_lt_length_of_mem hm)⟩

set_option maxHeartbeats 400000 in
theorem idx_any (ps : List Nat) (l : List Int) (g bx cap : Nat) (A : Option Addr) (n : Int) (w : World) (hl : l.length = ps.length) (hm : ps.length ≤ maxLen)
    (hA : 0 < ps.length → A = some ⟨g, 0, none⟩)
    (hr : ∀ i, i < ps.length → w.cell? ⟨g, i, none⟩ = some (ptr (ps.getD i 0))) (hx : ∀ i, i < ps.length → w.cell? ⟨ps.getD i 0, 0, none⟩ = some (.int .i64 (l.getD i 0)))
    (hb : w.cell? ⟨bx, 0, none⟩ = some (.int .i64 n)) :
    Calls Try.prog 90 #[.slice A ps.length cap, .func (.func 91) #[] #[ptr bx]] w fun e w' => e = .returned (.int .i64 (placeOf l n)) ∧ ∃ m, w' = w.drewN m := by
  unfold maxLen at hm
  have HR := Lib.hid hr
  have HX := Lib.hid hx
  have HA := Lib.hid hA
  have HL := Lib.hid hl
  clear hr hx hA hl
  go_enter Try.func90, Try.ntmps90
  go_wp2
  go_loopw [5, 8] (fun _ i wr => ∃ k m : Nat, k ≤ ps.length ∧ i = .int .i64 k ∧ wr = w.drewN m ∧ ∀ j, j < k → l.getD j 0 ≠ n) (fun _ i _ => ps.length - (intOf i).toNat)
  case atStart => exact ⟨0, 0, Nat.zero_le _, rfl, rfl, fun j hj => absurd hj (by omega)⟩
  case round =>
    obtain ⟨k, m, hk, rfl, rfl, hno⟩ := hrel
    have HN := Lib.hid hno
    clear hno
    by_cases hlt : k < ps.length
    · obtain rfl := HA.out (by omega)
      obtain ⟨p, hp⟩ : ∃ p, p = ps.getD k 0 := ⟨_, rfl⟩
      obtain ⟨a, ha⟩ : ∃ a, a = l.getD k 0 := ⟨_, rfl⟩
      have c1 : w.cell? ⟨g, k, none⟩ = some (.pointer (some ⟨p, 0, none⟩)) := by rw [hp]; exact HR.out k hlt
      have c2 : w.cell? ⟨p, 0, none⟩ = some (.int .i64 a) := by rw [hp, ha]; exact HX.out k hlt
      have Ha := Lib.hid ha
      clear hp ha
      unfold ptr
      go_wp2_with (go_at_call 91; refine (of1_any p bx a n _ (by simpa using c2) (by simpa using hb)).mono ?_; rintro e w' ⟨rfl, m', rfl⟩)
      · have hyes : (a == n) = true := by assumption
        go_ret
        exact ⟨ret_int (placeOf_hit (by rw [HL.out]; exact hlt) (by rw [← Ha.out]; simpa using hyes) HN.out).symm, _, rfl⟩
      · have hno : (a == n) = false := by assumption
        go_roundw
        case rel =>
          refine ⟨k + 1, _, by omega, by go_num, rfl, fun j hj => ?_⟩
          rcases Nat.lt_succ_iff_lt_or_eq.1 hj with h | rfl
          · exact HN.out j h
          · rw [← Ha.out]; simpa using hno
        case measure => simp [intOf]; omega
    · have hkn : k = ps.length := by omega
      have HK := Lib.hid hkn
      clear hkn
      go_wp2
      go_ret
      exact ⟨ret_int (placeOf_miss (by rw [HL.out, ← HK.out]; exact HN.out)).symm, _, rfl⟩

/-- A watcher at block b: its nodes, each in a block of its own. -/
structure WAt (w : World) (b : Nat) (l : List (Nat × Wd)) : Prop where
  row : ∃ v, w.heap[b]? = some (.cells #[v] 131 (0, 0)) ∧ w.ownsRow b 132 1 v l.length (l.map fun q => ptr q.1)
  el : ∀ (i : Nat) (h : i < l.length), w.heap[l[i].1]? = some (.cells l[i].2.cells 135 (0, 0))
  nd : (l.map (·.1)).Nodup

def nodes (l : List (Nat × Wd)) : List Int := l.map (·.2.node)

set_option maxHeartbeats 400000 in
theorem of_hit (b : Nat) (l : List (Nat × Wd)) (n : Int) (w : World) (h : WAt w b l) (k : Nat) (hk : k < l.length) (hn : l[k].2.node = n) (hno : ∀ j, j < k → (nodes l).getD j 0 ≠ n) :
    Calls Try.prog 61 #[ptr b, .int .i64 n] w fun e w' => e = .returned (ptr l[k].1) ∧ ∃ m, w' = (w.alloc (.cells #[.int .i64 n] 3)).drewN m := by
  obtain ⟨v, hO, hr⟩ := h.row
  obtain ⟨A, cap, rfl, h1, h2, h3⟩ := row_open hr
  obtain ⟨g, rfl, _, ⟨cur, hcur⟩, hf, hc⟩ := h3 (by omega)
  have c0 : w.cell? ⟨b, 0, none⟩ = some (.slice (some ⟨g, 0, none⟩) l.length cap) := cell_at hO
  have hb := lt_of_block hO
  have hg : g < w.heap.size := lt_of_block hcur
  have ck : w.cell? ⟨g, k, none⟩ = some (.pointer (some ⟨l[k].1, 0, none⟩)) := by rw [hc k (by omega)]; simp [hk, ptr]
  have hw2 : maxLen = 9223372036854775807 := rfl
  have hidx := idx_any (l.map (·.1)) (nodes l) g w.heap.size cap (some ⟨g, 0, none⟩) n (w.alloc (.cells #[.int .i64 n] 3)) (by simp [nodes]) (by simp; omega) (fun _ => rfl)
    (fun i hi => by
      have hi' : i < l.length := by simpa using hi
      rw [World.cell?_alloc_past _ _ _ hg, hc i (by omega)]; simp [hi'])
    (fun i hi => by
      have hi' : i < l.length := by simpa using hi
      have := h.el i hi'
      simp [hi', nodes]
      rw [World.cell?_alloc_past _ _ _ (lt_of_block this), cell_at this]; rfl)
    (by simp)
  simp only [List.length_map] at hidx
  rw [placeOf_hit (k := k) (by simpa [nodes] using hk) (by simpa [nodes, hk] using hn) hno] at hidx
  have HI := Lib.hid hidx
  obtain ⟨p, hp⟩ : ∃ p, p = l[k].1 := ⟨_, rfl⟩
  rw [← hp] at ck ⊢
  clear hidx hno hc hf hr hO hn h hcur h1 h2 h3 hp hw2
  unfold ptr at *
  go_enter Try.func61, Try.ntmps61
  go_wp2_with (go_at_call 90; refine HI.out.mono ?_; rintro e w' ⟨rfl, m, rfl⟩)
  go_ret
  exact ⟨rfl, _, rfl⟩

set_option maxHeartbeats 400000 in
theorem of_miss (b : Nat) (l : List (Nat × Wd)) (n : Int) (w : World) (h : WAt w b l) (hno : ∀ j, j < l.length → (nodes l).getD j 0 ≠ n) :
    Calls Try.prog 61 #[ptr b, .int .i64 n] w fun e w' => e = .returned (.pointer none) ∧ ∃ m, w' = (w.alloc (.cells #[.int .i64 n] 3)).drewN m := by
  obtain ⟨v, hO, hr⟩ := h.row
  obtain ⟨A, cap, rfl, h1, h2, h3⟩ := row_open hr
  have c0 : w.cell? ⟨b, 0, none⟩ = some (.slice A l.length cap) := cell_at hO
  have hb := lt_of_block hO
  have hidx : ∃ m0 : Nat, Calls Try.prog 90 #[.slice A l.length cap, .func (.func 91) #[] #[ptr w.heap.size]] (w.alloc (.cells #[.int .i64 n] 3)) fun e w' => e = .returned (.int .i64 (-1)) ∧ ∃ m, w' = (w.alloc (.cells #[.int .i64 n] 3)).drewN m := by
    refine ⟨0, ?_⟩
    have hp : placeOf (nodes l) n = -1 := placeOf_miss (by simpa [nodes] using hno)
    rw [← hp]
    by_cases h0 : 0 < l.length
    · obtain ⟨g, rfl, _, ⟨cur, hcur⟩, hf, hc⟩ := h3 h0
      have hg : g < w.heap.size := lt_of_block hcur
      have hidx := idx_any (l.map (·.1)) (nodes l) g w.heap.size cap (some ⟨g, 0, none⟩) n (w.alloc (.cells #[.int .i64 n] 3)) (by simp [nodes]) (by simp; omega) (fun _ => rfl)
        (fun i hi => by
          have hi' : i < l.length := by simpa using hi
          rw [World.cell?_alloc_past _ _ _ hg, hc i (by omega)]; simp [hi'])
        (fun i hi => by
          have hi' : i < l.length := by simpa using hi
          have := h.el i hi'
          simp [hi', nodes]
          rw [World.cell?_alloc_past _ _ _ (lt_of_block this), cell_at this]; rfl)
        (by simp)
      simpa using hidx
    · have hl0 : l = [] := List.eq_nil_of_length_eq_zero (by omega)
      subst hl0
      exact idx_any [] (nodes []) 0 w.heap.size cap A n _ (by simp [nodes]) (by simp [maxLen]) (fun h => by simp at h) (fun i hi => by simp at hi) (fun i hi => by simp at hi) (by simp)
  obtain ⟨_, hidx⟩ := hidx
  have HI := Lib.hid hidx
  clear hidx hno hr hO h h1 h2 h3
  unfold ptr at *
  go_enter Try.func61, Try.ntmps61
  go_wp2_with (go_at_call 90; refine HI.out.mono ?_; rintro e w' ⟨rfl, m, rfl⟩)
  go_ret
  exact ⟨rfl, _, rfl⟩

theorem WAt.upd {w w' : World} {b k : Nat} {l : List (Nat × Wd)} (h : WAt w b l) (hk : k < l.length) (x' : Wd) (hf : Frm (One l[k].1) w w')
    (hp : w'.heap[l[k].1]? = some (.cells x'.cells 135 (0, 0))) : WAt w' b (l.set k (l[k].1, x')) := by
  obtain ⟨v, hO, hr⟩ := h.row
  have hx := h.el k hk
  refine ⟨⟨v, hf.heap hO (block_ne hO hx (by decide)), ?_⟩, ?_, ?_⟩
  · have hm : (l.set k (l[k].1, x')).map (fun q => ptr q.1) = l.map fun q => ptr q.1 := by
      apply List.ext_getElem (by simp)
      intro i h1 h2
      by_cases e : k = i
      · subst e; simp
      · simp [e]
    rw [hm, List.length_set]
    exact hf.row hr (fun j hj => by
      obtain ⟨_, cur, hc⟩ := row_block hr hj
      exact block_ne hc hx (by decide))
  · intro i hi
    have hi' : i < l.length := by simpa using hi
    by_cases e : k = i
    · subst e; simpa using hp
    · simp only [List.getElem_set, e, if_false]
      refine hf.heap (h.el i hi') ?_
      intro (e2 : l[i].1 = l[k].1)
      exact e (nodup_at h.nd (i := i) (k := k) (by simpa using hi') (by simpa using hk) (by simpa using e2)).symm
  · have hm : (l.set k (l[k].1, x')).map (·.1) = l.map (·.1) := by
      apply List.ext_getElem (by simp)
      intro i h1 h2
      by_cases e : k = i
      · subst e; simp
      · simp [e]
    rw [hm]; exact h.nd

theorem WAt.frm {S : Nat → Prop} {w w' : World} {b : Nat} {l : List (Nat × Wd)} (h : WAt w b l) (hf : Frm S w w') (hb : ¬ S b)
    (hS : ∀ k c t, w.heap[k]? = some (.cells c t (0, 0)) → t = 132 ∨ t = 135 → ¬ S k) : WAt w' b l := by
  obtain ⟨v, hO, hr⟩ := h.row
  exact ⟨⟨v, hf.heap hO hb, hf.row hr fun j hj => by
    obtain ⟨_, cur, hc⟩ := row_block hr hj
    exact hS _ _ _ hc (.inl rfl)⟩, fun i hi => hf.heap (h.el i hi) (hS _ _ _ (h.el i hi) (.inr rfl)), h.nd⟩

theorem WAt.frm_row {w w' : World} {b B e size n : Nat} {v : Value} {xs : List Value} {l : List (Nat × Wd)} (h : WAt w b l) (hr : w.ownsRow B e size v n xs) (hf : Frm (fun k => v.ownBlock = some k) w w')
    (h1 : 131 ≠ e) (h2 : 132 ≠ e) (h3 : 135 ≠ e) : WAt w' b l := by
  obtain ⟨v0, hO, _⟩ := h.row
  refine h.frm hf (fun hv => ?_) (fun k c t hc ht hv => ?_)
  · obtain ⟨_, cur, hcur⟩ := row_block hr hv
    exact block_ne hO hcur h1 rfl
  · obtain ⟨_, cur, hcur⟩ := row_block hr hv
    rcases ht with rfl | rfl
    · exact block_ne hc hcur h2 rfl
    · exact block_ne hc hcur h3 rfl

abbrev News := Int × Int × Int
def newsCells : List News → List Value
  | [] => []
  | (a, b, c) :: r => .int .i64 a :: .int .i64 b :: .int .i64 c :: newsCells r

/-- A beat c of a node. -/
def Wd.take (x : Wd) (c : Int) : Wd × List News × Bool :=
  if c = 0 then (⟨x.node, x.ticks, 0, false, false, 0⟩, [(x.node, 0, 0)], true)
  else if c = 4 ∨ c = 5 ∨ c = 127 then
    (⟨x.node, x.ticks, c, true, false, 0⟩, if x.there = false ∨ x.lost = true then [(x.node, 1, c)] else if x.state ≠ c then [(x.node, 2, c)] else [], true)
  else (x, [], false)

def TakePost (b k p : Nat) (l : List (Nat × Wd)) (x : Wd) (c : Int) (w : World) (e : Ending) (w' : World) : Prop :=
  ∃ v, e = .returned (.tuple #[v, .bool (x.take c).2.2]) ∧ w'.ownsRow w.heap.size 48 3 v (x.take c).2.1.length (newsCells (x.take c).2.1) ∧
    WAt w' b (l.set k (p, (x.take c).1)) ∧ Frm (One p) w w'

def NoPost (w : World) (e : Ending) (w' : World) : Prop := e = .returned (.tuple #[.slice none 0 0, .bool false]) ∧ Frm (fun _ => False) w w'

set_option maxHeartbeats 400000 in
theorem take_miss (b : Nat) (l : List (Nat × Wd)) (n : Int) (v : Value) (w : World) (h : WAt w b l) (hno : ∀ j, j < l.length → (nodes l).getD j 0 ≠ n) :
    Calls Try.prog 20 #[ptr b, .int .i64 n, v] w (NoPost w) := by
  have H := Lib.hid (of_miss b l n w h hno)
  clear hno h
  unfold ptr at *
  go_enter Try.func20, Try.ntmps20
  go_wp2_with (go_at_call 61; refine H.out.mono ?_; rintro e w' ⟨rfl, m, rfl⟩)
  go_ret2
  exact ⟨rfl, by (repeat' (first | (with_reducible exact Frm.refl _ _) | (with_reducible assumption) | (with_reducible refine Frm.alloc ?_ _) | (with_reducible refine Frm.drew ?_) | (with_reducible refine Frm.drewN ?_ _) | (with_reducible refine Frm.set1 ?_ _) | (with_reducible refine Frm.setCell ?_ ?_ _) | (intro hlt; simp [World.size_alloc, One] at hlt ⊢; omega)))⟩

set_option maxHeartbeats 400000 in
theorem take_long (b : Nat) (l : List (Nat × Wd)) (n : Int) (A : Option Addr) (q cap : Nat) (w : World) (h : WAt w b l) (k : Nat) (hk : k < l.length) (hn : l[k].2.node = n)
    (hno : ∀ j, j < k → (nodes l).getD j 0 ≠ n) (hq : q ≠ 1) :
    Calls Try.prog 20 #[ptr b, .int .i64 n, .slice A q cap] w (NoPost w) := by
  have H := Lib.hid (of_hit b l n w h k hk hn hno)
  obtain ⟨p, hp⟩ : ∃ p, p = l[k].1 := ⟨_, rfl⟩
  rw [← hp] at H
  have hq' : ((q : Int) == 1) = false := by simp; omega
  have hq2 : ((q : Int) != 1) = true := by simp; omega
  clear hno h hp hn hq
  unfold ptr at *
  go_enter Try.func20, Try.ntmps20
  go_wp2_with (go_at_call 61; refine H.out.mono ?_; rintro e w' ⟨rfl, m, rfl⟩)
  go_ret2
  exact ⟨rfl, by (repeat' (first | (with_reducible exact Frm.refl _ _) | (with_reducible assumption) | (with_reducible refine Frm.alloc ?_ _) | (with_reducible refine Frm.drew ?_) | (with_reducible refine Frm.drewN ?_ _) | (with_reducible refine Frm.set1 ?_ _) | (with_reducible refine Frm.setCell ?_ ?_ _) | (intro hlt; simp [World.size_alloc, One] at hlt ⊢; omega)))⟩


theorem newsCells_one (a b c : Int) : newsCells [(a, b, c)] = [.int .i64 a, .int .i64 b, .int .i64 c] := rfl

set_option maxHeartbeats 1000000 in
theorem take_hit0 (b : Nat) (l : List (Nat × Wd)) (n : Int) (q o cap : Nat) (w : World) (h : WAt w b l) (k : Nat) (hk : k < l.length) (hn : l[k].2.node = n)
    (hno : ∀ j, j < k → (nodes l).getD j 0 ≠ n) (hc : w.cell? ⟨q, o, none⟩ = some (.int .u8 0)) :
    Calls Try.prog 20 #[ptr b, .int .i64 n, .slice (some ⟨q, o, none⟩) 1 cap] w (TakePost b k l[k].1 l l[k].2 0 w) := by
  have H := Lib.hid (of_hit b l n w h k hk hn hno)
  have hx := h.el k hk
  obtain ⟨v0, hO, _⟩ := h.row
  have hpb : l[k].1 ≠ b := fun e => by rw [e, hO] at hx; simp at hx
  have hpl := lt_of_block hx
  have hql := World.block_lt_of_cell? w _ hc
  simp only at hql
  obtain ⟨p, hp⟩ : ∃ p, p = l[k].1 := ⟨_, rfl⟩
  obtain ⟨x, hxe⟩ : ∃ x, x = l[k].2 := ⟨_, rfl⟩
  have HU : ∀ (w' : World) (x' : Wd), Frm (One p) w w' → w'.heap[p]? = some (.cells x'.cells 135 (0, 0)) → WAt w' b (l.set k (p, x')) := fun w' x' hf hh => by
    rw [hp] at hf hh ⊢; exact h.upd hk x' hf hh
  rw [← hp] at H hx hpb hpl ⊢
  rw [← hxe] at hx hn ⊢
  obtain ⟨xn, xt, xs, xth, xl, xsi⟩ := x
  have c0 : w.cell? ⟨p, 0, none⟩ = some (.int .i64 xn) := cell_at hx
  have c1 : w.cell? ⟨p, 1, none⟩ = some (.int .u64 xt) := cell_at hx
  have c2 : w.cell? ⟨p, 2, none⟩ = some (.int .i64 xs) := cell_at hx
  have c3 : w.cell? ⟨p, 3, none⟩ = some (.bool xth) := cell_at hx
  have c4 : w.cell? ⟨p, 4, none⟩ = some (.bool xl) := cell_at hx
  have c5 : w.cell? ⟨p, 5, none⟩ = some (.int .u64 xsi) := cell_at hx
  have hf := frees hx
  have HU := Lib.hid HU
  have HX := Lib.hid hx
  have HNn := Lib.hid hn
  clear hno h hp hn hxe hO hx hpb
  unfold ptr at *
  go_enter Try.func20, Try.ntmps20
  go_wp2_with (first | (go_at_call 61; refine H.out.mono ?_; rintro e w' ⟨rfl, m, rfl⟩) | go_in)
  go_ret2
  have E : (⟨xn, xt, xs, xth, xl, xsi⟩ : Wd).take 0 = (⟨xn, xt, 0, false, false, 0⟩, [(xn, 0, 0)], true) := by simp [Wd.take]
  unfold TakePost
  rw [E]
  refine ⟨.slice (some ⟨w.heap.size + 1 + 1, 0, none⟩) 1 1, rfl, ?_, HU.out _ _ ?_ ?_, ?_⟩
  · exact row_new (by simp) rfl rfl (by decide) (by simp; omega)
  · (repeat' (first | (with_reducible exact Frm.refl _ _) | (with_reducible assumption) | (with_reducible refine Frm.alloc ?_ _) | (with_reducible refine Frm.drew ?_) | (with_reducible refine Frm.drewN ?_ _) | (with_reducible refine Frm.set1 ?_ _) | (with_reducible refine Frm.setCell ?_ ?_ _) | (intro hlt; simp [World.size_alloc, One] at hlt ⊢; omega)))
  · (apply heap_fin; (case h => (repeat (first | (with_reducible exact HX.out) | (with_reducible apply heap_alloc_old) | (with_reducible apply heap_drewN') | (with_reducible apply heap_drew') | (with_reducible apply heap_set_same) | (with_reducible refine heap_set_other ?_ (by simp only []; omega)) | (with_reducible exact heap_new_at (by simp))))); (case e => rfl))
  · (repeat' (first | (with_reducible exact Frm.refl _ _) | (with_reducible assumption) | (with_reducible refine Frm.alloc ?_ _) | (with_reducible refine Frm.drew ?_) | (with_reducible refine Frm.drewN ?_ _) | (with_reducible refine Frm.set1 ?_ _) | (with_reducible refine Frm.setCell ?_ ?_ _) | (intro hlt; simp [World.size_alloc, One] at hlt ⊢; omega)))

theorem wd_take_on (x : Wd) (c : Int) (h : c = 4 ∨ c = 5 ∨ c = 127) : x.take c =
    (⟨x.node, x.ticks, c, true, false, 0⟩, if x.there = false ∨ x.lost = true then [(x.node, 1, c)] else if x.state ≠ c then [(x.node, 2, c)] else [], true) := by
  unfold Wd.take
  rw [if_neg (by omega), if_pos h]

set_option maxHeartbeats 1000000 in
theorem take_hit4 (b : Nat) (l : List (Nat × Wd)) (n : Int) (q o cap : Nat) (w : World) (h : WAt w b l) (k : Nat) (hk : k < l.length) (hn : l[k].2.node = n)
    (hno : ∀ j, j < k → (nodes l).getD j 0 ≠ n) (hc : w.cell? ⟨q, o, none⟩ = some (.int .u8 4)) :
    Calls Try.prog 20 #[ptr b, .int .i64 n, .slice (some ⟨q, o, none⟩) 1 cap] w (TakePost b k l[k].1 l l[k].2 4 w) := by
  have H := Lib.hid (of_hit b l n w h k hk hn hno)
  have hx := h.el k hk
  obtain ⟨v0, hO, _⟩ := h.row
  have hpb : l[k].1 ≠ b := fun e => by rw [e, hO] at hx; simp at hx
  have hpl := lt_of_block hx
  have hql := World.block_lt_of_cell? w _ hc
  simp only at hql
  obtain ⟨p, hp⟩ : ∃ p, p = l[k].1 := ⟨_, rfl⟩
  obtain ⟨x, hxe⟩ : ∃ x, x = l[k].2 := ⟨_, rfl⟩
  have HU : ∀ (w' : World) (x' : Wd), Frm (One p) w w' → w'.heap[p]? = some (.cells x'.cells 135 (0, 0)) → WAt w' b (l.set k (p, x')) := fun w' x' hf hh => by
    rw [hp] at hf hh ⊢; exact h.upd hk x' hf hh
  rw [← hp] at H hx hpb hpl ⊢
  rw [← hxe] at hx hn ⊢
  obtain ⟨xn, xt, xs, xth, xl, xsi⟩ := x
  have c0 : w.cell? ⟨p, 0, none⟩ = some (.int .i64 xn) := cell_at hx
  have c1 : w.cell? ⟨p, 1, none⟩ = some (.int .u64 xt) := cell_at hx
  have c2 : w.cell? ⟨p, 2, none⟩ = some (.int .i64 xs) := cell_at hx
  have c3 : w.cell? ⟨p, 3, none⟩ = some (.bool xth) := cell_at hx
  have c4 : w.cell? ⟨p, 4, none⟩ = some (.bool xl) := cell_at hx
  have c5 : w.cell? ⟨p, 5, none⟩ = some (.int .u64 xsi) := cell_at hx
  have hf := frees hx
  have HU := Lib.hid HU
  have HX := Lib.hid hx
  have HNn := Lib.hid hn
  clear hno h hp hn hxe hO hx hpb
  unfold ptr at *
  by_cases e1 : xth = false ∨ xl = true
  · have HE : Hid ((⟨xn, xt, xs, xth, xl, xsi⟩ : Wd).take 4 = (⟨xn, xt, 4, true, false, 0⟩, [(xn, 1, 4)], true)) := by unfold Hid; rw [wd_take_on _ 4 (by decide), if_pos e1]
    by_cases e2 : xth = false
    · subst e2
      clear e1
      go_enter Try.func20, Try.ntmps20
      go_wp2_with (first | (go_at_call 61; refine H.out.mono ?_; rintro e w' ⟨rfl, m, rfl⟩) | go_in)
      go_ret2
      unfold TakePost
      rw [HE.out]
      refine ⟨.slice (some ⟨w.heap.size + 1 + 1, 0, none⟩) 1 1, rfl, ?_, HU.out _ _ ?_ ?_, ?_⟩
      · exact row_new (by simp) rfl rfl (by decide) (by simp; omega)
      · (repeat' (first | (with_reducible exact Frm.refl _ _) | (with_reducible assumption) | (with_reducible refine Frm.alloc ?_ _) | (with_reducible refine Frm.drew ?_) | (with_reducible refine Frm.drewN ?_ _) | (with_reducible refine Frm.set1 ?_ _) | (with_reducible refine Frm.setCell ?_ ?_ _) | (intro hlt; simp [World.size_alloc, One] at hlt ⊢; omega)))
      · (apply heap_fin; (case h => (repeat (first | (with_reducible exact HX.out) | (with_reducible apply heap_alloc_old) | (with_reducible apply heap_drewN') | (with_reducible apply heap_drew') | (with_reducible apply heap_set_same) | (with_reducible refine heap_set_other ?_ (by simp only []; omega)) | (with_reducible exact heap_new_at (by simp))))); (case e => rfl))
      · (repeat' (first | (with_reducible exact Frm.refl _ _) | (with_reducible assumption) | (with_reducible refine Frm.alloc ?_ _) | (with_reducible refine Frm.drew ?_) | (with_reducible refine Frm.drewN ?_ _) | (with_reducible refine Frm.set1 ?_ _) | (with_reducible refine Frm.setCell ?_ ?_ _) | (intro hlt; simp [World.size_alloc, One] at hlt ⊢; omega)))
    · obtain rfl : xth = true := by simpa using e2
      obtain rfl : xl = true := by simpa using e1
      clear e1 e2
      go_enter Try.func20, Try.ntmps20
      go_wp2_with (first | (go_at_call 61; refine H.out.mono ?_; rintro e w' ⟨rfl, m, rfl⟩) | go_in)
      go_ret2
      unfold TakePost
      rw [HE.out]
      refine ⟨.slice (some ⟨w.heap.size + 1 + 1, 0, none⟩) 1 1, rfl, ?_, HU.out _ _ ?_ ?_, ?_⟩
      · exact row_new (by simp) rfl rfl (by decide) (by simp; omega)
      · (repeat' (first | (with_reducible exact Frm.refl _ _) | (with_reducible assumption) | (with_reducible refine Frm.alloc ?_ _) | (with_reducible refine Frm.drew ?_) | (with_reducible refine Frm.drewN ?_ _) | (with_reducible refine Frm.set1 ?_ _) | (with_reducible refine Frm.setCell ?_ ?_ _) | (intro hlt; simp [World.size_alloc, One] at hlt ⊢; omega)))
      · (apply heap_fin; (case h => (repeat (first | (with_reducible exact HX.out) | (with_reducible apply heap_alloc_old) | (with_reducible apply heap_drewN') | (with_reducible apply heap_drew') | (with_reducible apply heap_set_same) | (with_reducible refine heap_set_other ?_ (by simp only []; omega)) | (with_reducible exact heap_new_at (by simp))))); (case e => rfl))
      · (repeat' (first | (with_reducible exact Frm.refl _ _) | (with_reducible assumption) | (with_reducible refine Frm.alloc ?_ _) | (with_reducible refine Frm.drew ?_) | (with_reducible refine Frm.drewN ?_ _) | (with_reducible refine Frm.set1 ?_ _) | (with_reducible refine Frm.setCell ?_ ?_ _) | (intro hlt; simp [World.size_alloc, One] at hlt ⊢; omega)))
  · obtain ⟨rfl, rfl⟩ : xth = true ∧ xl = false := by simpa using e1
    clear e1
    by_cases e2 : xs = 4
    · have HE : Hid ((⟨xn, xt, xs, true, false, xsi⟩ : Wd).take 4 = (⟨xn, xt, 4, true, false, 0⟩, [], true)) := by unfold Hid; rw [wd_take_on _ 4 (by decide)]; simp [e2]
      have e3 : (xs != 4) = false := by simp [e2]
      clear e2
      go_enter Try.func20, Try.ntmps20
      go_wp2_with (first | (go_at_call 61; refine H.out.mono ?_; rintro e w' ⟨rfl, m, rfl⟩) | go_in)
      go_ret2
      unfold TakePost
      rw [HE.out]
      refine ⟨.slice none 0 0, rfl, World.ownsRow_nil _ _ _ _, HU.out _ _ ?_ ?_, ?_⟩
      · (repeat' (first | (with_reducible exact Frm.refl _ _) | (with_reducible assumption) | (with_reducible refine Frm.alloc ?_ _) | (with_reducible refine Frm.drew ?_) | (with_reducible refine Frm.drewN ?_ _) | (with_reducible refine Frm.set1 ?_ _) | (with_reducible refine Frm.setCell ?_ ?_ _) | (intro hlt; simp [World.size_alloc, One] at hlt ⊢; omega)))
      · (apply heap_fin; (case h => (repeat (first | (with_reducible exact HX.out) | (with_reducible apply heap_alloc_old) | (with_reducible apply heap_drewN') | (with_reducible apply heap_drew') | (with_reducible apply heap_set_same) | (with_reducible refine heap_set_other ?_ (by simp only []; omega)) | (with_reducible exact heap_new_at (by simp))))); (case e => rfl))
      · (repeat' (first | (with_reducible exact Frm.refl _ _) | (with_reducible assumption) | (with_reducible refine Frm.alloc ?_ _) | (with_reducible refine Frm.drew ?_) | (with_reducible refine Frm.drewN ?_ _) | (with_reducible refine Frm.set1 ?_ _) | (with_reducible refine Frm.setCell ?_ ?_ _) | (intro hlt; simp [World.size_alloc, One] at hlt ⊢; omega)))
    · have HE : Hid ((⟨xn, xt, xs, true, false, xsi⟩ : Wd).take 4 = (⟨xn, xt, 4, true, false, 0⟩, [(xn, 2, 4)], true)) := by unfold Hid; rw [wd_take_on _ 4 (by decide)]; simp [e2]
      have e3 : (xs != 4) = true := by simp [e2]
      clear e2
      go_enter Try.func20, Try.ntmps20
      go_wp2_with (first | (go_at_call 61; refine H.out.mono ?_; rintro e w' ⟨rfl, m, rfl⟩) | go_in)
      go_ret2
      unfold TakePost
      rw [HE.out]
      refine ⟨.slice (some ⟨w.heap.size + 1 + 1, 0, none⟩) 1 1, rfl, ?_, HU.out _ _ ?_ ?_, ?_⟩
      · exact row_new (by simp) rfl rfl (by decide) (by simp; omega)
      · (repeat' (first | (with_reducible exact Frm.refl _ _) | (with_reducible assumption) | (with_reducible refine Frm.alloc ?_ _) | (with_reducible refine Frm.drew ?_) | (with_reducible refine Frm.drewN ?_ _) | (with_reducible refine Frm.set1 ?_ _) | (with_reducible refine Frm.setCell ?_ ?_ _) | (intro hlt; simp [World.size_alloc, One] at hlt ⊢; omega)))
      · (apply heap_fin; (case h => (repeat (first | (with_reducible exact HX.out) | (with_reducible apply heap_alloc_old) | (with_reducible apply heap_drewN') | (with_reducible apply heap_drew') | (with_reducible apply heap_set_same) | (with_reducible refine heap_set_other ?_ (by simp only []; omega)) | (with_reducible exact heap_new_at (by simp))))); (case e => rfl))
      · (repeat' (first | (with_reducible exact Frm.refl _ _) | (with_reducible assumption) | (with_reducible refine Frm.alloc ?_ _) | (with_reducible refine Frm.drew ?_) | (with_reducible refine Frm.drewN ?_ _) | (with_reducible refine Frm.set1 ?_ _) | (with_reducible refine Frm.setCell ?_ ?_ _) | (intro hlt; simp [World.size_alloc, One] at hlt ⊢; omega)))
set_option maxHeartbeats 1000000 in
theorem take_hit5 (b : Nat) (l : List (Nat × Wd)) (n : Int) (q o cap : Nat) (w : World) (h : WAt w b l) (k : Nat) (hk : k < l.length) (hn : l[k].2.node = n)
    (hno : ∀ j, j < k → (nodes l).getD j 0 ≠ n) (hc : w.cell? ⟨q, o, none⟩ = some (.int .u8 5)) :
    Calls Try.prog 20 #[ptr b, .int .i64 n, .slice (some ⟨q, o, none⟩) 1 cap] w (TakePost b k l[k].1 l l[k].2 5 w) := by
  have H := Lib.hid (of_hit b l n w h k hk hn hno)
  have hx := h.el k hk
  obtain ⟨v0, hO, _⟩ := h.row
  have hpb : l[k].1 ≠ b := fun e => by rw [e, hO] at hx; simp at hx
  have hpl := lt_of_block hx
  have hql := World.block_lt_of_cell? w _ hc
  simp only at hql
  obtain ⟨p, hp⟩ : ∃ p, p = l[k].1 := ⟨_, rfl⟩
  obtain ⟨x, hxe⟩ : ∃ x, x = l[k].2 := ⟨_, rfl⟩
  have HU : ∀ (w' : World) (x' : Wd), Frm (One p) w w' → w'.heap[p]? = some (.cells x'.cells 135 (0, 0)) → WAt w' b (l.set k (p, x')) := fun w' x' hf hh => by
    rw [hp] at hf hh ⊢; exact h.upd hk x' hf hh
  rw [← hp] at H hx hpb hpl ⊢
  rw [← hxe] at hx hn ⊢
  obtain ⟨xn, xt, xs, xth, xl, xsi⟩ := x
  have c0 : w.cell? ⟨p, 0, none⟩ = some (.int .i64 xn) := cell_at hx
  have c1 : w.cell? ⟨p, 1, none⟩ = some (.int .u64 xt) := cell_at hx
  have c2 : w.cell? ⟨p, 2, none⟩ = some (.int .i64 xs) := cell_at hx
  have c3 : w.cell? ⟨p, 3, none⟩ = some (.bool xth) := cell_at hx
  have c4 : w.cell? ⟨p, 4, none⟩ = some (.bool xl) := cell_at hx
  have c5 : w.cell? ⟨p, 5, none⟩ = some (.int .u64 xsi) := cell_at hx
  have hf := frees hx
  have HU := Lib.hid HU
  have HX := Lib.hid hx
  have HNn := Lib.hid hn
  clear hno h hp hn hxe hO hx hpb
  unfold ptr at *
  by_cases e1 : xth = false ∨ xl = true
  · have HE : Hid ((⟨xn, xt, xs, xth, xl, xsi⟩ : Wd).take 5 = (⟨xn, xt, 5, true, false, 0⟩, [(xn, 1, 5)], true)) := by unfold Hid; rw [wd_take_on _ 5 (by decide), if_pos e1]
    by_cases e2 : xth = false
    · subst e2
      clear e1
      go_enter Try.func20, Try.ntmps20
      go_wp2_with (first | (go_at_call 61; refine H.out.mono ?_; rintro e w' ⟨rfl, m, rfl⟩) | go_in)
      go_ret2
      unfold TakePost
      rw [HE.out]
      refine ⟨.slice (some ⟨w.heap.size + 1 + 1, 0, none⟩) 1 1, rfl, ?_, HU.out _ _ ?_ ?_, ?_⟩
      · exact row_new (by simp) rfl rfl (by decide) (by simp; omega)
      · (repeat' (first | (with_reducible exact Frm.refl _ _) | (with_reducible assumption) | (with_reducible refine Frm.alloc ?_ _) | (with_reducible refine Frm.drew ?_) | (with_reducible refine Frm.drewN ?_ _) | (with_reducible refine Frm.set1 ?_ _) | (with_reducible refine Frm.setCell ?_ ?_ _) | (intro hlt; simp [World.size_alloc, One] at hlt ⊢; omega)))
      · (apply heap_fin; (case h => (repeat (first | (with_reducible exact HX.out) | (with_reducible apply heap_alloc_old) | (with_reducible apply heap_drewN') | (with_reducible apply heap_drew') | (with_reducible apply heap_set_same) | (with_reducible refine heap_set_other ?_ (by simp only []; omega)) | (with_reducible exact heap_new_at (by simp))))); (case e => rfl))
      · (repeat' (first | (with_reducible exact Frm.refl _ _) | (with_reducible assumption) | (with_reducible refine Frm.alloc ?_ _) | (with_reducible refine Frm.drew ?_) | (with_reducible refine Frm.drewN ?_ _) | (with_reducible refine Frm.set1 ?_ _) | (with_reducible refine Frm.setCell ?_ ?_ _) | (intro hlt; simp [World.size_alloc, One] at hlt ⊢; omega)))
    · obtain rfl : xth = true := by simpa using e2
      obtain rfl : xl = true := by simpa using e1
      clear e1 e2
      go_enter Try.func20, Try.ntmps20
      go_wp2_with (first | (go_at_call 61; refine H.out.mono ?_; rintro e w' ⟨rfl, m, rfl⟩) | go_in)
      go_ret2
      unfold TakePost
      rw [HE.out]
      refine ⟨.slice (some ⟨w.heap.size + 1 + 1, 0, none⟩) 1 1, rfl, ?_, HU.out _ _ ?_ ?_, ?_⟩
      · exact row_new (by simp) rfl rfl (by decide) (by simp; omega)
      · (repeat' (first | (with_reducible exact Frm.refl _ _) | (with_reducible assumption) | (with_reducible refine Frm.alloc ?_ _) | (with_reducible refine Frm.drew ?_) | (with_reducible refine Frm.drewN ?_ _) | (with_reducible refine Frm.set1 ?_ _) | (with_reducible refine Frm.setCell ?_ ?_ _) | (intro hlt; simp [World.size_alloc, One] at hlt ⊢; omega)))
      · (apply heap_fin; (case h => (repeat (first | (with_reducible exact HX.out) | (with_reducible apply heap_alloc_old) | (with_reducible apply heap_drewN') | (with_reducible apply heap_drew') | (with_reducible apply heap_set_same) | (with_reducible refine heap_set_other ?_ (by simp only []; omega)) | (with_reducible exact heap_new_at (by simp))))); (case e => rfl))
      · (repeat' (first | (with_reducible exact Frm.refl _ _) | (with_reducible assumption) | (with_reducible refine Frm.alloc ?_ _) | (with_reducible refine Frm.drew ?_) | (with_reducible refine Frm.drewN ?_ _) | (with_reducible refine Frm.set1 ?_ _) | (with_reducible refine Frm.setCell ?_ ?_ _) | (intro hlt; simp [World.size_alloc, One] at hlt ⊢; omega)))
  · obtain ⟨rfl, rfl⟩ : xth = true ∧ xl = false := by simpa using e1
    clear e1
    by_cases e2 : xs = 5
    · have HE : Hid ((⟨xn, xt, xs, true, false, xsi⟩ : Wd).take 5 = (⟨xn, xt, 5, true, false, 0⟩, [], true)) := by unfold Hid; rw [wd_take_on _ 5 (by decide)]; simp [e2]
      have e3 : (xs != 5) = false := by simp [e2]
      clear e2
      go_enter Try.func20, Try.ntmps20
      go_wp2_with (first | (go_at_call 61; refine H.out.mono ?_; rintro e w' ⟨rfl, m, rfl⟩) | go_in)
      go_ret2
      unfold TakePost
      rw [HE.out]
      refine ⟨.slice none 0 0, rfl, World.ownsRow_nil _ _ _ _, HU.out _ _ ?_ ?_, ?_⟩
      · (repeat' (first | (with_reducible exact Frm.refl _ _) | (with_reducible assumption) | (with_reducible refine Frm.alloc ?_ _) | (with_reducible refine Frm.drew ?_) | (with_reducible refine Frm.drewN ?_ _) | (with_reducible refine Frm.set1 ?_ _) | (with_reducible refine Frm.setCell ?_ ?_ _) | (intro hlt; simp [World.size_alloc, One] at hlt ⊢; omega)))
      · (apply heap_fin; (case h => (repeat (first | (with_reducible exact HX.out) | (with_reducible apply heap_alloc_old) | (with_reducible apply heap_drewN') | (with_reducible apply heap_drew') | (with_reducible apply heap_set_same) | (with_reducible refine heap_set_other ?_ (by simp only []; omega)) | (with_reducible exact heap_new_at (by simp))))); (case e => rfl))
      · (repeat' (first | (with_reducible exact Frm.refl _ _) | (with_reducible assumption) | (with_reducible refine Frm.alloc ?_ _) | (with_reducible refine Frm.drew ?_) | (with_reducible refine Frm.drewN ?_ _) | (with_reducible refine Frm.set1 ?_ _) | (with_reducible refine Frm.setCell ?_ ?_ _) | (intro hlt; simp [World.size_alloc, One] at hlt ⊢; omega)))
    · have HE : Hid ((⟨xn, xt, xs, true, false, xsi⟩ : Wd).take 5 = (⟨xn, xt, 5, true, false, 0⟩, [(xn, 2, 5)], true)) := by unfold Hid; rw [wd_take_on _ 5 (by decide)]; simp [e2]
      have e3 : (xs != 5) = true := by simp [e2]
      clear e2
      go_enter Try.func20, Try.ntmps20
      go_wp2_with (first | (go_at_call 61; refine H.out.mono ?_; rintro e w' ⟨rfl, m, rfl⟩) | go_in)
      go_ret2
      unfold TakePost
      rw [HE.out]
      refine ⟨.slice (some ⟨w.heap.size + 1 + 1, 0, none⟩) 1 1, rfl, ?_, HU.out _ _ ?_ ?_, ?_⟩
      · exact row_new (by simp) rfl rfl (by decide) (by simp; omega)
      · (repeat' (first | (with_reducible exact Frm.refl _ _) | (with_reducible assumption) | (with_reducible refine Frm.alloc ?_ _) | (with_reducible refine Frm.drew ?_) | (with_reducible refine Frm.drewN ?_ _) | (with_reducible refine Frm.set1 ?_ _) | (with_reducible refine Frm.setCell ?_ ?_ _) | (intro hlt; simp [World.size_alloc, One] at hlt ⊢; omega)))
      · (apply heap_fin; (case h => (repeat (first | (with_reducible exact HX.out) | (with_reducible apply heap_alloc_old) | (with_reducible apply heap_drewN') | (with_reducible apply heap_drew') | (with_reducible apply heap_set_same) | (with_reducible refine heap_set_other ?_ (by simp only []; omega)) | (with_reducible exact heap_new_at (by simp))))); (case e => rfl))
      · (repeat' (first | (with_reducible exact Frm.refl _ _) | (with_reducible assumption) | (with_reducible refine Frm.alloc ?_ _) | (with_reducible refine Frm.drew ?_) | (with_reducible refine Frm.drewN ?_ _) | (with_reducible refine Frm.set1 ?_ _) | (with_reducible refine Frm.setCell ?_ ?_ _) | (intro hlt; simp [World.size_alloc, One] at hlt ⊢; omega)))
set_option maxHeartbeats 1000000 in
theorem take_hit127 (b : Nat) (l : List (Nat × Wd)) (n : Int) (q o cap : Nat) (w : World) (h : WAt w b l) (k : Nat) (hk : k < l.length) (hn : l[k].2.node = n)
    (hno : ∀ j, j < k → (nodes l).getD j 0 ≠ n) (hc : w.cell? ⟨q, o, none⟩ = some (.int .u8 127)) :
    Calls Try.prog 20 #[ptr b, .int .i64 n, .slice (some ⟨q, o, none⟩) 1 cap] w (TakePost b k l[k].1 l l[k].2 127 w) := by
  have H := Lib.hid (of_hit b l n w h k hk hn hno)
  have hx := h.el k hk
  obtain ⟨v0, hO, _⟩ := h.row
  have hpb : l[k].1 ≠ b := fun e => by rw [e, hO] at hx; simp at hx
  have hpl := lt_of_block hx
  have hql := World.block_lt_of_cell? w _ hc
  simp only at hql
  obtain ⟨p, hp⟩ : ∃ p, p = l[k].1 := ⟨_, rfl⟩
  obtain ⟨x, hxe⟩ : ∃ x, x = l[k].2 := ⟨_, rfl⟩
  have HU : ∀ (w' : World) (x' : Wd), Frm (One p) w w' → w'.heap[p]? = some (.cells x'.cells 135 (0, 0)) → WAt w' b (l.set k (p, x')) := fun w' x' hf hh => by
    rw [hp] at hf hh ⊢; exact h.upd hk x' hf hh
  rw [← hp] at H hx hpb hpl ⊢
  rw [← hxe] at hx hn ⊢
  obtain ⟨xn, xt, xs, xth, xl, xsi⟩ := x
  have c0 : w.cell? ⟨p, 0, none⟩ = some (.int .i64 xn) := cell_at hx
  have c1 : w.cell? ⟨p, 1, none⟩ = some (.int .u64 xt) := cell_at hx
  have c2 : w.cell? ⟨p, 2, none⟩ = some (.int .i64 xs) := cell_at hx
  have c3 : w.cell? ⟨p, 3, none⟩ = some (.bool xth) := cell_at hx
  have c4 : w.cell? ⟨p, 4, none⟩ = some (.bool xl) := cell_at hx
  have c5 : w.cell? ⟨p, 5, none⟩ = some (.int .u64 xsi) := cell_at hx
  have hf := frees hx
  have HU := Lib.hid HU
  have HX := Lib.hid hx
  have HNn := Lib.hid hn
  clear hno h hp hn hxe hO hx hpb
  unfold ptr at *
  by_cases e1 : xth = false ∨ xl = true
  · have HE : Hid ((⟨xn, xt, xs, xth, xl, xsi⟩ : Wd).take 127 = (⟨xn, xt, 127, true, false, 0⟩, [(xn, 1, 127)], true)) := by unfold Hid; rw [wd_take_on _ 127 (by decide), if_pos e1]
    by_cases e2 : xth = false
    · subst e2
      clear e1
      go_enter Try.func20, Try.ntmps20
      go_wp2_with (first | (go_at_call 61; refine H.out.mono ?_; rintro e w' ⟨rfl, m, rfl⟩) | go_in)
      go_ret2
      unfold TakePost
      rw [HE.out]
      refine ⟨.slice (some ⟨w.heap.size + 1 + 1, 0, none⟩) 1 1, rfl, ?_, HU.out _ _ ?_ ?_, ?_⟩
      · exact row_new (by simp) rfl rfl (by decide) (by simp; omega)
      · (repeat' (first | (with_reducible exact Frm.refl _ _) | (with_reducible assumption) | (with_reducible refine Frm.alloc ?_ _) | (with_reducible refine Frm.drew ?_) | (with_reducible refine Frm.drewN ?_ _) | (with_reducible refine Frm.set1 ?_ _) | (with_reducible refine Frm.setCell ?_ ?_ _) | (intro hlt; simp [World.size_alloc, One] at hlt ⊢; omega)))
      · (apply heap_fin; (case h => (repeat (first | (with_reducible exact HX.out) | (with_reducible apply heap_alloc_old) | (with_reducible apply heap_drewN') | (with_reducible apply heap_drew') | (with_reducible apply heap_set_same) | (with_reducible refine heap_set_other ?_ (by simp only []; omega)) | (with_reducible exact heap_new_at (by simp))))); (case e => rfl))
      · (repeat' (first | (with_reducible exact Frm.refl _ _) | (with_reducible assumption) | (with_reducible refine Frm.alloc ?_ _) | (with_reducible refine Frm.drew ?_) | (with_reducible refine Frm.drewN ?_ _) | (with_reducible refine Frm.set1 ?_ _) | (with_reducible refine Frm.setCell ?_ ?_ _) | (intro hlt; simp [World.size_alloc, One] at hlt ⊢; omega)))
    · obtain rfl : xth = true := by simpa using e2
      obtain rfl : xl = true := by simpa using e1
      clear e1 e2
      go_enter Try.func20, Try.ntmps20
      go_wp2_with (first | (go_at_call 61; refine H.out.mono ?_; rintro e w' ⟨rfl, m, rfl⟩) | go_in)
      go_ret2
      unfold TakePost
      rw [HE.out]
      refine ⟨.slice (some ⟨w.heap.size + 1 + 1, 0, none⟩) 1 1, rfl, ?_, HU.out _ _ ?_ ?_, ?_⟩
      · exact row_new (by simp) rfl rfl (by decide) (by simp; omega)
      · (repeat' (first | (with_reducible exact Frm.refl _ _) | (with_reducible assumption) | (with_reducible refine Frm.alloc ?_ _) | (with_reducible refine Frm.drew ?_) | (with_reducible refine Frm.drewN ?_ _) | (with_reducible refine Frm.set1 ?_ _) | (with_reducible refine Frm.setCell ?_ ?_ _) | (intro hlt; simp [World.size_alloc, One] at hlt ⊢; omega)))
      · (apply heap_fin; (case h => (repeat (first | (with_reducible exact HX.out) | (with_reducible apply heap_alloc_old) | (with_reducible apply heap_drewN') | (with_reducible apply heap_drew') | (with_reducible apply heap_set_same) | (with_reducible refine heap_set_other ?_ (by simp only []; omega)) | (with_reducible exact heap_new_at (by simp))))); (case e => rfl))
      · (repeat' (first | (with_reducible exact Frm.refl _ _) | (with_reducible assumption) | (with_reducible refine Frm.alloc ?_ _) | (with_reducible refine Frm.drew ?_) | (with_reducible refine Frm.drewN ?_ _) | (with_reducible refine Frm.set1 ?_ _) | (with_reducible refine Frm.setCell ?_ ?_ _) | (intro hlt; simp [World.size_alloc, One] at hlt ⊢; omega)))
  · obtain ⟨rfl, rfl⟩ : xth = true ∧ xl = false := by simpa using e1
    clear e1
    by_cases e2 : xs = 127
    · have HE : Hid ((⟨xn, xt, xs, true, false, xsi⟩ : Wd).take 127 = (⟨xn, xt, 127, true, false, 0⟩, [], true)) := by unfold Hid; rw [wd_take_on _ 127 (by decide)]; simp [e2]
      have e3 : (xs != 127) = false := by simp [e2]
      clear e2
      go_enter Try.func20, Try.ntmps20
      go_wp2_with (first | (go_at_call 61; refine H.out.mono ?_; rintro e w' ⟨rfl, m, rfl⟩) | go_in)
      go_ret2
      unfold TakePost
      rw [HE.out]
      refine ⟨.slice none 0 0, rfl, World.ownsRow_nil _ _ _ _, HU.out _ _ ?_ ?_, ?_⟩
      · (repeat' (first | (with_reducible exact Frm.refl _ _) | (with_reducible assumption) | (with_reducible refine Frm.alloc ?_ _) | (with_reducible refine Frm.drew ?_) | (with_reducible refine Frm.drewN ?_ _) | (with_reducible refine Frm.set1 ?_ _) | (with_reducible refine Frm.setCell ?_ ?_ _) | (intro hlt; simp [World.size_alloc, One] at hlt ⊢; omega)))
      · (apply heap_fin; (case h => (repeat (first | (with_reducible exact HX.out) | (with_reducible apply heap_alloc_old) | (with_reducible apply heap_drewN') | (with_reducible apply heap_drew') | (with_reducible apply heap_set_same) | (with_reducible refine heap_set_other ?_ (by simp only []; omega)) | (with_reducible exact heap_new_at (by simp))))); (case e => rfl))
      · (repeat' (first | (with_reducible exact Frm.refl _ _) | (with_reducible assumption) | (with_reducible refine Frm.alloc ?_ _) | (with_reducible refine Frm.drew ?_) | (with_reducible refine Frm.drewN ?_ _) | (with_reducible refine Frm.set1 ?_ _) | (with_reducible refine Frm.setCell ?_ ?_ _) | (intro hlt; simp [World.size_alloc, One] at hlt ⊢; omega)))
    · have HE : Hid ((⟨xn, xt, xs, true, false, xsi⟩ : Wd).take 127 = (⟨xn, xt, 127, true, false, 0⟩, [(xn, 2, 127)], true)) := by unfold Hid; rw [wd_take_on _ 127 (by decide)]; simp [e2]
      have e3 : (xs != 127) = true := by simp [e2]
      clear e2
      go_enter Try.func20, Try.ntmps20
      go_wp2_with (first | (go_at_call 61; refine H.out.mono ?_; rintro e w' ⟨rfl, m, rfl⟩) | go_in)
      go_ret2
      unfold TakePost
      rw [HE.out]
      refine ⟨.slice (some ⟨w.heap.size + 1 + 1, 0, none⟩) 1 1, rfl, ?_, HU.out _ _ ?_ ?_, ?_⟩
      · exact row_new (by simp) rfl rfl (by decide) (by simp; omega)
      · (repeat' (first | (with_reducible exact Frm.refl _ _) | (with_reducible assumption) | (with_reducible refine Frm.alloc ?_ _) | (with_reducible refine Frm.drew ?_) | (with_reducible refine Frm.drewN ?_ _) | (with_reducible refine Frm.set1 ?_ _) | (with_reducible refine Frm.setCell ?_ ?_ _) | (intro hlt; simp [World.size_alloc, One] at hlt ⊢; omega)))
      · (apply heap_fin; (case h => (repeat (first | (with_reducible exact HX.out) | (with_reducible apply heap_alloc_old) | (with_reducible apply heap_drewN') | (with_reducible apply heap_drew') | (with_reducible apply heap_set_same) | (with_reducible refine heap_set_other ?_ (by simp only []; omega)) | (with_reducible exact heap_new_at (by simp))))); (case e => rfl))
      · (repeat' (first | (with_reducible exact Frm.refl _ _) | (with_reducible assumption) | (with_reducible refine Frm.alloc ?_ _) | (with_reducible refine Frm.drew ?_) | (with_reducible refine Frm.drewN ?_ _) | (with_reducible refine Frm.set1 ?_ _) | (with_reducible refine Frm.setCell ?_ ?_ _) | (intro hlt; simp [World.size_alloc, One] at hlt ⊢; omega)))

set_option maxHeartbeats 1000000 in
theorem take_other (b : Nat) (l : List (Nat × Wd)) (n : Int) (q o cap : Nat) (c : Int) (w : World) (h : WAt w b l) (k : Nat) (hk : k < l.length) (hn : l[k].2.node = n)
    (hno : ∀ j, j < k → (nodes l).getD j 0 ≠ n) (hc : w.cell? ⟨q, o, none⟩ = some (.int .u8 c)) (h0 : 0 ≤ c) (h255 : c ≤ 255) (hc0 : c ≠ 0) (hc4 : c ≠ 4) (hc5 : c ≠ 5) (hc127 : c ≠ 127) :
    Calls Try.prog 20 #[ptr b, .int .i64 n, .slice (some ⟨q, o, none⟩) 1 cap] w (TakePost b k l[k].1 l l[k].2 c w) := by
  have H := Lib.hid (of_hit b l n w h k hk hn hno)
  have hx := h.el k hk
  obtain ⟨v0, hO, _⟩ := h.row
  have hpb : l[k].1 ≠ b := fun e => by rw [e, hO] at hx; simp at hx
  have hpl := lt_of_block hx
  have hql := World.block_lt_of_cell? w _ hc
  simp only at hql
  obtain ⟨p, hp⟩ : ∃ p, p = l[k].1 := ⟨_, rfl⟩
  obtain ⟨x, hxe⟩ : ∃ x, x = l[k].2 := ⟨_, rfl⟩
  have HU : ∀ (w' : World) (x' : Wd), Frm (One p) w w' → w'.heap[p]? = some (.cells x'.cells 135 (0, 0)) → WAt w' b (l.set k (p, x')) := fun w' x' hf hh => by
    rw [hp] at hf hh ⊢; exact h.upd hk x' hf hh
  rw [← hp] at H hx hpb hpl ⊢
  rw [← hxe] at hx hn ⊢
  obtain ⟨xn, xt, xs, xth, xl, xsi⟩ := x
  have c0 : w.cell? ⟨p, 0, none⟩ = some (.int .i64 xn) := cell_at hx
  have c1 : w.cell? ⟨p, 1, none⟩ = some (.int .u64 xt) := cell_at hx
  have c2 : w.cell? ⟨p, 2, none⟩ = some (.int .i64 xs) := cell_at hx
  have c3 : w.cell? ⟨p, 3, none⟩ = some (.bool xth) := cell_at hx
  have c4 : w.cell? ⟨p, 4, none⟩ = some (.bool xl) := cell_at hx
  have c5 : w.cell? ⟨p, 5, none⟩ = some (.int .u64 xsi) := cell_at hx
  have hf := frees hx
  have HU := Lib.hid HU
  have HX := Lib.hid hx
  have HNn := Lib.hid hn
  clear hno h hp hn hxe hO hx hpb
  have HE : Hid ((⟨xn, xt, xs, xth, xl, xsi⟩ : Wd).take c = (⟨xn, xt, xs, xth, xl, xsi⟩, [], false)) := by unfold Hid Wd.take; rw [if_neg hc0, if_neg (by omega)]
  have e0 : (c == 0) = false := by simp [hc0]
  have e4 : (c == 4) = false := by simp [hc4]
  have e5 : (c == 5) = false := by simp [hc5]
  have e127 : (c == 127) = false := by simp [hc127]
  clear hc0 hc4 hc5 hc127
  unfold ptr at *
  go_enter Try.func20, Try.ntmps20
  go_wp2_with (first | (go_at_call 61; refine H.out.mono ?_; rintro e w' ⟨rfl, m, rfl⟩) | go_in)
  go_ret2
  unfold TakePost
  rw [HE.out]
  refine ⟨.slice none 0 0, rfl, World.ownsRow_nil _ _ _ _, HU.out _ _ ?_ ?_, ?_⟩
  · (repeat' (first | (with_reducible exact Frm.refl _ _) | (with_reducible assumption) | (with_reducible refine Frm.alloc ?_ _) | (with_reducible refine Frm.drew ?_) | (with_reducible refine Frm.drewN ?_ _) | (with_reducible refine Frm.set1 ?_ _) | (with_reducible refine Frm.setCell ?_ ?_ _) | (intro hlt; simp [World.size_alloc, One] at hlt ⊢; omega)))
  · (apply heap_fin; (case h => (repeat (first | (with_reducible exact HX.out) | (with_reducible apply heap_alloc_old) | (with_reducible apply heap_drewN') | (with_reducible apply heap_drew') | (with_reducible apply heap_set_same) | (with_reducible refine heap_set_other ?_ (by simp only []; omega)) | (with_reducible exact heap_new_at (by simp))))); (case e => rfl))
  · (repeat' (first | (with_reducible exact Frm.refl _ _) | (with_reducible assumption) | (with_reducible refine Frm.alloc ?_ _) | (with_reducible refine Frm.drew ?_) | (with_reducible refine Frm.drewN ?_ _) | (with_reducible refine Frm.set1 ?_ _) | (with_reducible refine Frm.setCell ?_ ?_ _) | (intro hlt; simp [World.size_alloc, One] at hlt ⊢; omega)))
end Go.Proofs.Ytmkkeglcjbogcaa
