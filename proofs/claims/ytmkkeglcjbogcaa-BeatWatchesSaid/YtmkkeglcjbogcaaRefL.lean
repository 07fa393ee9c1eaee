/-
  State; the document's Lost; the law's own 'tells'.
-/
import Derived.Test.YtmkkeglcjbogcaaRefK
import Derived.Test.YtmkkeglcjbogcaaLost
namespace Go.Proofs.Ytmkkeglcjbogcaa
open Go.RowKit
set_option linter.unusedVariables false

def okT (l : List (Nat × Wd)) : Prop := ∀ q ∈ l, q.2.lost = true → q.2.there = true
theorem okT.ticked {l : List (Nat × Wd)} (h : okT l) : okT (ticked l) := fun q hq hl => by
  obtain ⟨p, hp, rfl⟩ := List.mem_map.1 hq
  have := h p hp
  obtain ⟨pp, ⟨xn, xt, xs, xth, xl, xsi⟩⟩ := p
  simp only at this hl ⊢
  unfold Wd.tick at hl ⊢
  simp only at hl ⊢
  cases xth <;> cases xl <;> simp at this hl ⊢
  split <;> rfl
theorem okT.take {l : List (Nat × Wd)} (h : okT l) (n : Int) (bs : List UInt8) : okT (takeOf l n bs).1 := by
  rcases takeOf_cases l n bs with ⟨_, e⟩ | ⟨k, hk, _, e, _⟩
  · rw [e]; exact h
  · rw [e]
    intro q hq hl
    rcases List.mem_or_eq_of_mem_set hq with hq | rfl
    · exact h q hq hl
    · simp only at hl ⊢
      have hx := h _ (List.getElem_mem hk)
      unfold takeWd Wd.take at hl ⊢
      split at hl
      · rename_i h1
        rw [if_pos h1]
        split at hl
        · simp at hl
        · rename_i h2
          rw [if_neg h2]
          split at hl
          · simp at hl
          · rename_i h3
            rw [if_neg h3]
            exact hx hl
      · rename_i h1
        rw [if_neg h1]
        exact hx hl

/-- The document's list of the lost, of the nodes up to k. -/
def rlost (l : List (Nat × Wd)) (k : Nat) : List Int := ((List.range k).map fun (i : Nat) => (i : Int) + 1).filter fun n => l.any fun q => decide (q.2.node = n ∧ (seenOf q.2).1 = 2)
theorem rlost_succ (l : List (Nat × Wd)) (k : Nat) : rlost l (k + 1) = rlost l k ++ if (l.any fun q => decide (q.2.node = (k : Int) + 1 ∧ (seenOf q.2).1 = 2)) = true then [(k : Int) + 1] else [] := by
  unfold rlost
  rw [List.range_succ, List.map_append, List.filter_append]
  simp only [List.map_cons, List.map_nil, List.filter_cons, List.filter_nil]
theorem rlost_length (l : List (Nat × Wd)) (k : Nat) : (rlost l k).length ≤ k := by
  unfold rlost
  exact Nat.le_trans (List.length_filter_le _ _) (by simp)
theorem seen_two (x : Wd) : (seenOf x).1 = 2 ↔ x.there = true ∧ x.lost = true := by
  unfold seenOf
  obtain ⟨xn, xt, xs, xth, xl, xsi⟩ := x
  cases xth <;> cases xl <;> simp

theorem rlost_all {l : List (Nat × Wd)} (hn : (nodes l).Nodup) (hr : ∀ n ∈ nodes l, 1 ≤ n ∧ n ≤ 127) (ht : okT l) : rlost l 127 = sorted (lostOf l) := by
  have hd1 : (rlost l 127).Pairwise (· < ·) := by
    unfold rlost
    exact List.Pairwise.filter _ (List.Pairwise.map _ (fun a b h => by omega) List.pairwise_lt_range)
  have hd2 : (lostOf l).Nodup := by
    have : (lostOf l).Sublist (nodes l) := List.Sublist.map _ List.filter_sublist
    exact hn.sublist this
  refine List.Perm.eq_of_pairwise (le := fun a b : Int => a ≤ b) (fun a b _ _ h1 h2 => Int.le_antisymm h1 h2) (hd1.imp (fun h => Int.le_of_lt h)) ?_ ?_
  · have := List.pairwise_mergeSort (le := fun x y : Int => decide (x ≤ y)) (fun a b c h1 h2 => by simp at *; omega) (fun a b => by simp; omega) (lostOf l)
    exact this.imp (fun h => by simpa using h)
  · refine List.Perm.trans ?_ (List.mergeSort_perm _ _).symm
    rw [List.perm_ext_iff_of_nodup (hd1.imp (fun h => Int.ne_of_lt h)) hd2]
    intro a
    unfold rlost lostOf
    simp only [List.mem_filter, List.mem_map, List.mem_range, List.any_eq_true, decide_eq_true_eq, seen_two]
    constructor
    · rintro ⟨_, q, hq, rfl, _, h2⟩
      exact ⟨q, ⟨hq, h2⟩, rfl⟩
    · rintro ⟨q, ⟨hq, h2⟩, rfl⟩
      have := hr q.2.node (List.mem_map.2 ⟨q, hq, rfl⟩)
      exact ⟨⟨(q.2.node - 1).toNat, by omega, by omega⟩, q, hq, rfl, ht q hq h2, h2⟩

theorem any_hit {l : List (Nat × Wd)} (hnd : (nodes l).Nodup) {k : Nat} (hk : k < l.length) : (l.any fun q => decide (q.2.node = l[k].2.node ∧ (seenOf q.2).1 = 2)) = decide ((seenOf l[k].2).1 = 2) := by
  rw [Bool.eq_iff_iff]
  simp only [List.any_eq_true, decide_eq_true_eq]
  constructor
  · rintro ⟨q, hq, e, h⟩
    obtain ⟨j, hj, rfl⟩ := List.getElem_of_mem hq
    obtain rfl : j = k := nodup_at hnd (by simpa [nodes] using hj) (by simpa [nodes] using hk) (by simpa [nodes] using e)
    exact h
  · exact fun h => ⟨_, List.getElem_mem hk, rfl, h⟩
theorem any_miss {l : List (Nat × Wd)} {n : Int} (h : n ∉ nodes l) : (l.any fun q => decide (q.2.node = n ∧ (seenOf q.2).1 = 2)) = false := by
  rw [List.any_eq_false]
  intro q hq
  simp only [decide_eq_true_eq]
  rintro ⟨e, _⟩
  exact h (List.mem_map.2 ⟨q, hq, e⟩)

set_option maxHeartbeats 1000000 in
theorem state_miss (b : Nat) (l : List (Nat × Wd)) (n : Int) (w : World) (h : WAt w b l) (hin : n ∉ nodes l) :
    Calls Try.prog 77 #[ptr b, .int .i64 n] w fun e w' => e = .returned (.tuple #[.int .i64 0, .bool false]) ∧ Frm (fun _ => False) w w' := by
  have H := Lib.hid (of_miss b l n w h (nodes_out hin))
  unfold ptr at *
  clear h hin
  go_enter Try.func77, Try.ntmps77
  go_wp2_with (go_at_call 61; refine H.out.mono ?_; rintro e w' ⟨rfl, m, rfl⟩)
  go_ret2
  exact ⟨rfl, by (repeat' (first | (with_reducible exact Frm.refl _ _) | (with_reducible assumption) | (with_reducible refine Frm.alloc ?_ _) | (with_reducible refine Frm.drew ?_) | (with_reducible refine Frm.drewN ?_ _) | (with_reducible refine Frm.set1 ?_ _) | (with_reducible refine Frm.setCell ?_ ?_ _) | (intro hlt; simp [World.size_alloc, One] at hlt ⊢; omega)))⟩

set_option maxHeartbeats 1000000 in
theorem state_hit (b : Nat) (l : List (Nat × Wd)) (n : Int) (w : World) (h : WAt w b l) (k : Nat) (hk : k < l.length) (hn : l[k].2.node = n) (hno : ∀ j, j < k → (nodes l).getD j 0 ≠ n) :
    Calls Try.prog 77 #[ptr b, .int .i64 n] w fun e w' => e = .returned (.tuple (if (seenOf l[k].2).1 = 1 then #[.int .i64 (seenOf l[k].2).2.1, .bool true] else #[.int .i64 0, .bool false])) ∧ Frm (fun _ => False) w w' := by
  have H := Lib.hid (of_hit b l n w h k hk hn hno)
  have hx := h.el k hk
  generalize l[k] = q at *
  obtain ⟨p, xn, xt, xs, xth, xl, xsi⟩ := q
  have d1 : w.cell? ⟨p, 2, none⟩ = some (.int .i64 xs) := cell_at hx
  have d2 : w.cell? ⟨p, 3, none⟩ = some (.bool xth) := cell_at hx
  have d3 : w.cell? ⟨p, 4, none⟩ = some (.bool xl) := cell_at hx
  have hlp := lt_of_block hx
  unfold ptr at *
  clear h hno hx hn
  have HE : (if (seenOf (⟨xn, xt, xs, xth, xl, xsi⟩ : Wd)).1 = 1 then #[Value.int .i64 (seenOf (⟨xn, xt, xs, xth, xl, xsi⟩ : Wd)).2.1, .bool true] else #[.int .i64 0, .bool false]) = (match xth, xl with | true, false => #[Value.int .i64 xs, .bool true] | _, _ => #[.int .i64 0, .bool false]) := by
    cases xth <;> cases xl <;> simp [seenOf]
  rw [HE]
  clear HE
  cases xth <;> cases xl
  all_goals
    go_enter Try.func77, Try.ntmps77
    go_wp2_with (go_at_call 61; refine H.out.mono ?_; rintro e w' ⟨rfl, m, rfl⟩)
    go_ret2
    exact ⟨rfl, by (repeat' (first | (with_reducible exact Frm.refl _ _) | (with_reducible assumption) | (with_reducible refine Frm.alloc ?_ _) | (with_reducible refine Frm.drew ?_) | (with_reducible refine Frm.drewN ?_ _) | (with_reducible refine Frm.set1 ?_ _) | (with_reducible refine Frm.setCell ?_ ?_ _) | (intro hlt; simp [World.size_alloc, One] at hlt ⊢; omega)))⟩

set_option maxRecDepth 100000 in
set_option maxHeartbeats 1000000 in
theorem rlost_any (N db sb : Nat) (vl : Value) (l : List (Nat × Wd)) (w : World) (h : DAt N w db sb vl (watchesOf l) (seens l)) (hnd : (nodes l).Nodup) :
    Calls Try.prog 78 #[ptr db] w fun e w' => ∃ v, e = .returned v ∧ w'.ownsRow w.heap.size 3 1 v (rlost l 127).length ((rlost l 127).map (.int .i64)) ∧ Frm (fun _ => False) w w' := by
  have HD := Lib.hid h
  have HND := Lib.hid hnd
  have hsl : (seens l).length = l.length := by simp [seens]
  have HSL := Lib.hid hsl
  clear h hnd hsl
  go_enter Try.func78, Try.ntmps78
  go_wp2_with fail
  go_loopw [3, 4, 5] (fun v i _ wr => ∃ k : Nat, k ≤ 127 ∧ i = .int .i64 ((k : Int) + 1) ∧ wr.ownsRow w.heap.size 3 1 v (rlost l k).length ((rlost l k).map (.int .i64)) ∧ Frm (fun _ => False) w wr) (fun _ i _ _ => 128 - (intOf i).toNat)
  case atStart => exact ⟨0, Nat.zero_le _, rfl, by simpa [rlost] using empty_row w 3 1 w.heap.size (Nat.le_refl _), by (repeat' (first | (with_reducible exact Frm.refl _ _) | (with_reducible assumption) | (with_reducible refine Frm.alloc ?_ _) | (with_reducible refine Frm.drew ?_) | (with_reducible refine Frm.drewN ?_ _) | (with_reducible refine Frm.set1 ?_ _) | (with_reducible refine Frm.setCell ?_ ?_ _) | (intro hlt; simp [World.size_alloc, One] at hlt ⊢; omega)))⟩
  case round =>
    obtain ⟨k, hk, rfl, hrow, hF⟩ := hrel
    have hml := rlost_length l k
    have hm5 : (rlost l k).length + 1 ≤ maxLen := by unfold maxLen; omega
    have hm6 : ((rlost l k).length + 1) * 8 ≤ 140737488355328 := by omega
    have hwsz := hF.size
    have HROW := Lib.hid hrow
    have HF := Lib.hid hF
    have hD := HD.out.grow hF
    have HD2 := Lib.hid hD
    clear hrow hF hml
    by_cases hlt : k < 127
    · by_cases hin : ((k : Int) + 1) ∈ nodes l
      · obtain ⟨j, hj, hn, hno⟩ := nodes_in hin
        have hsj : j < (seens l).length := by rw [HSL.out]; exact hj
        have hp : placeOf ((watchesOf l).map (·.1)) ((k : Int) + 1) = (j : Int) := by
          rw [watchesOf_nodes]
          refine placeOf_hit (by simpa [nodes] using hj) ?_ hno
          rw [list_getD _ _ (by simpa [nodes] using hj)]
          simpa [nodes] using hn
        have HA := any_hit HND.out hj
        rw [hn] at HA
        have HR := Lib.hid (rlost_succ l k)
        rw [HA] at HR
        have s0 := (hD.seen j hsj).1
        rw [seens_get l j hj hsj] at s0
        have c1 : wr.cell? ⟨db, 1, none⟩ = some (.slice (some ⟨sb, 0, none⟩) l.length l.length) := by rw [cell_at hD.hd, HSL.out]; rfl
        have H := Lib.hid (find_any N db sb vl (watchesOf l) (seens l) ((k : Int) + 1) wr hD)
        rw [hp] at H
        have j0 : (0 : Int) ≤ (j : Int) := Int.natCast_nonneg _
        have j1 : (j : Int) < (l.length : Int) := by omega
        clear hin hn hno hp HA hD hsj
        generalize (seenOf l[j].2).1 = s at *
        by_cases hs : s = 2
        · have hb : (s == 2) = true := by simpa using hs
          have HR2 : Hid (rlost l (k + 1) = rlost l k ++ [(k : Int) + 1]) := by unfold Hid; rw [HR.out, hs]; rfl
          clear hs HR
          unfold ptr at *
          go_wp2_with (first | (go_at_call 76; refine H.out.mono ?_; rintro e w' ⟨rfl, rfl⟩) | (at_builtin; refine wpl_app rfl el_int _ _ rfl (e2 := 3) (fr := (0, 0)) (arr := #[.int .i64 ((k : Int) + 1)]) rfl rfl (Frm.row (S := fun _ => False) (by (repeat' (first | (with_reducible exact Frm.refl _ _) | (with_reducible assumption) | (with_reducible refine Frm.alloc ?_ _) | (with_reducible refine Frm.drew ?_) | (with_reducible refine Frm.drewN ?_ _) | (with_reducible refine Frm.set1 ?_ _) | (with_reducible refine Frm.setCell ?_ ?_ _) | (intro hlt; simp [World.size_alloc, One] at hlt ⊢; omega)))) HROW.out (fun _ _ h => h)) (heap_new_at (by simp)) rfl (by simp [Value.oneCell']) (by decide) hm5 hm6 (by simp; omega) ?_; intro g5 cap5 w5 hown5 hfr5 hat5 hlt5))
          go_roundw
          case rel =>
            refine ⟨k + 1, by omega, by go_num, ?_, ?_⟩
            · rw [HR2.out, List.map_append, List.length_append]; exact hown5
            · refine Frm.trans (b := _) (HF.out.trans' (by (repeat' (first | (with_reducible exact Frm.refl _ _) | (with_reducible assumption) | (with_reducible refine Frm.alloc ?_ _) | (with_reducible refine Frm.drew ?_) | (with_reducible refine Frm.drewN ?_ _) | (with_reducible refine Frm.set1 ?_ _) | (with_reducible refine Frm.setCell ?_ ?_ _) | (intro hlt; simp [World.size_alloc, One] at hlt ⊢; omega))))) hfr5 (fun j hj h => ?_)
              have := (row_block HROW.out h).1
              omega
          case measure => simp [intOf]; omega
        · have hb : (s == 2) = false := by simpa using hs
          have HR2 : Hid (rlost l (k + 1) = rlost l k) := by unfold Hid; rw [HR.out, decide_eq_false hs]; simp
          clear hs HR
          unfold ptr at *
          go_wp2_with (go_at_call 76; refine H.out.mono ?_; rintro e w' ⟨rfl, rfl⟩)
          go_roundw
          case rel => exact ⟨k + 1, by omega, by go_num, by rw [HR2.out]; exact HROW.out, HF.out⟩
          case measure => simp [intOf]; omega
      · have hp : placeOf ((watchesOf l).map (·.1)) ((k : Int) + 1) = -1 := by
          rw [watchesOf_nodes]
          exact placeOf_miss fun j hj => nodes_out hin j (by simpa [nodes] using hj)
        have HA := any_miss hin
        have HR2 : Hid (rlost l (k + 1) = rlost l k) := by unfold Hid; rw [rlost_succ, HA]; simp
        have H := Lib.hid (find_any N db sb vl (watchesOf l) (seens l) ((k : Int) + 1) wr hD)
        rw [hp] at H
        clear hin hp HA hD
        unfold ptr at *
        go_wp2_with (go_at_call 76; refine H.out.mono ?_; rintro e w' ⟨rfl, rfl⟩)
        go_roundw
        case rel => exact ⟨k + 1, by omega, by go_num, by rw [HR2.out]; exact HROW.out, HF.out⟩
        case measure => simp [intOf]; omega
    · obtain rfl : k = 127 := by omega
      clear hD
      go_wp2_with fail
      go_ret
      exact ⟨_, rfl, HROW.out, HF.out⟩


theorem row_get {w : World} {B e n cap : Nat} {A : Option Addr} {xs : List Int} (h : w.ownsRow B e 1 (.slice A n cap) n (xs.map (.int .i64))) : ∀ i (hi : i < xs.length), ∃ g, A = some ⟨g, 0, none⟩ ∧ w.cell? ⟨g, i, none⟩ = some (.int .i64 xs[i]) := by
  intro i hi
  have hl : n = xs.length := by have := h.1; simp at this; omega
  obtain ⟨A2, cap2, hA, _, _, hc⟩ := row_open h
  simp only [Value.slice.injEq] at hA
  obtain ⟨rfl, _, _⟩ := hA
  obtain ⟨g, rfl, _, _, _, hc⟩ := hc (by omega)
  exact ⟨g, rfl, by rw [hc i (by omega)]; simp [hi]⟩

/-- What the walk knows of both watchers. -/
structure Both (N : Nat) (w : World) (b db sb : Nat) (vl : Value) (l : List (Nat × Wd)) : Prop where
  one : WAt w b l
  two : DAt N w db sb vl (watchesOf l) (seens l)
theorem Both.grow {N : Nat} {w w' : World} {b db sb : Nat} {vl : Value} {l : List (Nat × Wd)} (h : Both N w b db sb vl l) (hF : Frm (fun _ => False) w w') : Both N w' b db sb vl l :=
  ⟨h.one.frm hF (fun h => h) (fun _ _ _ _ _ h => h), h.two.grow hF⟩

set_option maxRecDepth 100000 in
set_option maxHeartbeats 2000000 in
theorem tells_any (N b db sb : Nat) (vl : Value) (l : List (Nat × Wd)) (w : World) (h : Both N w b db sb vl l) (hnd : (nodes l).Nodup) (hr : ∀ n ∈ nodes l, 1 ≤ n ∧ n ≤ 127) (ht : okT l) (hm : l.length ≤ 1000) :
    Calls Try.prog 42 #[ptr b, ptr db] w fun e w' => e = .returned (.bool true) ∧ Frm (fun _ => False) w w' := by
  have HB := Lib.hid h
  have HND := Lib.hid hnd
  have HRA := Lib.hid (rlost_all hnd hr ht)
  have hsl : (seens l).length = l.length := by simp [seens]
  have HSL := Lib.hid hsl
  clear h hnd hsl hr ht
  unfold ptr
  go_enter Try.func42, Try.ntmps42
  go_wp2_with fail
  go_loopw [5, 6, 7, 8] (fun i _ _ _ wr => ∃ k : Nat, k ≤ 130 ∧ i = .int .i64 ((k : Int) - 1) ∧ Frm (fun _ => False) w wr) (fun i _ _ _ _ => (200 - intOf i).toNat)
  case atStart => exact ⟨0, Nat.zero_le _, rfl, Frm.refl _ _⟩
  case round =>
    obtain ⟨k, hk, rfl, hF⟩ := hrel
    have hB := HB.out.grow hF
    have HF := Lib.hid hF
    have hwsz := hF.size
    clear hF
    by_cases hlt : k < 130
    · by_cases hin : ((k : Int) - 1) ∈ nodes l
      · obtain ⟨j, hj, hn, hno⟩ := nodes_in hin
        have hsj : j < (seens l).length := by rw [HSL.out]; exact hj
        have hp : placeOf ((watchesOf l).map (·.1)) ((k : Int) - 1) = (j : Int) := by
          rw [watchesOf_nodes]
          refine placeOf_hit (by simpa [nodes] using hj) ?_ hno
          rw [list_getD _ _ (by simpa [nodes] using hj)]
          simpa [nodes] using hn
        have hst := state_hit b l ((k : Int) - 1) wr hB.one j hj hn hno
        have HST := Lib.hid hst
        have j0 : (0 : Int) ≤ (j : Int) := Int.natCast_nonneg _
        have j1 : (j : Int) < (l.length : Int) := by omega
        have HP := Lib.hid hp
        have HBB := Lib.hid hB
        clear hin hn hno hp hB hst
        unfold ptr at *
        go_wp2_with fail
        refine HST.out.mono ?_
        rintro e w1 ⟨rfl, hF1⟩
        have hB1 := HBB.out.grow hF1
        have hs := hB1.two.seen j hsj
        rw [seens_get l j hj hsj] at hs
        have c1 : w1.cell? ⟨db, 1, none⟩ = some (.slice (some ⟨sb, 0, none⟩) l.length l.length) := by rw [cell_at hB1.two.hd, HSL.out]; rfl
        have H := Lib.hid (find_any N db sb vl (watchesOf l) (seens l) ((k : Int) - 1) w1 hB1.two)
        rw [HP.out] at H
        have HF1 := Lib.hid (HF.out.trans' hF1)
        clear hF1 hB1 HST
        generalize seenOf l[j].2 = s at *
        obtain ⟨x0, x1, x2⟩ := s
        obtain ⟨s0, s1, s2⟩ := hs
        simp only at s0 s1 s2
        unfold ptr at *
        by_cases h1 : x0 = 1
        · subst h1
          rw [if_pos (show (((1 : Int), x1, x2) : Seen).1 = 1 from rfl)]
          go_wp2_with (go_at_call 76; refine H.out.mono ?_; rintro e w' ⟨rfl, rfl⟩)
          go_roundw
          case rel => exact ⟨k + 1, by omega, by go_num, HF1.out⟩
          case measure => simp [intOf]; omega
        · rw [if_neg (show ¬ ((x0, x1, x2) : Seen).1 = 1 from h1)]
          have hb : (x0 != 1) = true := by simpa using h1
          clear h1
          go_wp2_with (go_at_call 76; refine H.out.mono ?_; rintro e w' ⟨rfl, rfl⟩)
          go_roundw
          case rel => exact ⟨k + 1, by omega, by go_num, HF1.out⟩
          case measure => simp [intOf]; omega
      · have hp : placeOf ((watchesOf l).map (·.1)) ((k : Int) - 1) = -1 := by
          rw [watchesOf_nodes]
          exact placeOf_miss fun j hj => nodes_out hin j (by simpa [nodes] using hj)
        have HST := Lib.hid (state_miss b l ((k : Int) - 1) wr hB.one hin)
        have HBB := Lib.hid hB
        have HP := Lib.hid hp
        clear hin hp hB
        unfold ptr at *
        go_wp2_with fail
        refine HST.out.mono ?_
        rintro e w1 ⟨rfl, hF1⟩
        have H := Lib.hid (find_any N db sb vl (watchesOf l) (seens l) ((k : Int) - 1) w1 (HBB.out.grow hF1).two)
        rw [HP.out] at H
        have HF1 := Lib.hid (HF.out.trans' hF1)
        clear hF1 HST
        unfold ptr at *
        go_wp2_with (go_at_call 76; refine H.out.mono ?_; rintro e w' ⟨rfl, rfl⟩)
        go_roundw
        case rel => exact ⟨k + 1, by omega, by go_num, HF1.out⟩
        case measure => simp [intOf]; omega
    · obtain rfl : k = 130 := by omega
      have HBB := Lib.hid hB
      clear hB
      go_wp2_with fail
      refine (lost_any b l wr HBB.out.one hm).mono ?_
      rintro e w1 ⟨v1, rfl, hr1, hF1⟩
      have HB1 := Lib.hid (HBB.out.grow hF1)
      have HF1 := Lib.hid hF1
      have HR1 := Lib.hid hr1
      clear hF1 hr1
      go_wp2_with fail
      refine (rlost_any N db sb vl l w1 HB1.out.two HND.out).mono ?_
      rintro e w2 ⟨v2, rfl, hr2, hF2⟩
      have hr1 := Frm.row hF2 HR1.out (fun _ _ h => h)
      rw [HRA.out] at hr2
      have hsl : (sorted (lostOf l)).length = (lostOf l).length := by simp [sorted, List.length_mergeSort]
      rw [hsl] at hr2
      have hzm : (sorted (lostOf l)).length ≤ 127 := by rw [← HRA.out]; exact rlost_length l 127
      obtain ⟨A1, cap1, rfl, _⟩ := row_open hr1
      obtain ⟨A2, cap2, rfl, _⟩ := row_open hr2
      have g1 := row_get hr1
      have g2 := row_get hr2
      have G : Hid (∀ i, i < (lostOf l).length → ∃ p q x, A1 = some ⟨p, 0, none⟩ ∧ A2 = some ⟨q, 0, none⟩ ∧ w2.cell? ⟨p, i, none⟩ = some (.int .i64 x) ∧ w2.cell? ⟨q, i, none⟩ = some (.int .i64 x)) := fun i hi => by
        obtain ⟨p, e1, d1⟩ := g1 i (by omega)
        obtain ⟨q, e2, d2⟩ := g2 i (by omega)
        exact ⟨p, q, _, e1, e2, d1, d2⟩
      rw [hsl] at hzm
      have HF2 := Lib.hid ((HF.out.trans' HF1.out).trans' hF2)
      clear hr1 hr2 hF2 HR1 g1 g2 hsl
      generalize (lostOf l).length = len at *
      go_wp2_with fail
      go_loopw [11] (fun i wq => ∃ k : Nat, k ≤ len ∧ i = .int .i64 k ∧ Frm (fun _ => False) w wq ∧ Frm (fun _ => False) w2 wq) (fun i _ => len - (intOf i).toNat)
      case atStart => exact ⟨0, Nat.zero_le _, rfl, HF2.out, Frm.refl _ _⟩
      case round =>
        obtain ⟨i, hi, rfl, hFa, hFb⟩ := hrel
        by_cases hlt2 : i < len
        · obtain ⟨p, q, x, rfl, rfl, d1, d2⟩ := G.out i hlt2
          have d1 := hFb.cell d1 (fun h => h)
          have d2 := hFb.cell d2 (fun h => h)
          have HFA := Lib.hid hFa
          have HFB := Lib.hid hFb
          have i0 : (0 : Int) ≤ (i : Int) := Int.natCast_nonneg _
          have i1 : (i : Int) < (len : Int) := by omega
          clear hFa hFb
          go_wp2_with fail
          go_quiet (fail)
          go_wp2_with fail
          go_roundw
          case rel => exact ⟨i + 1, by omega, by go_num, HFA.out.trans' (by (repeat' (first | (with_reducible exact Frm.refl _ _) | (with_reducible assumption) | (with_reducible refine Frm.alloc ?_ _) | (with_reducible refine Frm.drew ?_) | (with_reducible refine Frm.drewN ?_ _) | (with_reducible refine Frm.set1 ?_ _) | (with_reducible refine Frm.setCell ?_ ?_ _) | (intro hlt; simp [World.size_alloc, One] at hlt ⊢; omega)))), HFB.out.trans' (by (repeat' (first | (with_reducible exact Frm.refl _ _) | (with_reducible assumption) | (with_reducible refine Frm.alloc ?_ _) | (with_reducible refine Frm.drew ?_) | (with_reducible refine Frm.drewN ?_ _) | (with_reducible refine Frm.set1 ?_ _) | (with_reducible refine Frm.setCell ?_ ?_ _) | (intro hlt; simp [World.size_alloc, One] at hlt ⊢; omega))))⟩
          case measure => simp [intOf]; omega
        · have HFA := Lib.hid hFa
          clear hFa hFb
          go_wp2_with fail
          go_ret
          exact ⟨rfl, HFA.out⟩

end Go.Proofs.Ytmkkeglcjbogcaa
