/-
  What the document's watcher does: Take, Tick.
-/
import Derived.Test.YtmkkeglcjbogcaaRefW
import Derived.Test.YtmkkeglcjbogcaaCore3
import Derived.Deep.RegionLaw
import Derived.Deep.DeepCutAuto
namespace Go.Proofs.Ytmkkeglcjbogcaa
open Go.RowKit
set_option linter.unusedVariables false

/-- What the document knows of a node that a watcher knows so. -/
def seenOf (x : Wd) : Seen := (if x.there = false then 0 else if x.lost = true then 2 else 1, x.state, x.since)

theorem cellsOf_set {α : Type} {enc : α → List Value} {sz : Nat} (hsz : ∀ x, (enc x).length = sz) (xs : List α) (i j : Nat) (hi : i < xs.length) (hj : j < sz) (y : α) (u : Value) (hy : enc y = (enc xs[i]).set j u) :
    (cellsOf enc xs).set (i * sz + j) u = cellsOf enc (xs.set i y) := by
  induction xs generalizing i with
  | nil => simp at hi
  | cons x r ih =>
    simp only [cellsOf, List.flatMap_cons] at ih ⊢
    cases i with
    | zero =>
      simp only [List.getElem_cons_zero] at hy
      rw [List.set_cons_zero, List.flatMap_cons, hy, Nat.zero_mul, Nat.zero_add, List.set_append_left _ _ (by rw [hsz]; exact hj)]
    | succ i =>
      have hi' : i < r.length := by simpa using hi
      rw [List.set_cons_succ, List.flatMap_cons, ← ih i hi' (by simpa using hy), List.set_append_right _ _ (by rw [hsz, Nat.add_mul]; omega), hsz]
      rw [show (i + 1) * sz + j - sz = i * sz + j by rw [Nat.add_mul]; omega]

/-- A store into one cell of one state. -/
theorem seen_set {w : World} {sb : Nat} {S : List Seen} {fz : Nat × Nat} (h : w.heap[sb]? = some (.cells (cellsOf encS S).toArray 151 fz)) (i j : Nat) (hi : i < S.length) (hj : j < 3) (y : Seen) (u : Value) (hy : encS y = (encS S[i]).set j u) :
    (w.setCell ⟨sb, i * 3 + j, none⟩ u).heap[sb]? = some (.cells (cellsOf encS (S.set i y)).toArray 151 fz) := by
  refine heap_set_at h ?_
  rw [← cellsOf_set encS_len S i j hi hj y u hy]
  simp

/-- A whole state stored. -/
theorem seen_store {w : World} {sb : Nat} {S : List Seen} {fz : Nat × Nat} (h : w.heap[sb]? = some (.cells (cellsOf encS S).toArray 151 fz)) (k : Nat) (hk : k < S.length) (a b c : Int) :
    (((w.setCell ⟨sb, k * 3, none⟩ (.int .i64 a)).setCell ⟨sb, k * 3 + 1, none⟩ (.int .i64 b)).setCell ⟨sb, k * 3 + 2, none⟩ (.int .u64 c)).heap[sb]? = some (.cells (cellsOf encS (S.set k (a, b, c))).toArray 151 fz) := by
  have h1 := seen_set h k 0 hk (by decide) (a, S[k].2.1, S[k].2.2) (.int .i64 a) (by simp [encS])
  have h2 := seen_set h1 k 1 (by simpa using hk) (by decide) (a, b, S[k].2.2) (.int .i64 b) (by simp [encS])
  have h3 := seen_set h2 k 2 (by simpa using hk) (by decide) (a, b, c) (.int .u64 c) (by simp [encS])
  simpa using h3

def seenTake (s : Seen) (n c : Int) : Seen × List News :=
  if c = 0 then ((0, 0, 0), [(n, 0, 0)]) else ((1, c, 0), if s.1 ≠ 1 then [(n, 1, c)] else if s.2.1 ≠ c then [(n, 2, c)] else [])

def RTakePost (N db sb : Nat) (vl : Value) (ws : List (Int × Int)) (S : List Seen) (ns : List News) (w : World) (e : Ending) (w' : World) : Prop :=
  ∃ v, e = .returned (.tuple #[v, .bool true]) ∧ NewsAt w' v ns ∧ DAt N w' db sb vl ws S ∧ Frm (One sb) w w'

/-- What was known of the node, put aside. -/
def WasCut (w : World) (s : Seen) (c : Int) (p d : Value) (wx : World) : Prop :=
  p = .pointer (some ⟨w.heap.size, 0, none⟩) ∧ d = .int .i64 c ∧ wx.heap[w.heap.size]? = some (.cells #[.int .i64 s.1, .int .i64 s.2.1, .int .u64 s.2.2] 151 (0, 0)) ∧ Frm (fun _ => False) w wx

set_option maxRecDepth 100000 in
set_option maxHeartbeats 2000000 in
theorem rtake_on (N db sb : Nat) (vl : Value) (ws : List (Int × Int)) (S : List Seen) (n : Int) (q o cap : Nat) (k : Nat) (hk : k < S.length) (hp : placeOf (ws.map (·.1)) n = (k : Int)) (c : Int) (hok : c = 0 ∨ c = 4 ∨ c = 5 ∨ c = 127)
    (w : World) (h : DAt N w db sb vl ws S) (hc : w.cell? ⟨q, o, none⟩ = some (.int .u8 c)) :
    Calls Try.prog 40 #[ptr db, .int .i64 n, .slice (some ⟨q, o, none⟩) 1 cap] w (RTakePost N db sb vl ws (S.set k (seenTake S[k] n c).1) (seenTake S[k] n c).2 w) := by
  have H := Lib.hid (find_any N db sb vl ws S n w h)
  have c1 : w.cell? ⟨db, 1, none⟩ = some (.slice (some ⟨sb, 0, none⟩) S.length S.length) := cell_at h.hd
  obtain ⟨s0, s1, s2⟩ := h.seen k hk
  have HSK : Hid (∃ s, s = S[k]) := ⟨_, rfl⟩
  obtain ⟨⟨x0, x1, x2⟩, hs⟩ := HSK.out
  have HS := Lib.hid hs
  rw [← hs] at s0 s1 s2 ⊢
  simp only at s0 s1 s2
  have hlb := lt_of_block h.hs
  have hldb := lt_of_block h.hd
  have hlq : q < w.heap.size := World.block_lt_of_cell? w _ hc
  have HD := Lib.hid h
  have hC : 0 ≤ c ∧ c ≤ 127 := by omega
  obtain ⟨hC0, hC1⟩ := hC
  have HOK := Lib.hid hok
  have k0 : (0 : Int) ≤ (k : Int) := Int.natCast_nonneg _
  have k1 : (k : Int) < (S.length : Int) := by omega
  have kd : decide ((k : Int) < 0) = false := by simp
  have HWR : Hid (IntKind.i64.wrap c = c) := IntWalk.i64_in c (by omega)
  rw [hp] at H
  clear h hp hs hok
  unfold ptr at *
  go_enter Try.func40, Try.ntmps40
  go_upto_region 2 with (go_at_call 76; refine H.out.mono ?_; rintro e w' ⟨rfl, rfl⟩)
  go_cut [44] (fun t wx => t = .bool false ∧ wx = w')
  case first =>
    rcases HOK.out with rfl | rfl | rfl | rfl
    all_goals
      go_wp2_with fail
      go_meet
      exact ⟨rfl, rfl⟩
  case rest =>
    obtain ⟨rfl, rfl⟩ := hcut
    obtain ⟨wo, hwo⟩ : ∃ wo : World, wo = wc := ⟨_, rfl⟩
    subst hwo
    go_upto_region 4 with fail
    go_cut [9, 10] (fun p d wx => WasCut wo (x0, x1, x2) c p d wx)
    case first =>
      go_region_law (fail)
      all_goals
        go_wp2_with fail
        go_meet
        refine ⟨rfl, by rw [HWR.out], by (apply heap_fin; (case h => (repeat (first | (with_reducible exact heap_new _ _) | (with_reducible apply heap_alloc_old) | (with_reducible apply heap_drewN') | (with_reducible apply heap_drew') | (with_reducible apply heap_set_same) | (with_reducible refine heap_set_other ?_ (by simp only []; omega)) | (with_reducible exact heap_new_at (by simp))))); (case e => rfl)), by (repeat' (first | (with_reducible exact Frm.refl _ _) | (with_reducible assumption) | (with_reducible refine Frm.alloc ?_ _) | (with_reducible refine Frm.drew ?_) | (with_reducible refine Frm.drewN ?_ _) | (with_reducible refine Frm.set1 ?_ _) | (with_reducible refine Frm.setCell ?_ ?_ _) | (intro hlt; simp [World.size_alloc, One] at hlt ⊢; omega)))⟩
    case rest =>
      obtain ⟨rfl, rfl, hwas, hF⟩ := hcut
      have d0 : wc.cell? ⟨wo.heap.size, 0, none⟩ = some (.int .i64 x0) := cell_at hwas
      have d1 : wc.cell? ⟨wo.heap.size, 1, none⟩ = some (.int .i64 x1) := cell_at hwas
      have hD2 := HD.out.grow hF
      have e1 : wc.cell? ⟨db, 1, none⟩ = some (.slice (some ⟨sb, 0, none⟩) S.length S.length) := cell_at hD2.hd
      obtain ⟨t0, t1, t2⟩ := hD2.seen k hk
      have hf := frees hD2.hs
      have hsz := hF.size
      have hgt := lt_of_block hwas
      have HF := Lib.hid hF
      have HD2 := Lib.hid hD2
      clear s0 s1 s2 c1 hc hwas hF hD2
      by_cases hc0 : c = 0
      · subst hc0
        go_wp2_with fail
        go_ret2
        exact ⟨_, rfl, one_news n 0 0 (by simp), HD2.out.upd (by (repeat' (first | (with_reducible exact Frm.refl _ _) | (with_reducible assumption) | (with_reducible refine Frm.alloc ?_ _) | (with_reducible refine Frm.drew ?_) | (with_reducible refine Frm.drewN ?_ _) | (with_reducible refine Frm.set1 ?_ _) | (with_reducible refine Frm.setCell ?_ ?_ _) | (intro hlt; simp [World.size_alloc, One] at hlt ⊢; omega)))) (heap_alloc_old (seen_store HD2.out.hs k hk 0 0 0)) (by simp), (HF.out.mono (fun _ _ h => h.elim)).trans' (by (repeat' (first | (with_reducible exact Frm.refl _ _) | (with_reducible assumption) | (with_reducible refine Frm.alloc ?_ _) | (with_reducible refine Frm.drew ?_) | (with_reducible refine Frm.drewN ?_ _) | (with_reducible refine Frm.set1 ?_ _) | (with_reducible refine Frm.setCell ?_ ?_ _) | (intro hlt; simp [World.size_alloc, One] at hlt ⊢; omega))))⟩
      · have hcb : (c == 0) = false := by simpa using hc0
        by_cases hx0 : x0 = 1
        · subst hx0
          by_cases hx1 : x1 = c
          · have E : Hid (seenTake (1, x1, x2) n c = ((1, c, 0), [])) := by unfold Hid seenTake; rw [if_neg hc0, if_neg (by simp), if_neg (by simpa using hx1)]
            have hb : (x1 != c) = false := by simpa using hx1
            clear hc0 hx1
            go_wp2_with fail
            go_ret2
            rw [E.out]
            exact ⟨_, rfl, ⟨0, World.ownsRow_nil _ _ _ _⟩, HD2.out.upd (by (repeat' (first | (with_reducible exact Frm.refl _ _) | (with_reducible assumption) | (with_reducible refine Frm.alloc ?_ _) | (with_reducible refine Frm.drew ?_) | (with_reducible refine Frm.drewN ?_ _) | (with_reducible refine Frm.set1 ?_ _) | (with_reducible refine Frm.setCell ?_ ?_ _) | (intro hlt; simp [World.size_alloc, One] at hlt ⊢; omega)))) (seen_store HD2.out.hs k hk 1 c 0) (by simp), (HF.out.mono (fun _ _ h => h.elim)).trans' (by (repeat' (first | (with_reducible exact Frm.refl _ _) | (with_reducible assumption) | (with_reducible refine Frm.alloc ?_ _) | (with_reducible refine Frm.drew ?_) | (with_reducible refine Frm.drewN ?_ _) | (with_reducible refine Frm.set1 ?_ _) | (with_reducible refine Frm.setCell ?_ ?_ _) | (intro hlt; simp [World.size_alloc, One] at hlt ⊢; omega))))⟩
          · have E : Hid (seenTake (1, x1, x2) n c = ((1, c, 0), [(n, 2, c)])) := by unfold Hid seenTake; rw [if_neg hc0, if_neg (by simp), if_pos (by simpa using hx1)]
            have hb : (x1 != c) = true := by simpa using hx1
            clear hc0 hx1
            go_wp2_with fail
            go_ret2
            rw [E.out]
            exact ⟨_, rfl, one_news n 2 c (by simp), HD2.out.upd (by (repeat' (first | (with_reducible exact Frm.refl _ _) | (with_reducible assumption) | (with_reducible refine Frm.alloc ?_ _) | (with_reducible refine Frm.drew ?_) | (with_reducible refine Frm.drewN ?_ _) | (with_reducible refine Frm.set1 ?_ _) | (with_reducible refine Frm.setCell ?_ ?_ _) | (intro hlt; simp [World.size_alloc, One] at hlt ⊢; omega)))) (heap_alloc_old (seen_store HD2.out.hs k hk 1 c 0)) (by simp), (HF.out.mono (fun _ _ h => h.elim)).trans' (by (repeat' (first | (with_reducible exact Frm.refl _ _) | (with_reducible assumption) | (with_reducible refine Frm.alloc ?_ _) | (with_reducible refine Frm.drew ?_) | (with_reducible refine Frm.drewN ?_ _) | (with_reducible refine Frm.set1 ?_ _) | (with_reducible refine Frm.setCell ?_ ?_ _) | (intro hlt; simp [World.size_alloc, One] at hlt ⊢; omega))))⟩
        · have E : Hid (seenTake (x0, x1, x2) n c = ((1, c, 0), [(n, 1, c)])) := by unfold Hid seenTake; rw [if_neg hc0, if_pos hx0]
          have hb : (x0 != 1) = true := by simpa using hx0
          clear hc0 hx0
          go_wp2_with fail
          go_ret2
          rw [E.out]
          exact ⟨_, rfl, one_news n 1 c (by simp), HD2.out.upd (by (repeat' (first | (with_reducible exact Frm.refl _ _) | (with_reducible assumption) | (with_reducible refine Frm.alloc ?_ _) | (with_reducible refine Frm.drew ?_) | (with_reducible refine Frm.drewN ?_ _) | (with_reducible refine Frm.set1 ?_ _) | (with_reducible refine Frm.setCell ?_ ?_ _) | (intro hlt; simp [World.size_alloc, One] at hlt ⊢; omega)))) (heap_alloc_old (seen_store HD2.out.hs k hk 1 c 0)) (by simp), (HF.out.mono (fun _ _ h => h.elim)).trans' (by (repeat' (first | (with_reducible exact Frm.refl _ _) | (with_reducible assumption) | (with_reducible refine Frm.alloc ?_ _) | (with_reducible refine Frm.drew ?_) | (with_reducible refine Frm.drewN ?_ _) | (with_reducible refine Frm.set1 ?_ _) | (with_reducible refine Frm.setCell ?_ ?_ _) | (intro hlt; simp [World.size_alloc, One] at hlt ⊢; omega))))⟩

set_option maxRecDepth 100000 in
set_option maxHeartbeats 1000000 in
theorem rtake_miss (N db sb : Nat) (vl v : Value) (ws : List (Int × Int)) (S : List Seen) (n : Int) (hp : placeOf (ws.map (·.1)) n = -1) (w : World) (h : DAt N w db sb vl ws S) :
    Calls Try.prog 40 #[ptr db, .int .i64 n, v] w fun e w' => e = .returned (.tuple #[.slice none 0 0, .bool false]) ∧ w' = w := by
  have H := Lib.hid (find_any N db sb vl ws S n w h)
  rw [hp] at H
  unfold ptr at *
  clear hp h
  go_enter Try.func40, Try.ntmps40
  go_wp2_with (go_at_call 76; refine H.out.mono ?_; rintro e w' ⟨rfl, rfl⟩)
  go_ret2
  exact ⟨rfl, rfl⟩

set_option maxRecDepth 100000 in
set_option maxHeartbeats 1000000 in
theorem rtake_len (N db sb : Nat) (vl : Value) (ws : List (Int × Int)) (S : List Seen) (n : Int) (A : Option Addr) (len cap k : Nat) (hl : len ≠ 1) (hp : placeOf (ws.map (·.1)) n = (k : Int)) (w : World) (h : DAt N w db sb vl ws S) :
    Calls Try.prog 40 #[ptr db, .int .i64 n, .slice A len cap] w fun e w' => e = .returned (.tuple #[.slice none 0 0, .bool false]) ∧ w' = w := by
  have H := Lib.hid (find_any N db sb vl ws S n w h)
  rw [hp] at H
  unfold ptr at *
  have hb : ((len : Int) != 1) = true := by simp; omega
  have kd : decide ((k : Int) < 0) = false := by simp
  clear hp h hl
  go_enter Try.func40, Try.ntmps40
  go_wp2_with (go_at_call 76; refine H.out.mono ?_; rintro e w' ⟨rfl, rfl⟩)
  go_ret2
  exact ⟨rfl, rfl⟩

set_option maxRecDepth 100000 in
set_option maxHeartbeats 1000000 in
theorem rtake_bad (N db sb : Nat) (vl : Value) (ws : List (Int × Int)) (S : List Seen) (n : Int) (q o cap k : Nat) (c : Int) (h0 : c ≠ 0) (h4 : c ≠ 4) (h5 : c ≠ 5) (h7 : c ≠ 127) (hp : placeOf (ws.map (·.1)) n = (k : Int)) (w : World) (h : DAt N w db sb vl ws S)
    (hc : w.cell? ⟨q, o, none⟩ = some (.int .u8 c)) :
    Calls Try.prog 40 #[ptr db, .int .i64 n, .slice (some ⟨q, o, none⟩) 1 cap] w fun e w' => e = .returned (.tuple #[.slice none 0 0, .bool false]) ∧ w' = w := by
  have H := Lib.hid (find_any N db sb vl ws S n w h)
  rw [hp] at H
  unfold ptr at *
  have b0 : (c != 0) = true := by simpa using h0
  have b4 : (c != 4) = true := by simpa using h4
  have b5 : (c != 5) = true := by simpa using h5
  have b7 : (c != 127) = true := by simpa using h7
  have kd : decide ((k : Int) < 0) = false := by simp
  clear hp h h0 h4 h5 h7
  go_enter Try.func40, Try.ntmps40
  go_wp2_with (go_at_call 76; refine H.out.mono ?_; rintro e w' ⟨rfl, rfl⟩)
  go_ret2
  exact ⟨rfl, rfl⟩

end Go.Proofs.Ytmkkeglcjbogcaa
