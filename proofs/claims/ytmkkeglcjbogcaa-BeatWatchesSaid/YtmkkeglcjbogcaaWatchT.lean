/-
  What the watcher's Tick does.
-/
import Derived.Test.YtmkkeglcjbogcaaWatch
namespace Go.Proofs.Ytmkkeglcjbogcaa
open Go.RowKit
set_option linter.unusedVariables false

def Wd.tick (x : Wd) : Wd × List News :=
  if x.there = false ∨ x.lost = true then (x, [])
  else if x.ticks ≤ x.since + 1 then ({ x with since := x.since + 1, lost := true }, [(x.node, 3, x.state)])
  else ({ x with since := x.since + 1 }, [])

def ticked (l : List (Nat × Wd)) : List (Nat × Wd) := l.map fun q => (q.1, q.2.tick.1)
def tickNews (l : List (Nat × Wd)) : List News := l.flatMap fun q => q.2.tick.2

theorem newsCells_append (a b : List News) : newsCells (a ++ b) = newsCells a ++ newsCells b := by
  induction a with
  | nil => rfl
  | cons x r ih => obtain ⟨p, q, s⟩ := x; simp [newsCells, ih]
theorem newsCells_length (a : List News) : (newsCells a).length = a.length * 3 := by
  induction a with
  | nil => rfl
  | cons x r ih => obtain ⟨p, q, s⟩ := x; simp [newsCells, ih]; omega
theorem tickNews_length (l : List (Nat × Wd)) : (tickNews l).length ≤ l.length := by
  induction l with
  | nil => simp [tickNews]
  | cons x r ih =>
    have : (x.2.tick.2).length ≤ 1 := by unfold Wd.tick; split <;> (try split) <;> simp
    simp only [tickNews, List.flatMap_cons, List.length_append, List.length_cons] at ih ⊢
    omega

/-- After k of l have been ticked. -/
def tickTo (l : List (Nat × Wd)) (k : Nat) : List (Nat × Wd) := ticked (l.take k) ++ l.drop k
theorem tickTo_get {l : List (Nat × Wd)} {k : Nat} (hk : k < l.length) : (tickTo l k).length = l.length ∧ ∃ h : k < (tickTo l k).length, (tickTo l k)[k] = l[k] := by
  have hl : (tickTo l k).length = l.length := by simp [tickTo, ticked]; omega
  refine ⟨hl, by omega, ?_⟩
  simp [tickTo, ticked, List.getElem_append, Nat.min_eq_left (Nat.le_of_lt hk)]
set_option linter.unusedSimpArgs false
theorem tickTo_succ {l : List (Nat × Wd)} {k : Nat} (hk : k < l.length) : tickTo l (k + 1) = (tickTo l k).set k (l[k].1, l[k].2.tick.1) := by
  simp only [tickTo, ticked]
  rw [List.take_succ_eq_append_getElem hk, List.map_append, List.set_append, if_neg (by simp; omega)]
  simp [Nat.min_eq_left (Nat.le_of_lt hk)]
  rw [show l.drop k = l[k] :: l.drop (k + 1) from List.drop_eq_getElem_cons hk, List.set_cons_zero]
theorem tickNews_succ {l : List (Nat × Wd)} {k : Nat} (hk : k < l.length) : tickNews (l.take (k + 1)) = tickNews (l.take k) ++ l[k].2.tick.2 := by
  simp only [tickNews]
  rw [List.take_succ_eq_append_getElem hk, List.flatMap_append]
  simp


theorem el_News : El Try.prog 39 48 3 24 :=
  El.of Try.underlying39 (z := .agg #[.int .i64 0, .int .i64 0, .int .i64 0]) (by kernel_rfl) rfl (by decide)

def TickPost2 (b : Nat) (l : List (Nat × Wd)) (w : World) (e : Ending) (w' : World) : Prop :=
  ∃ v, e = .returned v ∧ w'.ownsRow w.heap.size 48 3 v (tickNews l).length (newsCells (tickNews l)) ∧ WAt w' b (ticked l) ∧ Frm (fun k => k ∈ l.map (·.1)) w w'

set_option maxRecDepth 100000 in
set_option maxHeartbeats 1000000 in
theorem tick_any (b : Nat) (l : List (Nat × Wd)) (w : World) (h : WAt w b l) (hm : l.length ≤ 1000) (hs : ∀ q ∈ l, 0 ≤ q.2.since ∧ q.2.since ≤ 4294967296) :
    Calls Try.prog 21 #[ptr b] w (TickPost2 b l w) := by
  obtain ⟨v, hO, hr⟩ := h.row
  obtain ⟨A, cap, rfl, h1, h2, h3⟩ := row_open hr
  have c0 : w.cell? ⟨b, 0, none⟩ = some (.slice A l.length cap) := cell_at hO
  have hb := lt_of_block hO
  have HR := Lib.hid h3
  have HW := Lib.hid h
  have HS := Lib.hid hs
  have HO := Lib.hid hO
  clear h3 h hs hr hO h1 h2
  unfold ptr
  go_enter Try.func21, Try.ntmps21
  go_wp2
  go_loopw [3, 11] (fun v i wr => ∃ k : Nat, k ≤ l.length ∧ i = .int .i64 k ∧ WAt wr b (tickTo l k) ∧ wr.ownsRow w.heap.size 48 3 v (tickNews (l.take k)).length (newsCells (tickNews (l.take k))) ∧
      Frm (fun k => k ∈ l.map (·.1)) w wr) (fun _ i _ => l.length - (intOf i).toNat)
  case atStart => exact ⟨0, Nat.zero_le _, rfl, by simpa [tickTo, ticked] using HW.out, by simpa [tickNews, newsCells] using World.ownsRow_nil _ _ _ _, Frm.refl _ _⟩
  case round =>
    obtain ⟨k, hk, rfl, hW, hown, hfr⟩ := hrel
    by_cases hlt : k < l.length
    · obtain ⟨g, rfl, _, ⟨cur, hcur⟩, hf, hc⟩ := HR.out (by omega)
      obtain ⟨hl1, hl2, hl3⟩ := tickTo_get hlt
      have hx := hW.el k hl2
      have hS := HS.out _ (List.getElem_mem hlt)
      have hgS : ¬ g ∈ l.map (·.1) := by
        intro hm'
        obtain ⟨q, hq, rfl⟩ := List.mem_map.1 hm'
        obtain ⟨j, hj, rfl⟩ := List.getElem_of_mem hq
        exact block_ne hcur (HW.out.el j hj) (by decide) rfl
      have ck0 : wr.cell? ⟨g, k, none⟩ = some (ptr l[k].1) := hfr.cell (by rw [hc k (by omega)]; simp [hlt]) hgS
      have hnl : (tickNews (l.take k)).length ≤ k := Nat.le_trans (tickNews_length _) (by simp; omega)
      have hwsz := hfr.size
      obtain ⟨p, hp⟩ : ∃ p, p = l[k].1 := ⟨_, rfl⟩
      obtain ⟨x, hxe⟩ : ∃ x, x = l[k].2 := ⟨_, rfl⟩
      have hpS : p ∈ l.map (·.1) := by rw [hp]; exact List.mem_map_of_mem (List.getElem_mem hlt)
      have HU : ∀ (w' : World) (x' : Wd) (ns : List News), x.tick = (x', ns) → Frm (One p) wr w' → w'.heap[p]? = some (.cells x'.cells 135 (0, 0)) →
          WAt w' b (tickTo l (k + 1)) ∧ Frm (fun k => k ∈ l.map (·.1)) w w' := fun w' x' ns ht hf hh => by
        rw [tickTo_succ hlt, ← hxe, ht, ← hp]
        refine ⟨?_, hfr.trans hf (fun i _ (hi : i = p) => by rw [hi]; exact hpS)⟩
        have := hW.upd hl2 x' (by rw [hl3, ← hp]; exact hf) (by rw [hl3, ← hp]; exact hh)
        rw [hl3, ← hp] at this
        exact this
      have HN : ∀ (x' : Wd) (ns : List News), x.tick = (x', ns) → tickNews (l.take (k + 1)) = tickNews (l.take k) ++ ns := fun x' ns ht => by
        rw [tickNews_succ hlt, ← hxe, ht]
      rw [← hp] at ck0
      rw [hl3, ← hp, ← hxe] at hx
      rw [← hxe] at hS
      have hpl := lt_of_block hx
      have hpb : p ≠ b := by
        rintro rfl
        obtain ⟨v0, hO, _⟩ := hW.row
        rw [hO] at hx; simp at hx
      have hvp : ∀ j, u3.ownBlock = some j → j ≠ p := fun j hj => by
        obtain ⟨_, cur', hc'⟩ := row_block hown hj
        exact block_ne hc' hx (by decide)
      obtain ⟨xn, xt, xs, xth, xl, xsi⟩ := x
      have d0 : wr.cell? ⟨p, 0, none⟩ = some (.int .i64 xn) := cell_at hx
      have d1 : wr.cell? ⟨p, 1, none⟩ = some (.int .u64 xt) := cell_at hx
      have d2 : wr.cell? ⟨p, 2, none⟩ = some (.int .i64 xs) := cell_at hx
      have d3 : wr.cell? ⟨p, 3, none⟩ = some (.bool xth) := cell_at hx
      have d4 : wr.cell? ⟨p, 4, none⟩ = some (.bool xl) := cell_at hx
      have d5 : wr.cell? ⟨p, 5, none⟩ = some (.int .u64 xsi) := cell_at hx
      have hfx := frees hx
      have HU := Lib.hid HU
      have HN := Lib.hid HN
      have HX := Lib.hid hx
      have HP := Lib.hid hvp
      have HRow := Lib.hid hown
      have HF := Lib.hid hfr
      obtain ⟨s0, s1⟩ := hS
      have s0 : 0 ≤ xsi := s0
      have s1 : xsi ≤ 4294967296 := s1
      clear hcur hf hc hl1 hl2 hl3 hx hgS hxe hp hpb hvp hown hfr hW hpS
      unfold ptr at ck0
      by_cases e1 : xth = false ∨ xl = true
      · have HE : Hid ((⟨xn, xt, xs, xth, xl, xsi⟩ : Wd).tick = (⟨xn, xt, xs, xth, xl, xsi⟩, [])) := by unfold Hid Wd.tick; rw [if_pos e1]
        have HR2 : Hid (∃ k2 : Nat, k2 = k + 1 ∧ k2 ≤ l.length ∧ WAt wr b (tickTo l k2) ∧ wr.ownsRow w.heap.size 48 3 u3 (tickNews (l.take k2)).length (newsCells (tickNews (l.take k2))) ∧ Frm (fun k => k ∈ l.map (·.1)) w wr) :=
          ⟨k + 1, rfl, by omega, (HU.out wr _ _ HE.out (Frm.refl _ _) HX.out).1, by rw [HN.out _ _ HE.out, List.append_nil]; exact HRow.out, HF.out⟩
        by_cases e2 : xth = false
        · subst e2
          clear e1
          go_wp2
          go_roundw
          case rel => obtain ⟨k2, rfl, r⟩ := HR2.out; exact ⟨k + 1, r.1, by go_num, r.2⟩
          case measure => simp [intOf]; omega
        · obtain rfl : xth = true := by simpa using e2
          obtain rfl : xl = true := by simpa using e1
          clear e1 e2
          go_wp2
          go_roundw
          case rel => obtain ⟨k2, rfl, r⟩ := HR2.out; exact ⟨k + 1, r.1, by go_num, r.2⟩
          case measure => simp [intOf]; omega
      · obtain ⟨rfl, rfl⟩ : xth = true ∧ xl = false := by simpa using e1
        clear e1
        by_cases e3 : xt ≤ xsi + 1
        · have HE : Hid ((⟨xn, xt, xs, true, false, xsi⟩ : Wd).tick = (⟨xn, xt, xs, true, true, xsi + 1⟩, [(xn, 3, xs)])) := by unfold Hid Wd.tick; simp [e3]
          go_wp2
          go_quiet (fail)
          go_wp2_with (first | (at_builtin; go_loud (refine wpl_app_new rfl el_News (.tmp 46) (.tmp 52) rfl rfl rfl (by simp) (Frm.row (S := One p) (w := wr) (by (repeat' (first | (with_reducible exact Frm.refl _ _) | (with_reducible assumption) | (with_reducible refine Frm.alloc ?_ _) | (with_reducible refine Frm.drew ?_) | (with_reducible refine Frm.drewN ?_ _) | (with_reducible refine Frm.set1 ?_ _) | (with_reducible refine Frm.setCell ?_ ?_ _) | (intro hlt; simp [World.size_alloc, One] at hlt ⊢; omega)))) HRow.out HP.out) rfl (by simp [Value.oneCell']) (by unfold maxLen; omega) (by omega) (by simp; omega) ?_); intro v' w' hown' hfr') | go_in)
          obtain ⟨A', c', rfl, _⟩ := row_open hown'
          go_roundw
          case rel =>
            have h2 := HU.out (((wr.setCell ⟨p, 5, none⟩ (.int .u64 (xsi + 1))).drewN nq).setCell ⟨p, 4, none⟩ (.bool true)) _ _ HE.out (by (repeat' (first | (with_reducible exact Frm.refl _ _) | (with_reducible assumption) | (with_reducible refine Frm.alloc ?_ _) | (with_reducible refine Frm.drew ?_) | (with_reducible refine Frm.drewN ?_ _) | (with_reducible refine Frm.set1 ?_ _) | (with_reducible refine Frm.setCell ?_ ?_ _) | (intro hlt; simp [World.size_alloc, One] at hlt ⊢; omega)))) (by (apply heap_fin; (case h => (repeat (first | (with_reducible exact HX.out) | (with_reducible apply heap_alloc_old) | (with_reducible apply heap_drewN') | (with_reducible apply heap_drew') | (with_reducible apply heap_set_same) | (with_reducible refine heap_set_other ?_ (by simp only []; omega)) | (with_reducible exact heap_new_at (by simp))))); (case e => rfl)))
            have h3 : (((wr.setCell ⟨p, 5, none⟩ (.int .u64 (xsi + 1))).drewN nq).setCell ⟨p, 4, none⟩ (.bool true)).ownsRow w.heap.size 48 3 u3 (tickNews (l.take k)).length (newsCells (tickNews (l.take k))) :=
              Frm.row (S := One p) (w := wr) (by (repeat' (first | (with_reducible exact Frm.refl _ _) | (with_reducible assumption) | (with_reducible refine Frm.alloc ?_ _) | (with_reducible refine Frm.drew ?_) | (with_reducible refine Frm.drewN ?_ _) | (with_reducible refine Frm.set1 ?_ _) | (with_reducible refine Frm.setCell ?_ ?_ _) | (intro hlt; simp [World.size_alloc, One] at hlt ⊢; omega)))) HRow.out HP.out
            refine ⟨k + 1, by omega, by go_num, h2.1.frm_row h3 hfr' (by decide) (by decide) (by decide), ?_, h2.2.trans hfr' (fun i hi h => ?_)⟩
            · rw [HN.out _ _ HE.out, newsCells_append, List.length_append]
              exact hown'
            · have := (row_block h3 h).1
              omega
          case measure => simp [intOf]; omega
        · have HE : Hid ((⟨xn, xt, xs, true, false, xsi⟩ : Wd).tick = (⟨xn, xt, xs, true, false, xsi + 1⟩, [])) := by unfold Hid Wd.tick; simp [e3]
          go_wp2
          go_quiet (fail)
          go_wp2
          go_roundw
          case rel =>
            have h2 := HU.out ((wr.setCell ⟨p, 5, none⟩ (.int .u64 (xsi + 1))).drewN nq) _ _ HE.out (by (repeat' (first | (with_reducible exact Frm.refl _ _) | (with_reducible assumption) | (with_reducible refine Frm.alloc ?_ _) | (with_reducible refine Frm.drew ?_) | (with_reducible refine Frm.drewN ?_ _) | (with_reducible refine Frm.set1 ?_ _) | (with_reducible refine Frm.setCell ?_ ?_ _) | (intro hlt; simp [World.size_alloc, One] at hlt ⊢; omega)))) (by (apply heap_fin; (case h => (repeat (first | (with_reducible exact HX.out) | (with_reducible apply heap_alloc_old) | (with_reducible apply heap_drewN') | (with_reducible apply heap_drew') | (with_reducible apply heap_set_same) | (with_reducible refine heap_set_other ?_ (by simp only []; omega)) | (with_reducible exact heap_new_at (by simp))))); (case e => rfl)))
            refine ⟨k + 1, by omega, by go_num, h2.1, ?_, h2.2⟩
            rw [HN.out _ _ HE.out, List.append_nil]
            exact Frm.row (S := One p) (w := wr) (by (repeat' (first | (with_reducible exact Frm.refl _ _) | (with_reducible assumption) | (with_reducible refine Frm.alloc ?_ _) | (with_reducible refine Frm.drew ?_) | (with_reducible refine Frm.drewN ?_ _) | (with_reducible refine Frm.set1 ?_ _) | (with_reducible refine Frm.setCell ?_ ?_ _) | (intro hlt; simp [World.size_alloc, One] at hlt ⊢; omega)))) HRow.out HP.out
          case measure => simp [intOf]; omega
    · have hkn : k = l.length := by omega
      subst hkn
      go_wp2
      go_ret
      exact ⟨_, rfl, by simpa using hown, by simpa [tickTo] using hW, hfr⟩
end Go.Proofs.Ytmkkeglcjbogcaa
