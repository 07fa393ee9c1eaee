/-
  What Lost does: the nodes that are lost, by their numbers.
-/
import Derived.Test.YtmkkeglcjbogcaaTake
import Derived.Test.YtmkkeglcjbogcaaCore2
import Derived.Test.YtmkkeglcjbogcaaShelf
import Derived.Sort.OwnSortedInts
namespace Go.Proofs.Ytmkkeglcjbogcaa
open Go.RowKit
set_option linter.unusedVariables false

def lostOf (l : List (Nat × Wd)) : List Int := (l.filter (·.2.lost)).map (·.2.node)
def sorted (zs : List Int) : List Int := zs.mergeSort fun x y => decide (x ≤ y)
theorem el_int : El Try.prog 83 3 1 8 := El.of Try.underlying83 (z := .int .i64 0) (by kernel_rfl) rfl (by decide)

/-- The library's sort, over a row of one's own. -/
theorem sort_row (v : Value) (n B : Nat) (zs : List Int) (w : World) (h : w.ownsRow B 3 1 v n (zs.map (.int .i64))) (hn : n ≤ 1000000) :
    Calls Try.prog 75 #[v] w fun e w' => e = .returned (.tuple #[]) ∧ w'.ownsRow B 3 1 v n ((sorted zs).map (.int .i64)) ∧ Frm (fun k => v.ownBlock = some k) w w' := by
  have hzl : zs.length = n := by have := h.1; simpa using this
  rcases h.2 with ⟨rfl, rfl⟩ | ⟨g, cap, cur, rfl, hg, hh, hc, hm, hs, ht⟩
  · obtain rfl : zs = [] := List.eq_nil_of_length_eq_zero hzl
    refine (Try.slices_Sort_int_none none 0 w).mono ?_
    rintro e w' ⟨rfl, rfl⟩
    exact ⟨rfl, by simpa [sorted] using h, Frm.refl _ _⟩
  · subst hzl
    have hH : Go.Sort.Holds (Value.int .i64) w g 0 zs.toArray := by
      intro j hj
      have hj' : j < zs.length := by simpa using hj
      rw [Nat.zero_add]
      refine ⟨?_, free_at hh⟩
      rw [h.cellAt j (by omega)]
      simp [hj']
    refine (Try.slices_Sort_int g 0 cap zs w hH (lt_of_block hh) (by omega)).mono ?_
    rintro e w' ⟨rfl, m, os, rfl⟩
    have hl : (sorted zs).length = zs.length := by simp [sorted, List.length_mergeSort]
    exact ⟨rfl, ownsRow_sortedI hl hg hh hc hm hs, (Frm.refl _ _).grown (grownBy_sortedI _) (fun k hk _ => hk)⟩

def LostPost (l : List (Nat × Wd)) (w : World) (e : Ending) (w' : World) : Prop :=
  ∃ v, e = .returned v ∧ w'.ownsRow w.heap.size 3 1 v (lostOf l).length ((sorted (lostOf l)).map (.int .i64)) ∧ Frm (fun _ => False) w w'

set_option maxRecDepth 100000 in
set_option maxHeartbeats 1000000 in
theorem lost_any (b : Nat) (l : List (Nat × Wd)) (w : World) (h : WAt w b l) (hm : l.length ≤ 1000) : Calls Try.prog 38 #[ptr b] w (LostPost l w) := by
  obtain ⟨v, hO, hr⟩ := h.row
  obtain ⟨A, cap, rfl, h1, h2, h3⟩ := row_open hr
  have c0 : w.cell? ⟨b, 0, none⟩ = some (.slice A l.length cap) := cell_at hO
  have HR := Lib.hid h3
  have HW := Lib.hid h
  clear h3 h hr hO h1 h2
  unfold ptr
  go_enter Try.func38, Try.ntmps38
  go_wp2_with fail
  go_loopw [3, 5, 11] (fun v _ i wr => ∃ k : Nat, k ≤ l.length ∧ i = .int .i64 k ∧ wr.ownsRow w.heap.size 3 1 v (lostOf (l.take k)).length ((lostOf (l.take k)).map (.int .i64)) ∧ Frm (fun _ => False) w wr) (fun _ _ i _ => l.length - (intOf i).toNat)
  case atStart => exact ⟨0, Nat.zero_le _, rfl, by simpa [lostOf] using World.ownsRow_nil _ _ _ _, Frm.refl _ _⟩
  case round =>
    obtain ⟨k, hk, rfl, hrow, hF⟩ := hrel
    have hml : (lostOf (l.take k)).length ≤ k := by
      unfold lostOf
      rw [List.length_map]
      exact Nat.le_trans (List.length_filter_le _ _) (by simp; omega)
    by_cases hlt : k < l.length
    · obtain ⟨g, rfl, _, ⟨cur, hcur⟩, hf, hc⟩ := HR.out (by omega)
      have hx := hF.heap (HW.out.el k hlt) (fun h => h)
      have ck0 : wr.cell? ⟨g, k, none⟩ = some (ptr l[k].1) := hF.cell (by rw [hc k (by omega)]; simp [hlt]) (fun h => h)
      have HTK := Lib.hid (List.take_succ_eq_append_getElem hlt)
      generalize l[k] = q at *
      obtain ⟨p, xn, xt, xs, xth, xl, xsi⟩ := q
      have d0 : wr.cell? ⟨p, 0, none⟩ = some (.int .i64 xn) := cell_at hx
      have d4 : wr.cell? ⟨p, 4, none⟩ = some (.bool xl) := cell_at hx
      have ck0 : wr.cell? ⟨g, k, none⟩ = some (.pointer (some ⟨p, 0, none⟩)) := ck0
      have hm5 : (lostOf (l.take k)).length + 1 ≤ maxLen := by unfold maxLen; omega
      have hm6 : ((lostOf (l.take k)).length + 1) * 8 ≤ 140737488355328 := by omega
      have hsz := hF.size
      have HROW := Lib.hid hrow
      have HF := Lib.hid hF
      clear hcur hf hc hx hrow hF
      cases xl with
      | false =>
        have HL : Hid (lostOf (l.take (k + 1)) = lostOf (l.take k)) := by unfold Hid lostOf; rw [HTK.out, List.filter_append, List.map_append]; simp
        go_wp2_with fail
        go_roundw
        case rel => exact ⟨k + 1, by omega, by go_num, by rw [HL.out]; exact HROW.out, HF.out⟩
        case measure => simp [intOf]; omega
      | true =>
        have HL : Hid (lostOf (l.take (k + 1)) = lostOf (l.take k) ++ [xn]) := by unfold Hid lostOf; rw [HTK.out, List.filter_append, List.map_append]; simp
        go_wp2_with (at_builtin; refine wpl_app rfl el_int (.tmp 19) (.tmp 25) rfl (e2 := 3) (fr := (0, 0)) (arr := #[.int .i64 xn]) rfl rfl (Frm.row (S := fun _ => False) (by (repeat' (first | (with_reducible exact Frm.refl _ _) | (with_reducible assumption) | (with_reducible refine Frm.alloc ?_ _) | (with_reducible refine Frm.drew ?_) | (with_reducible refine Frm.drewN ?_ _) | (with_reducible refine Frm.set1 ?_ _) | (with_reducible refine Frm.setCell ?_ ?_ _) | (intro hlt; simp [World.size_alloc, One] at hlt ⊢; omega)))) HROW.out (fun _ _ h => h)) (heap_new_at (by simp)) rfl (by simp [Value.oneCell']) (by decide) hm5 hm6 (by simp; omega) ?_; intro g5 cap5 w5 hown5 hfr5 hat5 hlt5)
        go_roundw
        case rel =>
          refine ⟨k + 1, by omega, by go_num, ?_, ?_⟩
          · rw [HL.out, List.map_append, List.length_append]; exact hown5
          · refine Frm.trans (b := _) (HF.out.trans' (by (repeat' (first | (with_reducible exact Frm.refl _ _) | (with_reducible assumption) | (with_reducible refine Frm.alloc ?_ _) | (with_reducible refine Frm.drew ?_) | (with_reducible refine Frm.drewN ?_ _) | (with_reducible refine Frm.set1 ?_ _) | (with_reducible refine Frm.setCell ?_ ?_ _) | (intro hlt; simp [World.size_alloc, One] at hlt ⊢; omega))))) hfr5 (fun j hj h => ?_)
            have := (row_block HROW.out h).1
            omega
        case measure => simp [intOf]; omega
    · have hfull : lostOf (l.take k) = lostOf l := by rw [List.take_of_length_le (by omega)]
      rw [hfull] at hrow hml
      have HROW := Lib.hid hrow
      have HF := Lib.hid hF
      clear hrow hF hfull
      go_wp2_with fail
      refine (sort_row _ _ _ _ _ HROW.out (by omega)).mono ?_
      rintro e w5 ⟨rfl, hr5, hF5⟩
      have HR5 := Lib.hid hr5
      have HF5 := Lib.hid (HF.out.trans hF5 (fun j hj h => by have := (row_block HROW.out h).1; omega))
      clear hr5 hF5
      go_wp2_with fail
      go_ret
      exact ⟨_, rfl, HR5.out, HF5.out⟩

end Go.Proofs.Ytmkkeglcjbogcaa
