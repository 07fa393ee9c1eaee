/-
  Running: the nodes that run, by their numbers.
-/
import Derived.Test.YtjjmkpjclhielaaBootO
import Derived.Test.YtjjmkpjclhielaaCore3
import Derived.Test.YtjjmkpjclhielaaShelf
import Derived.Sort.OwnSortedInts
namespace Go.Proofs.Ytjjmkpjclhielaa
open Go.RowKit
set_option linter.unusedVariables false

def runN (l : List Nd) : List Int := (l.filter fun x => x.is == 1).map (·.p.node)
def sorted (zs : List Int) : List Int := zs.mergeSort fun x y => decide (x ≤ y)
theorem el_int : El Try.prog 43 3 1 8 := El.of Try.underlying43 (z := .int .i64 0) (by kernel_rfl) rfl (by decide)

/-- The library's sort, over a row of one's own. -/
theorem sort_row (v : Value) (n B : Nat) (zs : List Int) (w : World) (h : w.ownsRow B 3 1 v n (zs.map (.int .i64))) (hn : n ≤ 1000000) :
    Calls Try.prog 33 #[v] w fun e w' => e = .returned (.tuple #[]) ∧ w'.ownsRow B 3 1 v n ((sorted zs).map (.int .i64)) ∧ Frm (fun k => v.ownBlock = some k) w w' := by
  have hzl : zs.length = n := by have := h.1; simpa using this
  rcases h.2 with ⟨rfl, rfl⟩ | ⟨g, cap, cur, rfl, hg, hh, hc, hm, hs, ht⟩
  · obtain rfl : zs = [] := List.eq_nil_of_length_eq_zero hzl
    refine (Try.slices_Sort_int_none none 0 w).mono ?_
    rintro e w' ⟨rfl, rfl⟩
    exact ⟨rfl, by simpa [sorted] using h, Frm.refl _ _⟩
  · subst hzl
    have hH : Go.Sort.Holds (Value.int .i64) w g 0 zs.toArray := by
      intro j hj
      have hj' : j < zs.length := by simpa using hj
      rw [Nat.zero_add]
      refine ⟨?_, free_at hh⟩
      rw [h.cellAt j (by omega)]
      simp [hj']
    refine (Try.slices_Sort_int g 0 cap zs w hH (lt_of_block hh) (by omega)).mono ?_
    rintro e w' ⟨rfl, m, os, rfl⟩
    have hl : (sorted zs).length = zs.length := by simp [sorted, List.length_mergeSort]
    exact ⟨rfl, ownsRow_sortedI hl hg hh hc hm hs, (Frm.refl _ _).grown (grownBy_sortedI _) (fun k hk _ => hk)⟩

def RunPost (l : List (Nat × Nd)) (w : World) (e : Ending) (w' : World) : Prop :=
  ∃ v, e = .returned v ∧ w'.ownsRow w.heap.size 3 1 v (runN (nds l)).length ((sorted (runN (nds l))).map (.int .i64)) ∧ Frm (fun _ => False) w w'

set_option maxRecDepth 100000 in
set_option maxHeartbeats 1000000 in
theorem run_any (b : Nat) (l : List (Nat × Nd)) (t : Int) (hh : Bool) (w : World) (h : BAt w b l t hh) (hm : l.length ≤ 1000) : Calls Try.prog 14 #[ptr b] w (RunPost l w) := by
  obtain ⟨A, cap, hO, _, hA⟩ := h.open_
  have c0 : w.cell? ⟨b, 0, none⟩ = some (.slice A l.length cap) := cell_at hO
  have HR := Lib.hid hA
  have HW := Lib.hid h
  have hnl := Lib.hid (nds_length l)
  clear hA h hO
  unfold ptr
  go_enter Try.func14, Try.ntmps14
  go_wp2_with fail
  go_loopw [3, 5, 11] (fun v _ i wr => ∃ k : Nat, k ≤ l.length ∧ i = .int .i64 k ∧ wr.ownsRow w.heap.size 3 1 v (runN ((nds l).take k)).length ((runN ((nds l).take k)).map (.int .i64)) ∧ Frm (fun _ => False) w wr) (fun _ _ i _ => l.length - (intOf i).toNat)
  case atStart => exact ⟨0, Nat.zero_le _, rfl, by simpa [runN] using World.ownsRow_nil _ _ _ _, Frm.refl _ _⟩
  case round =>
    obtain ⟨k, hk, rfl, hrow, hF⟩ := hrel
    have hml : (runN ((nds l).take k)).length ≤ k := by
      unfold runN
      rw [List.length_map]
      exact Nat.le_trans (List.length_filter_le _ _) (by simp; omega)
    by_cases hlt : k < l.length
    · obtain ⟨g, rfl, hck⟩ := HR.out k hlt
      obtain ⟨r0, _, r2, _, _⟩ := (HW.out.el k hlt).read
      have ck0 := hF.cell hck (fun h => h)
      have d0 := hF.cell r0 (fun h => h)
      have d4 := hF.cell r2 (fun h => h)
      have HTK : Hid ((nds l).take (k + 1) = (nds l).take k ++ [l[k].2]) := by
        unfold Hid
        rw [List.take_add_one, nds_get hlt]
        rfl
      clear hck r0 r2
      generalize l[k] = q at *
      obtain ⟨p, x⟩ := q
      simp only at ck0 d0 d4 HTK
      unfold ptr at ck0
      have hm5 : (runN ((nds l).take k)).length + 1 ≤ maxLen := by unfold maxLen; omega
      have hm6 : ((runN ((nds l).take k)).length + 1) * 8 ≤ 140737488355328 := by omega
      have hsz := hF.size
      have HROW := Lib.hid hrow
      have HF := Lib.hid hF
      clear hrow hF
      obtain ⟨xn, hxn⟩ : ∃ n, x.p.node = n := ⟨_, rfl⟩
      obtain ⟨xi, hxi⟩ : ∃ n, x.is = n := ⟨_, rfl⟩
      rw [hxn] at d0
      rw [hxi] at d4
      have HXN := Lib.hid hxn
      have HXI := Lib.hid hxi
      clear hxn hxi
      by_cases h1 : xi = 1
      · have b1 : (xi == 1) = true := by simpa using h1
        have HL : Hid (runN ((nds l).take (k + 1)) = runN ((nds l).take k) ++ [xn]) := by unfold Hid runN; rw [HTK.out, List.filter_append, List.map_append]; simp [HXI.out, HXN.out, h1]
        clear h1
        go_wp2_with (at_builtin; refine wpl_app rfl el_int (.tmp 20) (.tmp 26) rfl (e2 := 3) (fr := (0, 0)) (arr := #[.int .i64 xn]) rfl rfl (Frm.row (S := fun _ => False) (by (repeat' (first | (with_reducible exact Frm.refl _ _) | (with_reducible assumption) | (with_reducible refine Frm.alloc ?_ _) | (with_reducible refine Frm.drew ?_) | (with_reducible refine Frm.drewN ?_ _) | (with_reducible refine Frm.set1 ?_ _) | (with_reducible refine Frm.setCell ?_ ?_ _) | (exact fun h => absurd h (Nat.lt_irrefl _)) | (intro hlt; simp [World.size_alloc, One] at hlt ⊢; omega)))) HROW.out (fun _ _ h => h)) (heap_new_at (by simp)) rfl (by simp [Value.oneCell']) (by decide) hm5 hm6 (by simp; omega) ?_; intro g5 cap5 w5 hown5 hfr5 hat5 hlt5)
        go_roundw
        case rel =>
          refine ⟨k + 1, by omega, by go_num, ?_, ?_⟩
          · rw [HL.out, List.map_append, List.length_append]; exact hown5
          · refine Frm.trans (b := _) (HF.out.trans' (by (repeat' (first | (with_reducible exact Frm.refl _ _) | (with_reducible assumption) | (with_reducible refine Frm.alloc ?_ _) | (with_reducible refine Frm.drew ?_) | (with_reducible refine Frm.drewN ?_ _) | (with_reducible refine Frm.set1 ?_ _) | (with_reducible refine Frm.setCell ?_ ?_ _) | (exact fun h => absurd h (Nat.lt_irrefl _)) | (intro hlt; simp [World.size_alloc, One] at hlt ⊢; omega))))) hfr5 (fun j hj h => ?_)
            have := (row_block HROW.out h).1
            omega
        case measure => simp [intOf]; omega
      · have b1 : (xi == 1) = false := by simpa using h1
        have HL : Hid (runN ((nds l).take (k + 1)) = runN ((nds l).take k)) := by unfold Hid runN; rw [HTK.out, List.filter_append, List.map_append]; simp [HXI.out, h1]
        clear h1
        go_wp2_with fail
        go_roundw
        case rel => exact ⟨k + 1, by omega, by go_num, by rw [HL.out]; exact HROW.out, HF.out⟩
        case measure => simp [intOf]; omega
    · have hfull : runN ((nds l).take k) = runN (nds l) := by rw [List.take_of_length_le (by have := hnl.out; omega)]
      rw [hfull] at hrow hml
      have HROW := Lib.hid hrow
      have HF := Lib.hid hF
      clear hrow hF hfull
      go_wp2_with fail
      refine (sort_row _ _ _ _ _ HROW.out (by omega)).mono ?_
      rintro e w5 ⟨rfl, hr5, hF5⟩
      have HR5 := Lib.hid hr5
      have HF5 := Lib.hid (HF.out.trans hF5 (fun j hj h => by have := (row_block HROW.out h).1; omega))
      clear hr5 hF5
      go_wp2_with fail
      go_ret
      exact ⟨_, rfl, HR5.out, HF5.out⟩
end Go.Proofs.Ytjjmkpjclhielaa
