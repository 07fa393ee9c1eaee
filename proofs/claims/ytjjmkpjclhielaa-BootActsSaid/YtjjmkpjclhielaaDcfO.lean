/-
  Items in memory of their own; whether an item is written again.
-/
import Derived.Test.YtjjmkpjclhielaaDcfG
namespace Go.Proofs.Ytjjmkpjclhielaa
open Go.RowKit
set_option linter.unusedVariables false

def OwnPost (xs : List Itm) (w : World) (e : Ending) (w' : World) : Prop := Frm (fun _ => False) w w' ∧ ∃ v ys, e = .returned v ∧ ys.map bare = xs.map bare ∧ ItemsRow w.heap.size w' v ys

set_option maxRecDepth 100000 in
set_option maxHeartbeats 2000000 in
theorem own_any (v : Value) (xs : List Itm) (w : World) (h : ItemsAt w v xs) (hl : xs.length * 32 ≤ 140737488351232) (hb : ∀ x ∈ xs, x.2.2.2.length ≤ 140737488351232) :
    Calls Try.prog 28 #[v] w (OwnPost xs w) := by
  have HI := Lib.hid h
  obtain ⟨A, cap, rfl, _, ho⟩ := h.open_
  have HO := Lib.hid ho
  have HB := Lib.hid hb
  clear h ho hb
  go_enter Try.func28, Try.ntmps28
  go_wp2_with fail
  go_loopw [3, 4] (fun bv i wr => ∃ (k : Nat) (ys : List Itm), k ≤ xs.length ∧ i = .int .i64 k ∧ ys.length = k ∧ ys.map bare = (xs.take k).map bare ∧ ItemsRow w.heap.size wr bv ys ∧ Frm (fun _ => False) w wr) (fun _ i _ => xs.length - (intOf i).toNat)
  case atStart => exact ⟨0, [], Nat.zero_le _, rfl, rfl, by simp, ⟨row_new rfl rfl rfl (by decide) (Nat.le_refl _), fun x hx => by cases hx⟩, by (repeat' (first | (with_reducible exact Frm.refl _ _) | (with_reducible assumption) | (with_reducible refine Frm.alloc ?_ _) | (with_reducible refine Frm.drew ?_) | (with_reducible refine Frm.drewN ?_ _) | (with_reducible refine Frm.set1 ?_ _) | (with_reducible refine Frm.setCell ?_ ?_ _) | (exact fun h => absurd h (Nat.lt_irrefl _)) | (intro hlt; simp [World.size_alloc, One] at hlt ⊢; omega)))⟩
  case round =>
    obtain ⟨k, ys, hk, rfl, hyl, hyb, hY, hF⟩ := hrel
    by_cases hlt : k < xs.length
    · obtain ⟨g, off, Ab, cb, rfl, hxv, hml, c0, c1, c2⟩ := HO.out k hlt
      have d0 := hF.cell c0 (fun h => h)
      have d1 := hF.cell c1 (fun h => h)
      have d2 := hF.cell c2 (fun h => h)
      have hbk := HB.out _ (List.getElem_mem hlt)
      have hBA := HI.out.2 _ (List.getElem_mem hlt)
      rw [hxv] at hBA
      have hek := List.take_succ_eq_append_getElem hlt
      have HEK := Lib.hid hek
      clear c0 c1 c2 hxv hek
      generalize xs[k] = x at *
      obtain ⟨x0, x1, xv, xb⟩ := x
      simp only at d0 d1 d2 hml hbk hBA
      obtain ⟨A9, c9, e9, _, _, hnews⟩ := hBA.open_
      simp only [Value.slice.injEq] at e9
      obtain ⟨rfl, _, rfl⟩ := e9
      have HNEWS := Lib.hid hnews
      obtain ⟨Al, cl, rfl, g3, g4, _⟩ := row_open hY.1
      have HY := Lib.hid hY
      have HYB := Lib.hid hyb
      have HYL := Lib.hid hyl
      have HROW := Lib.hid hY.1
      have HF := Lib.hid hF
      have hsz := hF.size
      have hm1 : xb.length ≤ maxLen := by unfold maxLen; omega
      have hm2 : xb.length * 1 ≤ 140737488355328 := by omega
      have hm3 : ys.length + 1 ≤ maxLen := by unfold maxLen; omega
      have hm4 : (ys.length + 1) * 32 ≤ 140737488355328 := by omega
      have HLEN : Hid ((xb.map encB).length = xb.length * 1) := by unfold Hid; simp
      have HONEB := Lib.hid (oneB xb)
      have hempty : Hid (((wr.alloc (.cells #[.int .u16 x0, .int .u8 x1, .slice Ab xb.length cb] 72)).alloc (.cells #[] 5)).ownsRow w.heap.size 5 1 (.slice (some ⟨wr.heap.size + 1, 0, none⟩) 0 0) 0 []) := row_new (by simp) rfl rfl (by decide) (by simp; omega)
      clear hF hY hBA hnews hyb hyl hml
      go_upto_region 7 with (at_builtin; go_loud (refine wpl_clone rfl el_u8 (.tmp 17) (.tmp 19) rfl (B := w.heap.size) (news := xb.map encB) rfl rfl hempty.out HLEN.out (fun h0 => (HNEWS.out h0).grow (HF.out.trans' (by (repeat' (first | (with_reducible exact Frm.refl _ _) | (with_reducible assumption) | (with_reducible refine Frm.alloc ?_ _) | (with_reducible refine Frm.drew ?_) | (with_reducible refine Frm.drewN ?_ _) | (with_reducible refine Frm.set1 ?_ _) | (with_reducible refine Frm.setCell ?_ ?_ _) | (exact fun h => absurd h (Nat.lt_irrefl _)) | (intro hlt; simp [World.size_alloc, One] at hlt ⊢; omega)))))) HONEB.out hm1 hm2 (by simp; omega) ?_; intro A3 cap3 w3 hown3 hfr3; have hF3 : Frm (fun _ => False) wr w3 := (Frm.trans (b := _) (by (repeat' (first | (with_reducible exact Frm.refl _ _) | (with_reducible assumption) | (with_reducible refine Frm.alloc ?_ _) | (with_reducible refine Frm.drew ?_) | (with_reducible refine Frm.drewN ?_ _) | (with_reducible refine Frm.set1 ?_ _) | (with_reducible refine Frm.setCell ?_ ?_ _) | (exact fun h => absurd h (Nat.lt_irrefl _)) | (intro hlt; simp [World.size_alloc, One] at hlt ⊢; omega)))) hfr3 (fun i hi h => absurd (Option.some.inj h) (by simp only; omega))); have ht5 : w3.heap[wr.heap.size]? = some (.cells #[.int .u16 x0, .int .u8 x1, .slice Ab xb.length cb] 72 (0, 0)) := (hfr3.heap (heap_alloc_old (heap_new _ _)) (fun h => absurd (Option.some.inj h) (by simp only; omega))); have hft5 := frees ht5; have e0 := cell_at (o := 0) ht5; have e1 := cell_at (o := 1) ht5; have e2 := cell_at (o := 2) ht5))
      have HF3 := Lib.hid hF3
      have HO3 := Lib.hid hown3
      have hz3 := hF3.size
      have hlt5 := lt_of_block ht5
      have HT5 := Lib.hid ht5
      clear hfr3 hF3 hown3 ht5
      go_wp2_with (at_builtin; go_loud (refine wpl_app rfl el_Item (.tmp 22) (.tmp 24) rfl (B := w.heap.size) (e2 := 72) (fr := (0, 0)) (arr := #[.int .u16 x0, .int .u8 x1, .slice A3 xb.length cap3]) rfl rfl (Frm.row (S := fun _ => False) (w := wr) (by have hF3 := HF3.out; (repeat' (first | (with_reducible exact Frm.refl _ _) | (with_reducible assumption) | (with_reducible refine Frm.alloc ?_ _) | (with_reducible refine Frm.drew ?_) | (with_reducible refine Frm.drewN ?_ _) | (with_reducible refine Frm.set1 ?_ _) | (with_reducible refine Frm.setCell ?_ ?_ _) | (exact fun h => absurd h (Nat.lt_irrefl _)) | (intro hlt; simp [World.size_alloc, One] at hlt ⊢; omega)))) HROW.out (fun _ _ h => h)) (heap_new_at (by simp)) rfl (by simp [Value.oneCell']) (by decide) hm3 hm4 (by simp; omega) ?_; intro g5 cap5 w5 hown5 hfr5 hat5 hlt5))
      go_roundw
      case rel =>
        have hF3 := HF3.out
        have hno : ∀ q, q < w.heap.size → ¬ (Value.slice Al ys.length cl).ownBlock = some q := fun q hq hs => by
          have := (row_block HROW.out hs).1
          omega
        have hF3x : Frm (fun j => j = wr.heap.size) w3 (w3.setCell ⟨wr.heap.size, 2, none⟩ (.slice A3 xb.length cap3)) := (Frm.refl (fun j => j = wr.heap.size) w3).setCell (p := ⟨wr.heap.size, 2, none⟩) (fun _ => rfl) _
        have hO3x := Frm.row hF3x HO3.out (fun j hj e => by
          obtain ⟨_, cur, hc⟩ := row_block HO3.out hj
          rw [e] at hc
          exact block_ne hc HT5.out (by decide) rfl)
        refine ⟨k + 1, ys ++ [(x0, x1, .slice A3 xb.length cap3, xb)], by omega, by go_num, by simp [HYL.out], ?_, ?_, ?_⟩
        · rw [HEK.out, List.map_append, List.map_append, HYB.out]; rfl
        · refine ItemsRow.push (w := w3.setCell ⟨wr.heap.size, 2, none⟩ (.slice A3 xb.length cap3)) (HY.out.grow (by (repeat' (first | (with_reducible exact Frm.refl _ _) | (with_reducible assumption) | (with_reducible refine Frm.alloc ?_ _) | (with_reducible refine Frm.drew ?_) | (with_reducible refine Frm.drewN ?_ _) | (with_reducible refine Frm.set1 ?_ _) | (with_reducible refine Frm.setCell ?_ ?_ _) | (exact fun h => absurd h (Nat.lt_irrefl _)) | (intro hlt; simp [World.size_alloc, One] at hlt ⊢; omega))))) _ hO3x (Frm.trans (b := _) (by (repeat' (first | (with_reducible exact Frm.refl _ _) | (with_reducible assumption) | (with_reducible refine Frm.alloc ?_ _) | (with_reducible refine Frm.drew ?_) | (with_reducible refine Frm.drewN ?_ _) | (with_reducible refine Frm.set1 ?_ _) | (with_reducible refine Frm.setCell ?_ ?_ _) | (exact fun h => absurd h (Nat.lt_irrefl _)) | (intro hlt; simp [World.size_alloc, One] at hlt ⊢; omega)))) hfr5 (fun _ _ h => h)) rfl hown5
        · exact (HF.out.trans' (by (repeat' (first | (with_reducible exact Frm.refl _ _) | (with_reducible assumption) | (with_reducible refine Frm.alloc ?_ _) | (with_reducible refine Frm.drew ?_) | (with_reducible refine Frm.drewN ?_ _) | (with_reducible refine Frm.set1 ?_ _) | (with_reducible refine Frm.setCell ?_ ?_ _) | (exact fun h => absurd h (Nat.lt_irrefl _)) | (intro hlt; simp [World.size_alloc, One] at hlt ⊢; omega))))).trans hfr5 (fun i hi hs => hno i hi hs)
      case measure => simp [intOf]; omega
    · go_wp2_with fail
      go_ret
      refine ⟨hF, _, ys, rfl, ?_, hY⟩
      rw [hyb, List.take_of_length_le (by omega)]
end Go.Proofs.Ytjjmkpjclhielaa
