/-
  List.
-/
import Derived.Test.YtemjdmgfilbfaaaOdZ
namespace Go.Proofs.Ytemjdmgfilbfaaa
open Go.RowKit
set_option linter.unusedVariables false

theorem el_EntryL : El Try.prog 22 42 14 120 := El.of Try.underlying22 (z := .agg #[.int .u16 0, .int .u8 0, .int .i64 0, .bool false, .bool false, .int .i64 0, .int .u64 0, .string ⟨#[]⟩, .int .i64 0, .int .u64 0, .string ⟨#[]⟩, .int .i64 0, .int .u64 0, .string ⟨#[]⟩]) (by kernel_rfl) rfl (by decide)
def ListP (d : List Im) (w : World) (e : Ending) (w' : World) : Prop := ∃ v, e = .returned v ∧ w'.ownsRow w.heap.size 42 14 v d.length (cellsOf cellsE (d.map (·.1))) ∧ Frm (fun _ => False) w w'

set_option maxRecDepth 100000 in
set_option maxHeartbeats 2000000 in
theorem odList_any (b : Nat) (l : List (Nat × Im)) (w : World) (h : DAt w b l) (hlen : l.length ≤ 1024) : Calls Try.prog 20 #[ptr b] w (ListP (im l) w) := by
  obtain ⟨v, hO, hr⟩ := h.row
  have HEL := Lib.hid h.el
  obtain ⟨A, cap, rfl, h1, h2, h3⟩ := row_open hr
  have c0 : w.cell? ⟨b, 0, none⟩ = some (.slice A l.length cap) := cell_at hO
  have hcell : ∀ (k : Nat) (hk : k < l.length), ∃ g, A = some ⟨g, 0, none⟩ ∧ w.cell? ⟨g, k, none⟩ = some (ptr l[k].1) ∧ g < w.heap.size := fun k hk => by
    obtain ⟨g, e, _, ⟨cur, hc⟩, _, hcc⟩ := h3 (by omega)
    exact ⟨g, e, by rw [hcc k (by omega)]; simp [hk], lt_of_block hc⟩
  have HCE := Lib.hid hcell
  clear h hO hr h1 h2 h3 hcell
  unfold ptr at HCE
  unfold ptr ListP
  go_enter Try.func20, Try.ntmps20
  go_wp2_with fail
  clear c0
  go_loopw [3, 5, 11] (fun bv _ i wr => ∃ k : Nat, k ≤ l.length ∧ i = .int .i64 k ∧ wr.ownsRow w.heap.size 42 14 bv k (cellsOf cellsE ((l.take k).map (·.2.1))) ∧ Frm (fun _ => False) w wr) (fun _ _ i _ => l.length - (intOf i).toNat)
  case atStart => exact ⟨0, Nat.zero_le _, rfl, World.ownsRow_nil _ _ _ _, Frm.refl _ _⟩
  case round =>
    obtain ⟨k, hk, rfl, hO, hF⟩ := hrel
    by_cases hlt : k < l.length
    · obtain ⟨g, rfl, cg, hg⟩ := HCE.out k hlt
      have hm := List.getElem_mem hlt
      have hek : cellsOf cellsE ((l.take (k + 1)).map (·.2.1)) = cellsOf cellsE ((l.take k).map (·.2.1)) ++ cellsE l[k].2.1 := by
        rw [List.take_succ_eq_append_getElem hlt, List.map_append]
        unfold cellsOf
        rw [List.flatMap_append]
        simp
      have hi := hF.heap (HEL.out _ hm) (fun h => h)
      have HEK := Lib.hid hek
      have cg' := hF.cell cg (fun h => h)
      have hg' := Nat.lt_of_lt_of_le hg hF.size
      clear hek hm cg hg
      obtain ⟨rb, hrb⟩ : ∃ rb, rb = cellsOf cellsE ((l.take k).map (·.2.1)) := ⟨_, rfl⟩
      rw [← hrb] at hO HEK
      clear hrb
      generalize l[k].1 = p at *
      generalize l[k].2 = x at *
      have i0 : wr.cell? ⟨p, 0, none⟩ = some (.int .u16 x.1.idx) := cell_at hi
      have i1 : wr.cell? ⟨p, 1, none⟩ = some (.int .u8 x.1.sub) := cell_at hi
      have i2 : wr.cell? ⟨p, 2, none⟩ = some (.int .i64 x.1.acc) := cell_at hi
      have i3 : wr.cell? ⟨p, 3, none⟩ = some (.bool x.1.mp) := cell_at hi
      have i4 : wr.cell? ⟨p, 4, none⟩ = some (.bool x.1.lim) := cell_at hi
      have i5 : wr.cell? ⟨p, 5, none⟩ = some (.int .i64 x.1.mn.ty) := cell_at hi
      have i6 : wr.cell? ⟨p, 6, none⟩ = some (.int .u64 x.1.mn.n) := cell_at hi
      have i7 : wr.cell? ⟨p, 7, none⟩ = some (.string (strB2 x.1.mn.b)) := cell_at hi
      have i8 : wr.cell? ⟨p, 8, none⟩ = some (.int .i64 x.1.mx.ty) := cell_at hi
      have i9 : wr.cell? ⟨p, 9, none⟩ = some (.int .u64 x.1.mx.n) := cell_at hi
      have i10 : wr.cell? ⟨p, 10, none⟩ = some (.string (strB2 x.1.mx.b)) := cell_at hi
      have i11 : wr.cell? ⟨p, 11, none⟩ = some (.int .i64 x.1.df.ty) := cell_at hi
      have i12 : wr.cell? ⟨p, 12, none⟩ = some (.int .u64 x.1.df.n) := cell_at hi
      have i13 : wr.cell? ⟨p, 13, none⟩ = some (.string (strB2 x.1.df.b)) := cell_at hi
      obtain ⟨Al, cl, rfl, g3, g4, _⟩ := row_open hO
      have HO := Lib.hid hO
      have HF := Lib.hid hF
      have hsz := hF.size
      have hm1 : k + 1 ≤ maxLen := by unfold maxLen; omega
      have hm2 : (k + 1) * 120 ≤ 140737488355328 := by omega
      clear hi hO hF
      go_wp2_with (at_builtin; refine wpl_app rfl el_EntryL (.tmp 15) (.tmp 20) rfl (B := w.heap.size) (e2 := 42) (fr := (0, 0)) (m := 1) (arr := (cellsE x.1).toArray) rfl rfl (Frm.row (S := fun _ => False) (by (repeat' (first | (with_reducible exact Frm.refl _ _) | (with_reducible assumption) | (with_reducible refine Frm.alloc ?_ _) | (with_reducible refine Frm.drew ?_) | (with_reducible refine Frm.drewN ?_ _) | (with_reducible refine Frm.set1 ?_ _) | (with_reducible refine Frm.setCell ?_ ?_ _) | (exact fun h => absurd h (Nat.lt_irrefl _)) | (intro hlt; simp [World.size_alloc, One] at hlt ⊢; omega)))) HO.out (fun _ _ h => h)) (heap_new_at (by simp)) rfl (by simp [cellsE, Value.oneCell']) (by decide) hm1 hm2 (by simp; omega) ?_; intro g5 cap5 w5 hown5 hfr5 hat5 hlt5)
      have hF5 : Frm (fun _ => False) w w5 := HF.out.trans (Frm.trans (b := _) (by (repeat' (first | (with_reducible exact Frm.refl _ _) | (with_reducible assumption) | (with_reducible refine Frm.alloc ?_ _) | (with_reducible refine Frm.drew ?_) | (with_reducible refine Frm.drewN ?_ _) | (with_reducible refine Frm.set1 ?_ _) | (with_reducible refine Frm.setCell ?_ ?_ _) | (exact fun h => absurd h (Nat.lt_irrefl _)) | (intro hlt; simp [World.size_alloc, One] at hlt ⊢; omega)))) hfr5 (fun _ _ h => h)) (fun i hi hs => absurd (row_block HO.out hs).1 (by omega))
      go_roundw
      case rel => exact ⟨k + 1, by omega, by go_num, by rw [HEK.out]; exact hown5, hF5⟩
      case measure => simp [intOf]; omega
    · have hkn : k = l.length := by omega
      subst hkn
      rw [List.take_length] at hO
      go_wp2_with fail
      go_ret
      exact ⟨_, rfl, by simpa [im, List.map_map, Function.comp_def] using hO, hF⟩
end Go.Proofs.Ytemjdmgfilbfaaa
