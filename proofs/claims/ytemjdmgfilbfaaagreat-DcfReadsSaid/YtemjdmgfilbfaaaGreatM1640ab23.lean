/-
  The comparing of items, as the library's sort asks for it; the sort of a row of items. Ordered entries: plain. The program's dictionary in memory; New.
-/
import Derived.Sort.OwnSortedInts
import Derived.Test.YtemjdmgfilbfaaaGreatM4bdc22eb
import Derived.Test.YtemjdmgfilbfaaaGreatMc6bffdeb
set_option linter.unusedVariables false
set_option linter.unusedSimpArgs false
namespace Go.Proofs.YtemjdmgfilbfaaaGreat
open Go.RowKit Go.Sort
open List (getElem_toArray getElem_cons_zero getElem_cons_succ setIfInBounds_toArray set_cons_zero set_cons_succ)
set_option linter.unusedVariables false

/-- w' is w, some draws on, with some blocks behind it. -/
def Grew (w w' : World) : Prop := ∃ (q : Nat) (os : Array Obj), w' = grow (w.drewN q) os
theorem Grew.refl (w : World) : Grew w w := ⟨0, #[], by rw [grow_empty]; rfl⟩
theorem Grew.drewN {a w : World} (h : Grew a w) (n : Nat) : Grew a (w.drewN n) := by
  obtain ⟨q, os, rfl⟩ := h
  exact ⟨q + n, os, by simp only [grow, World.drewN, Nat.add_assoc]⟩
theorem Grew.drew {a w : World} (h : Grew a w) : Grew a w.drew := h.drewN 1
theorem Grew.alloc {a w : World} (h : Grew a w) (o : Obj) : Grew a (w.alloc o) := by
  obtain ⟨q, os, rfl⟩ := h
  exact ⟨q, os ++ #[o], by rw [alloc_eq_grow, grow_grow]⟩
theorem Grew.trans {a b c : World} (h : Grew a b) (k : Grew b c) : Grew a c := by
  obtain ⟨q, os, rfl⟩ := h
  obtain ⟨q', os', rfl⟩ := k
  exact ⟨q + q', os ++ os', by simp only [grow, World.drewN, Nat.add_assoc, Array.append_assoc]⟩
theorem Grew.frm {a b : World} (h : Grew a b) : Frm (fun _ => False) a b := by
  obtain ⟨q, os, rfl⟩ := h
  exact ⟨rfl, rfl, rfl, by simp [grow, World.drewN], fun k hk _ => by simp [grow, World.drewN, Array.getElem?_append, hk]⟩

/-- The place of an entry. -/
theorem odAt_grew (x : En) (w : World) : Calls Tryz.prog 57 #[valE x] w fun e w' => e = .returned (plV x.idx x.sub) ∧ Grew w w' := by
  obtain ⟨i, s, ac, mp, lm, ⟨at', an, ab⟩, ⟨bt, bn, bb⟩, ⟨dt, dn, db⟩⟩ := x
  unfold valE
  simp only
  go_enter Tryz.func57, Tryz.ntmps57
  go_wp2_with fail
  refine bodyPost_ret (v := plV i s) (by simp [results, Tryz.results57, go_sem]) rfl ⟨rfl, ((Grew.refl _).alloc _).alloc _⟩

set_option maxRecDepth 100000 in
set_option maxHeartbeats 2000000 in
theorem odOrder_grew (i s i' s' : Int) (w : World) : Calls Tryz.prog 58 #[plV i s, plV i' s'] w fun e w' => e = .returned (.int .i64 (ordP i s i' s')) ∧ Grew w w' := by
  have H1 := Lib.hid (fun W => cmpU16_any i i' W)
  have H2 := Lib.hid (fun W => cmpU8_any s s' W)
  have HO : Hid (ordP i s i' s' = if cmpI i i' ≠ 0 then cmpI i i' else cmpI s s') := rfl
  generalize ordP i s i' s' = r at *
  generalize cmpI i i' = a at *
  generalize cmpI s s' = b at *
  have H3 := Lib.hid (fun g W h => cmpOr_any a b g W h)
  rw [← HO.out] at H3
  clear HO
  go_enter Tryz.func58, Tryz.ntmps58
  go_wp2_with fail
  refine wp_region_held_drew (S := (fun w' => w'.cell? ⟨w.heap.size, 0, none⟩ = some (.int .u16 i) ∧ w'.cell? ⟨w.heap.size, 1, none⟩ = some (.int .u8 s) ∧ w'.cell? ⟨w.heap.size + 1, 0, none⟩ = some (.int .u16 i') ∧ w'.cell? ⟨w.heap.size + 1, 1, none⟩ = some (.int .u8 s'))) (by kernel_rfl) (⟨by go_simp, by go_simp, by go_simp, by go_simp⟩) (fun hHeld => ?_)
  refine wpAnyH_take (i := 0) (v := ?_) rfl (by kernel_rfl) (by kernel_rfl) (by kernel_rfl) (fun _ _ _ h => h) (Or.inl ⟨by rfl, ?_⟩) (by assumption) ?_; rotate_left; · (intro wq hSq; (try dsimp only at hSq); go_split_ands; go_simp; (try with_reducible rfl))
  try simp only [Act.put, getElem_toArray, getElem_cons_zero, getElem_cons_succ, setIfInBounds_toArray, set_cons_zero, set_cons_succ]
  refine wpAnyH_take (i := 1) (v := ?_) rfl (by kernel_rfl) (by kernel_rfl) (by kernel_rfl) (fun _ _ _ h => h) (Or.inl ⟨by rfl, ?_⟩) (by assumption) ?_; rotate_left; · (intro wq hSq; (try dsimp only at hSq); go_split_ands; go_simp; (try with_reducible rfl))
  try simp only [Act.put, getElem_toArray, getElem_cons_zero, getElem_cons_succ, setIfInBounds_toArray, set_cons_zero, set_cons_succ]
  refine wpAnyH_take (i := 2) (v := ?_) rfl (by kernel_rfl) (by kernel_rfl) (by kernel_rfl) (fun _ _ _ h => h) (Or.inl ⟨by rfl, ?_⟩) (by assumption) ?_; rotate_left; · (intro wq hSq; (try dsimp only at hSq); go_split_ands; go_simp; (try with_reducible rfl))
  try simp only [Act.put, getElem_toArray, getElem_cons_zero, getElem_cons_succ, setIfInBounds_toArray, set_cons_zero, set_cons_succ]
  refine wpAnyH_take (i := 3) (v := ?_) rfl (by kernel_rfl) (by kernel_rfl) (by kernel_rfl) (fun _ _ _ h => h) (Or.inl ⟨by rfl, ?_⟩) (by assumption) ?_; rotate_left; · (intro wq hSq; (try dsimp only at hSq); go_split_ands; go_simp; (try with_reducible rfl))
  try simp only [Act.put, getElem_toArray, getElem_cons_zero, getElem_cons_succ, setIfInBounds_toArray, set_cons_zero, set_cons_succ]
  refine wpAnyH_take (i := 5) (v := ?_) rfl (by kernel_rfl) (by kernel_rfl) (by kernel_rfl) (fun _ _ _ h => h) (Or.inl ⟨by rfl, ?_⟩) (by assumption) ?_; rotate_left; · (intro wq hSq; (try dsimp only at hSq); go_split_ands; go_simp; (try with_reducible rfl))
  try simp only [Act.put, getElem_toArray, getElem_cons_zero, getElem_cons_succ, setIfInBounds_toArray, set_cons_zero, set_cons_succ]
  refine wpAnyH_take (i := 6) (v := ?_) rfl (by kernel_rfl) (by kernel_rfl) (by kernel_rfl) (fun _ _ _ h => h) (Or.inl ⟨by rfl, ?_⟩) (by assumption) ?_; rotate_left; · (intro wq hSq; (try dsimp only at hSq); go_split_ands; go_simp; (try with_reducible rfl))
  try simp only [Act.put, getElem_toArray, getElem_cons_zero, getElem_cons_succ, setIfInBounds_toArray, set_cons_zero, set_cons_succ]
  refine wpAnyH_take (i := 7) (v := ?_) rfl (by kernel_rfl) (by kernel_rfl) (by kernel_rfl) (fun _ _ _ h => h) (Or.inl ⟨by rfl, ?_⟩) (by assumption) ?_; rotate_left; · (intro wq hSq; (try dsimp only at hSq); go_split_ands; go_simp; (try with_reducible rfl))
  try simp only [Act.put, getElem_toArray, getElem_cons_zero, getElem_cons_succ, setIfInBounds_toArray, set_cons_zero, set_cons_succ]
  refine wpAnyH_take (i := 8) (v := ?_) rfl (by kernel_rfl) (by kernel_rfl) (by kernel_rfl) (fun _ _ _ h => h) (Or.inl ⟨by rfl, ?_⟩) (by assumption) ?_; rotate_left; · (intro wq hSq; (try dsimp only at hSq); go_split_ands; go_simp; (try with_reducible rfl))
  try simp only [Act.put, getElem_toArray, getElem_cons_zero, getElem_cons_succ, setIfInBounds_toArray, set_cons_zero, set_cons_succ]
  refine wpAnyH_ready (rs := [4]) (by kernel_rfl) (by simp) ?_
  refine AllReadyH.cons rfl (fun K hK => ?_) AllReadyH.nil
  try simp only [getElem_toArray, getElem_cons_zero, getElem_cons_succ]
  go_simp
  refine (H1.out _).mono ?_
  rintro e w1 ⟨rfl, rfl⟩
  go_wp2_with fail
  refine hK.out _ _ (by assumption) (fun hHeld => ?_)
  clear hK K
  try simp only [Act.put, setIfInBounds_toArray, set_cons_zero, set_cons_succ]
  refine wpAnyH_ready (rs := [9]) (by kernel_rfl) (by simp) ?_
  refine AllReadyH.cons rfl (fun K hK => ?_) AllReadyH.nil
  try simp only [getElem_toArray, getElem_cons_zero, getElem_cons_succ]
  go_simp
  refine (H2.out _).mono ?_
  rintro e w1 ⟨rfl, rfl⟩
  go_wp2_with fail
  refine hK.out _ _ (by assumption) (fun hHeld => ?_)
  clear hK K
  try simp only [Act.put, setIfInBounds_toArray, set_cons_zero, set_cons_succ]
  refine wpAnyH_ready (rs := [10]) (by kernel_rfl) (by simp) ?_
  refine AllReadyH.cons rfl (fun K hK => ?_) AllReadyH.nil
  try simp only [getElem_toArray, getElem_cons_zero, getElem_cons_succ]
  go_simp
  refine hK.out _ _ (⟨by go_simp, by go_simp, by go_simp, by go_simp⟩) (fun hHeld => ?_)
  clear hK K
  try simp only [Act.put, setIfInBounds_toArray, set_cons_zero, set_cons_succ]
  refine wpAnyH_ready (rs := [11]) (by kernel_rfl) (by simp) ?_
  refine AllReadyH.cons rfl (fun K hK => ?_) AllReadyH.nil
  try simp only [getElem_toArray, getElem_cons_zero, getElem_cons_succ]
  go_simp
  refine (H3.out (w.heap.size + 2) _ (heap_drew' (heap_new_at (by simp)))).mono ?_
  rintro e w1 ⟨rfl, rfl⟩
  go_wp2_with fail
  refine hK.out _ _ (by assumption) (fun hHeld => ?_)
  clear hK K
  try simp only [Act.put, setIfInBounds_toArray, set_cons_zero, set_cons_succ]
  refine wpAnyH_take (i := 12) (v := ?_) rfl (by kernel_rfl) (by kernel_rfl) (by kernel_rfl) (fun _ _ _ h => h) (Or.inl ⟨by rfl, ?_⟩) (by assumption) ?_; rotate_left; · (intro wq hSq; (try dsimp only at hSq); go_split_ands; go_simp; (try with_reducible rfl))
  try simp only [Act.put, getElem_toArray, getElem_cons_zero, getElem_cons_succ, setIfInBounds_toArray, set_cons_zero, set_cons_succ]
  refine wpAnyH_done (by kernel_rfl) ?_ _
  go_wp2_with fail
  go_ret
  exact ⟨rfl, ((((Grew.refl _).alloc _).alloc _).alloc _).drew⟩

set_option maxRecDepth 100000 in
set_option maxHeartbeats 2000000 in
theorem odNew1_grew (p q : Nat) (x y : Im) (w : World) (hx : ItAt w p x) (hy : ItAt w q y) : Calls Tryz.prog 56 #[ptr p, ptr q] w fun e w' => e = .returned (.int .i64 (ordP x.1.idx x.1.sub y.1.idx y.1.sub)) ∧ Grew w w' := by
  have H1 := Lib.hid (fun W => odAt_grew x.1 W)
  have H2 := Lib.hid (fun W => odAt_grew y.1 W)
  have H3 := Lib.hid (fun W => odOrder_grew x.1.idx x.1.sub y.1.idx y.1.sub W)
  obtain ⟨⟨i, s, ac, mp, lm, ⟨at', an, ab⟩, ⟨bt, bn, bb⟩, ⟨dt, dn, db⟩⟩, vx⟩ := x
  obtain ⟨⟨i', s', ac', mp', lm', ⟨at'', an', ab'⟩, ⟨bt', bn', bb'⟩, ⟨dt', dn', db'⟩⟩, vy⟩ := y
  unfold ItAt cellsI cellsE at hx hy
  unfold valE at H1 H2
  unfold plV at H1 H2 H3
  unfold ptr
  simp only at *
  generalize ordP i s i' s' = r at *
  generalize strB2 ab = ab at *
  generalize strB2 bb = bb at *
  generalize strB2 db = db at *
  generalize strB2 ab' = ab' at *
  generalize strB2 bb' = bb' at *
  generalize strB2 db' = db' at *
  have hc : ∀ W, Frm (fun _ => False) w W → (W.cell? ⟨p, 0, none⟩ = some (.int .u16 i) ∧ W.cell? ⟨p, 1, none⟩ = some (.int .u8 s) ∧ W.cell? ⟨p, 2, none⟩ = some (.int .i64 ac) ∧ W.cell? ⟨p, 3, none⟩ = some (.bool mp) ∧ W.cell? ⟨p, 4, none⟩ = some (.bool lm) ∧ W.cell? ⟨p, 5, none⟩ = some (.int .i64 at') ∧ W.cell? ⟨p, 6, none⟩ = some (.int .u64 an) ∧ W.cell? ⟨p, 7, none⟩ = some (.string ab) ∧ W.cell? ⟨p, 8, none⟩ = some (.int .i64 bt) ∧ W.cell? ⟨p, 9, none⟩ = some (.int .u64 bn) ∧ W.cell? ⟨p, 10, none⟩ = some (.string bb) ∧ W.cell? ⟨p, 11, none⟩ = some (.int .i64 dt) ∧ W.cell? ⟨p, 12, none⟩ = some (.int .u64 dn) ∧ W.cell? ⟨p, 13, none⟩ = some (.string db)) ∧
      (W.cell? ⟨q, 0, none⟩ = some (.int .u16 i') ∧ W.cell? ⟨q, 1, none⟩ = some (.int .u8 s') ∧ W.cell? ⟨q, 2, none⟩ = some (.int .i64 ac') ∧ W.cell? ⟨q, 3, none⟩ = some (.bool mp') ∧ W.cell? ⟨q, 4, none⟩ = some (.bool lm') ∧ W.cell? ⟨q, 5, none⟩ = some (.int .i64 at'') ∧ W.cell? ⟨q, 6, none⟩ = some (.int .u64 an') ∧ W.cell? ⟨q, 7, none⟩ = some (.string ab') ∧ W.cell? ⟨q, 8, none⟩ = some (.int .i64 bt') ∧ W.cell? ⟨q, 9, none⟩ = some (.int .u64 bn') ∧ W.cell? ⟨q, 10, none⟩ = some (.string bb') ∧ W.cell? ⟨q, 11, none⟩ = some (.int .i64 dt') ∧ W.cell? ⟨q, 12, none⟩ = some (.int .u64 dn') ∧ W.cell? ⟨q, 13, none⟩ = some (.string db')) := fun W hF => by
    have kx := hF.heap hx (fun h => h)
    have ky := hF.heap hy (fun h => h)
    exact ⟨⟨cell_at kx, cell_at kx, cell_at kx, cell_at kx, cell_at kx, cell_at kx, cell_at kx, cell_at kx, cell_at kx, cell_at kx, cell_at kx, cell_at kx, cell_at kx, cell_at kx⟩, ⟨cell_at ky, cell_at ky, cell_at ky, cell_at ky, cell_at ky, cell_at ky, cell_at ky, cell_at ky, cell_at ky, cell_at ky, cell_at ky, cell_at ky, cell_at ky, cell_at ky⟩⟩
  have HCC := Lib.hid hc
  clear hx hy hc
  go_enter Tryz.func56, Tryz.ntmps56
  go_wp2_with fail
  refine wp_region_held_drew (S := fun W => Grew w W) (by kernel_rfl) ((Grew.refl _).drew) (fun hHeld => ?_)
  refine wpAnyH_take (i := 0) (v := ?_) rfl (by kernel_rfl) (by kernel_rfl) (by kernel_rfl) (fun _ _ _ h => h) (Or.inl ⟨by rfl, ?_⟩) (by assumption) ?_; rotate_left; · (intro wq hSq; have hq := HCC.out wq (Grew.frm hSq); go_split_ands; go_simp; (try with_reducible rfl))
  try simp only [Act.put, getElem_toArray, getElem_cons_zero, getElem_cons_succ, setIfInBounds_toArray, set_cons_zero, set_cons_succ]
  refine wpAnyH_take (i := 1) (v := ?_) rfl (by kernel_rfl) (by kernel_rfl) (by kernel_rfl) (fun _ _ _ h => h) (Or.inl ⟨by rfl, ?_⟩) (by assumption) ?_; rotate_left; · (intro wq hSq; have hq := HCC.out wq (Grew.frm hSq); go_split_ands; go_simp; (try with_reducible rfl))
  try simp only [Act.put, getElem_toArray, getElem_cons_zero, getElem_cons_succ, setIfInBounds_toArray, set_cons_zero, set_cons_succ]
  refine wpAnyH_take (i := 2) (v := ?_) rfl (by kernel_rfl) (by kernel_rfl) (by kernel_rfl) (fun _ _ _ h => h) (Or.inl ⟨by rfl, ?_⟩) (by assumption) ?_; rotate_left; · (intro wq hSq; have hq := HCC.out wq (Grew.frm hSq); go_split_ands; go_simp; (try with_reducible rfl))
  try simp only [Act.put, getElem_toArray, getElem_cons_zero, getElem_cons_succ, setIfInBounds_toArray, set_cons_zero, set_cons_succ]
  refine wpAnyH_take (i := 3) (v := ?_) rfl (by kernel_rfl) (by kernel_rfl) (by kernel_rfl) (fun _ _ _ h => h) (Or.inl ⟨by rfl, ?_⟩) (by assumption) ?_; rotate_left; · (intro wq hSq; have hq := HCC.out wq (Grew.frm hSq); go_split_ands; go_simp; (try with_reducible rfl))
  try simp only [Act.put, getElem_toArray, getElem_cons_zero, getElem_cons_succ, setIfInBounds_toArray, set_cons_zero, set_cons_succ]
  refine wpAnyH_take (i := 5) (v := ?_) rfl (by kernel_rfl) (by kernel_rfl) (by kernel_rfl) (fun _ _ _ h => h) (Or.inl ⟨by rfl, ?_⟩) (by assumption) ?_; rotate_left; · (intro wq hSq; have hq := HCC.out wq (Grew.frm hSq); go_split_ands; go_simp; (try with_reducible rfl))
  try simp only [Act.put, getElem_toArray, getElem_cons_zero, getElem_cons_succ, setIfInBounds_toArray, set_cons_zero, set_cons_succ]
  refine wpAnyH_take (i := 6) (v := ?_) rfl (by kernel_rfl) (by kernel_rfl) (by kernel_rfl) (fun _ _ _ h => h) (Or.inl ⟨by rfl, ?_⟩) (by assumption) ?_; rotate_left; · (intro wq hSq; have hq := HCC.out wq (Grew.frm hSq); go_split_ands; go_simp; (try with_reducible rfl))
  try simp only [Act.put, getElem_toArray, getElem_cons_zero, getElem_cons_succ, setIfInBounds_toArray, set_cons_zero, set_cons_succ]
  refine wpAnyH_take (i := 7) (v := ?_) rfl (by kernel_rfl) (by kernel_rfl) (by kernel_rfl) (fun _ _ _ h => h) (Or.inl ⟨by rfl, ?_⟩) (by assumption) ?_; rotate_left; · (intro wq hSq; have hq := HCC.out wq (Grew.frm hSq); go_split_ands; go_simp; (try with_reducible rfl))
  try simp only [Act.put, getElem_toArray, getElem_cons_zero, getElem_cons_succ, setIfInBounds_toArray, set_cons_zero, set_cons_succ]
  refine wpAnyH_take (i := 8) (v := ?_) rfl (by kernel_rfl) (by kernel_rfl) (by kernel_rfl) (fun _ _ _ h => h) (Or.inl ⟨by rfl, ?_⟩) (by assumption) ?_; rotate_left; · (intro wq hSq; have hq := HCC.out wq (Grew.frm hSq); go_split_ands; go_simp; (try with_reducible rfl))
  try simp only [Act.put, getElem_toArray, getElem_cons_zero, getElem_cons_succ, setIfInBounds_toArray, set_cons_zero, set_cons_succ]
  refine wpAnyH_ready (rs := [4]) (by kernel_rfl) (by simp) ?_
  refine AllReadyH.cons rfl (fun K hK => ?_) AllReadyH.nil
  try simp only [getElem_toArray, getElem_cons_zero, getElem_cons_succ]
  go_simp
  refine (H1.out _).mono ?_
  rintro e w1 ⟨rfl, hF1⟩
  go_wp2_with fail
  refine hK.out _ _ (hHeld.trans hF1) (fun hHeld => ?_)
  clear hK K
  try simp only [Act.put, setIfInBounds_toArray, set_cons_zero, set_cons_succ]
  refine wpAnyH_ready (rs := [9]) (by kernel_rfl) (by simp) ?_
  refine AllReadyH.cons rfl (fun K hK => ?_) AllReadyH.nil
  try simp only [getElem_toArray, getElem_cons_zero, getElem_cons_succ]
  go_simp
  refine (H2.out _).mono ?_
  rintro e w2 ⟨rfl, hF2⟩
  go_wp2_with fail
  refine hK.out _ _ (hHeld.trans hF2) (fun hHeld => ?_)
  clear hK K
  try simp only [Act.put, setIfInBounds_toArray, set_cons_zero, set_cons_succ]
  refine wpAnyH_ready (rs := [10]) (by kernel_rfl) (by simp) ?_
  refine AllReadyH.cons rfl (fun K hK => ?_) AllReadyH.nil
  try simp only [getElem_toArray, getElem_cons_zero, getElem_cons_succ]
  go_simp
  refine (H3.out _).mono ?_
  rintro e w3 ⟨rfl, hF3⟩
  go_wp2_with fail
  refine hK.out _ _ (hHeld.trans hF3) (fun hHeld => ?_)
  clear hK K
  try simp only [Act.put, setIfInBounds_toArray, set_cons_zero, set_cons_succ]
  refine wpAnyH_take (i := 11) (v := ?_) rfl (by kernel_rfl) (by kernel_rfl) (by kernel_rfl) (fun _ _ _ h => h) (Or.inl ⟨by rfl, ?_⟩) (by assumption) ?_; rotate_left; · (intro wq hSq; have hq := HCC.out wq (Grew.frm hSq); go_split_ands; go_simp; (try with_reducible rfl))
  try simp only [Act.put, getElem_toArray, getElem_cons_zero, getElem_cons_succ, setIfInBounds_toArray, set_cons_zero, set_cons_succ]
  refine wpAnyH_done (by kernel_rfl) ?_ _
  go_wp2_with fail
  go_ret
  exact ⟨rfl, hHeld⟩

theorem sortW_other {α : Type} [Inhabited α] {enc : α → Value} {w : World} {g m : Nat} {dk : Array α} {os : Array Obj} {k : Nat} {o : Obj} (hk : w.heap[k]? = some o) (hne : k ≠ g) : (sortWorld enc w g 0 m dk os).heap[k]? = some o := by
  have hl := lt_of_block hk
  unfold sortWorld
  rw [heap_grow_old _ _ (by simpa [putRow, mapBlock, Sort.ahead] using hl)]
  have : g ≠ k := fun e => hne e.symm
  simpa [putRow, mapBlock, Sort.ahead, Array.getElem?_modify, this] using hk
theorem sortW_row {α : Type} [Inhabited α] {enc : α → Value} {w : World} {g m : Nat} {dk : Array α} {os : Array Obj} {cur : Array Value} {e : TypeId} {fr : Nat × Nat} (hb : w.heap[g]? = some (.cells cur e fr)) :
    (sortWorld enc w g 0 m dk os).heap[g]? = some (.cells (putCells enc 0 dk cur) e fr) := by
  have hl := lt_of_block hb
  unfold sortWorld
  rw [heap_grow_old _ _ (by simpa [putRow, mapBlock, Sort.ahead] using hl)]
  simp [putRow, mapBlock, Sort.ahead, Array.getElem?_modify, hb, onCells]
theorem take_put {α : Type} [Inhabited α] {enc : α → Value} (cur : Array Value) (d : Array α) (h : d.size ≤ cur.size) : (putCells enc 0 d cur).toList.take d.size = d.toList.map enc := by
  apply List.ext_getElem?
  intro j
  by_cases hj : j < d.size
  · rw [List.getElem?_take_of_lt hj, Array.getElem?_toList]
    simp [putCells, hj, show j < cur.size by omega]
  · rw [List.getElem?_take_eq_none (by omega), List.getElem?_eq_none (by simp; omega)]
theorem sortW_frm {α : Type} [Inhabited α] {enc : α → Value} {w : World} {g m : Nat} {dk : Array α} {os : Array Obj} : Frm (One g) w (sortWorld enc w g 0 m dk os) := by
  refine ⟨rfl, rfl, rfl, by simp [sortWorld, putRow, mapBlock, Sort.ahead], fun k hk hn => ?_⟩
  unfold sortWorld
  rw [heap_grow_old _ _ (by simpa [putRow, mapBlock, Sort.ahead] using hk)]
  have : g ≠ k := fun e => hn (by rw [e]; rfl)
  simp [putRow, mapBlock, Sort.ahead, Array.getElem?_modify, this]

theorem cmpI_neg {a b : Int} : cmpI a b < 0 ↔ a < b := by
  unfold cmpI
  split
  · simp; omega
  · split
    · simp; omega
    · simp; omega
/-- An item's place, as a number. -/
def plI (q : Nat × Im) : Int := plE q.2.1
def SortP (B : Nat) (v : Value) (n : Nat) (l : List (Nat × Im)) (w : World) (e : Ending) (w' : World) : Prop :=
  e = .returned (.tuple #[]) ∧ ∃ l' : List (Nat × Im), l'.Perm l ∧ l'.Pairwise (fun a b => plI a ≤ plI b) ∧ w'.ownsRow B 98 1 v n (l'.map fun q => ptr q.1) ∧ Frm (fun k => v.ownBlock = some k) w w'

set_option maxRecDepth 100000 in
set_option maxHeartbeats 2000000 in
theorem sort_items (v : Value) (n B : Nat) (l : List (Nat × Im)) (w : World) (h : w.ownsRow B 98 1 v n (l.map fun q => ptr q.1)) (hit : ∀ q ∈ l, ItAt w q.1 q.2) (hok : ∀ q ∈ l, q.2.1.ok) (hnd : (l.map plI).Nodup) (hn : n ≤ 1024) :
    Calls Tryz.prog 55 #[v, .func (.func 56) #[] #[]] w (SortP B v n l w) := by
  have hl : l.length = n := by have := h.1; simpa using this
  rcases h.2 with ⟨rfl, h0⟩ | ⟨g, cap, cur, rfl, hg, hh, hc, hm, hs, ht⟩
  · obtain rfl : l = [] := by
      subst h0
      exact List.eq_nil_of_length_eq_zero hl
    refine (AnyF.slices_SortFunc_none (P := Tryz.prog) (ρ := Tryz.sortI_ren) { Tryz.sortI with } none 0 _ w).mono ?_
    rintro e w' ⟨rfl, rfl⟩
    exact ⟨rfl, [], List.Perm.refl _, List.Pairwise.nil, h, Frm.refl _ _⟩
  · subst hl
    rcases Nat.eq_zero_or_pos l.length with hl0 | hl0
    · obtain rfl : l = [] := List.eq_nil_of_length_eq_zero hl0
      refine (AnyF.slices_SortFunc_none (P := Tryz.prog) (ρ := Tryz.sortI_ren) { Tryz.sortI with } (some ⟨g, 0, none⟩) cap _ w).mono ?_
      rintro e w' ⟨rfl, rfl⟩
      exact ⟨rfl, [], List.Perm.refl _, List.Pairwise.nil, by simpa using h, Frm.refl _ _⟩
    · let enc : Fin l.length → Value := fun i => ptr l[i].1
      let cf : Fin l.length → Fin l.length → Int := fun i j => ordP l[i].2.1.idx l[i].2.1.sub l[j].2.1.idx l[j].2.1.sub
      letI : Inhabited (Fin l.length) := ⟨⟨0, by omega⟩⟩
      let d : Array (Fin l.length) := Array.ofFn fun i => i
      have hds : d.size = l.length := Array.size_ofFn
      have hlt : ∀ x y, ltOf cf x y = decide (plI l[x] < plI l[y]) := fun x y => by
        have ox := hok _ (List.getElem_mem x.2)
        have oy := hok _ (List.getElem_mem y.2)
        show decide (ordP (l[x.1]'x.2).2.1.idx (l[x.1]'x.2).2.1.sub (l[y.1]'y.2).2.1.idx (l[y.1]'y.2).2.1.sub < 0) = decide (plI (l[x.1]'x.2) < plI (l[y.1]'y.2))
        rw [ordP_eq ⟨ox.2.2.1, ox.2.2.2.1⟩ ⟨oy.2.2.1, oy.2.2.2.1⟩]
        exact decide_eq_decide.2 cmpI_neg
      have hO : SWO (ltOf cf) := ⟨fun x => by rw [hlt]; simp, fun x y z h1 h2 => by rw [hlt] at *; simp at *; omega, fun x y z h1 h2 => by rw [hlt] at *; simp at *; omega⟩
      have hT : ∀ x y, (ltOf cf) x y = false → (ltOf cf) y x = false → x = y := fun x y h1 h2 => by
        rw [hlt] at h1 h2
        simp only [decide_eq_false_iff_not, Int.not_lt] at h1 h2
        have := nodup_at hnd (i := x) (k := y) (by simp) (by simp) (by simp only [List.getElem_map]; exact Int.le_antisymm h2 h1)
        exact Fin.ext this
      have hdj : ∀ j (hj : j < l.length), d[j]! = ⟨j, hj⟩ := fun j hj => by
        rw [getElem!_pos d j (by rw [hds]; exact hj)]
        simp [d]
      have hH : Holds enc w g 0 d := fun j hj => by
        have hj' : j < l.length := by rw [← hds]; exact hj
        rw [Nat.zero_add, hdj j hj']
        refine ⟨?_, free_at hh⟩
        rw [h.cellAt j (by omega)]
        simp [enc, hj']
      have hcmp : CmpLays1 Tryz.prog 56 #[] enc cf g 0 d.size w := fun m os dk hdk x y => by
        have i1 : ItAt (sortWorld enc w g 0 m dk os) l[x].1 l[x].2 := sortW_other (hit _ (List.getElem_mem x.2)) (block_ne (hit _ (List.getElem_mem x.2)) hh (by decide))
        have i2 : ItAt (sortWorld enc w g 0 m dk os) l[y].1 l[y].2 := sortW_other (hit _ (List.getElem_mem y.2)) (block_ne (hit _ (List.getElem_mem y.2)) hh (by decide))
        exact odNew1_grew l[x].1 l[y].1 l[x].2 l[y].2 _ i1 i2
      have hcon := Any.slices_SortFunc_total (P := Tryz.prog) (ρ := Tryz.sortI_ren) Tryz.sortI enc (fun _ => rfl) cf hO 56 #[] g 0 cap d w (enters_of Tryz.func56 (by kernel_rfl) rfl) hcmp hH (lt_of_block hh) (by rw [hds]; omega) hT
      rw [hds] at hcon
      refine hcon.mono ?_
      rintro e w' ⟨rfl, k, os, rfl⟩
      generalize hms : (d.toList.mergeSort fun x y => !(ltOf cf) y x) = ms at *
      have hperm : ms.Perm d.toList := by rw [← hms]; exact List.mergeSort_perm _ _
      have hpw : ms.Pairwise (fun a b => plI l[a] ≤ plI l[b]) := by
        rw [← hms]
        refine (List.pairwise_mergeSort (le := fun x y => !(ltOf cf) y x) (fun a b c h1 h2 => ?_) (fun a b => ?_) d.toList).imp (fun {a b} h => ?_)
        · simp only [hlt, Bool.not_eq_true', decide_eq_false_iff_not, Int.not_lt] at *; omega
        · simp only [hlt, Bool.or_eq_true, Bool.not_eq_true', decide_eq_false_iff_not, Int.not_lt]; omega
        · simp only [hlt, Bool.not_eq_true', decide_eq_false_iff_not, Int.not_lt] at h; exact h
      have hdl : d.toList.map (fun i => l[i]) = l := by
        apply List.ext_getElem
        · simp [d]
        · intro i h1 h2
          simp [d]
      have hml : ms.length = l.length := by rw [hperm.length_eq]; simp [d]
      have hrow := sortW_row (enc := enc) (m := k) (dk := ms.toArray) (os := os) hh
      have htk := take_put (enc := enc) cur ms.toArray (by simp; omega)
      simp only [List.size_toArray, hml] at htk
      refine ⟨rfl, ms.map (fun i => l[i]), ?_, ?_, ?_, ?_⟩
      · have := hperm.map (fun i => l[i])
        rwa [hdl] at this
      · rw [List.pairwise_map]
        exact hpw
      · refine ⟨by simp [hml], .inr ⟨g, cap, _, rfl, hg, hrow, hc, hm, by simp [putCells]; omega, ?_⟩⟩
        rw [Nat.mul_one, htk, List.map_map]
        rfl
      · refine sortW_frm.mono (fun i _ e => ?_)
        have e : i = g := e
        rw [e]; rfl
end Go.Proofs.YtemjdmgfilbfaaaGreat
namespace Go.Proofs.YtemjdmgfilbfaaaGreat
set_option linter.unusedVariables false

theorem insE_perm (x : En) (l : List En) : (insE x l).Perm (x :: l) := by
  induction l with
  | nil => exact List.Perm.refl _
  | cons y r ih =>
    unfold insE
    split
    · exact (ih.cons y).trans (List.Perm.swap x y r)
    · exact List.Perm.refl _
def Srt (l : List En) : Prop := l.Pairwise fun a b => plE a ≤ plE b
theorem insE_srt (x : En) (l : List En) (h : Srt l) : Srt (insE x l) := by
  unfold Srt at *
  induction l with
  | nil => simp [insE]
  | cons y r ih =>
    rw [List.pairwise_cons] at h
    unfold insE
    split
    · rename_i hlt
      rw [List.pairwise_cons]
      refine ⟨fun b hb => ?_, ih h.2⟩
      rcases List.mem_cons.1 ((insE_perm x r).mem_iff.1 hb) with rfl | hb
      · exact Int.le_of_lt hlt
      · exact h.1 b hb
    · rename_i hlt
      rw [List.pairwise_cons, List.pairwise_cons]
      refine ⟨fun b hb => ?_, h⟩
      rcases List.mem_cons.1 hb with rfl | hb
      · exact Int.not_lt.1 hlt
      · exact Int.le_trans (Int.not_lt.1 hlt) (h.1 b hb)
theorem foldE (l d : List En) : (l.foldl (fun d x => insE x d) d).Perm (d ++ l) := by
  induction l generalizing d with
  | nil => simp
  | cons x r ih =>
    rw [List.foldl_cons]
    refine (ih (insE x d)).trans ?_
    exact ((insE_perm x d).append_right r).trans (by simpa using (List.perm_middle (a := x) (l₁ := d) (l₂ := r)).symm)
theorem foldS (l d : List En) (h : Srt d) : Srt (l.foldl (fun d x => insE x d) d) := by
  induction l generalizing d with
  | nil => exact h
  | cons x r ih => exact ih _ (insE_srt x d h)
theorem sortE_perm (l : List En) : (sortE l).Perm l := by simpa [sortE] using foldE l []
theorem sortE_srt (l : List En) : Srt (sortE l) := foldS l [] List.Pairwise.nil

theorem chk_facts {l : List En} {seen : List Int} (h : chkE seen l = 0) : (∀ x ∈ l, entryE x = 0) ∧ (l.map plE).Nodup ∧ ∀ x ∈ l, plE x ∉ seen := by
  induction l generalizing seen with
  | nil => simp
  | cons x r ih =>
    unfold chkE at h
    split at h
    · exact absurd h (by assumption)
    · rename_i h1
      split at h
      · exact absurd h (by decide)
      · rename_i h2
        obtain ⟨i1, i2, i3⟩ := ih h
        refine ⟨fun y hy => ?_, ?_, fun y hy => ?_⟩
        · rcases List.mem_cons.1 hy with rfl | hy
          · exact Decidable.not_not.1 h1
          · exact i1 y hy
        · rw [List.map_cons, List.nodup_cons]
          refine ⟨fun hm => ?_, i2⟩
          obtain ⟨y, hy, e⟩ := List.mem_map.1 hm
          exact i3 y hy (by simp [e])
        · rcases List.mem_cons.1 hy with rfl | hy
          · exact h2
          · exact fun hm => i3 y hy (List.mem_append_left _ hm)
theorem check_facts {l : List En} (h : checkE l = 0) : l.length ≤ 1024 ∧ (∀ x ∈ l, entryE x = 0) ∧ (l.map plE).Nodup := by
  unfold checkE at h
  split at h
  · exact absurd h (by decide)
  · rename_i h1
    obtain ⟨a, b, _⟩ := chk_facts h
    exact ⟨by omega, a, b⟩
theorem nodup_of_map {α β : Type} {f : α → β} {l : List α} (h : (l.map f).Nodup) {x y : α} (hx : x ∈ l) (hy : y ∈ l) (e : f x = f y) : x = y := by
  induction l with
  | nil => cases hx
  | cons a r ih =>
    rw [List.map_cons, List.nodup_cons] at h
    rcases List.mem_cons.1 hx with rfl | hx
    · rcases List.mem_cons.1 hy with rfl | hy
      · rfl
      · exact absurd (List.mem_map.2 ⟨y, hy, e.symm⟩) h.1
    · rcases List.mem_cons.1 hy with e2 | hy
      · exact absurd (List.mem_map.2 ⟨x, hx, by rw [e, e2]⟩) h.1
      · exact ih h.2 hx hy
theorem newI_eq (l : List En) : l.map newI = (l.map plainE).map fun x => (x, x.df) := by
  rw [List.map_map]
  rfl
theorem plE_plain (x : En) : plE (plainE x) = plE x := rfl
theorem newD_perm (xs : List En) : (newD xs).Perm (xs.map newI) := by
  rw [newI_eq]
  exact (sortE_perm _).map _
theorem newD_srt (xs : List En) : (newD xs).Pairwise fun a b => plE a.1 ≤ plE b.1 := by
  unfold newD
  rw [List.pairwise_map]
  exact sortE_srt _
theorem newD_uniq {xs : List En} {l : List Im} (hn : (xs.map plE).Nodup) (hp : l.Perm (xs.map newI)) (hs : l.Pairwise fun a b => plE a.1 ≤ plE b.1) : l = newD xs := by
  refine List.Perm.eq_of_pairwise (le := fun a b => plE a.1 ≤ plE b.1) ?_ hs (newD_srt xs) (hp.trans (newD_perm xs).symm)
  intro a b ha hb h1 h2
  have e : plE a.1 = plE b.1 := Int.le_antisymm h1 h2
  have ha := hp.mem_iff.1 ha
  have hb := (newD_perm xs).mem_iff.1 hb
  obtain ⟨x, hx, rfl⟩ := List.mem_map.1 ha
  obtain ⟨y, hy, rfl⟩ := List.mem_map.1 hb
  rw [nodup_of_map hn hx hy e]
theorem newD_plE (xs : List En) (hn : (xs.map plE).Nodup) : ((newD xs).map fun x => plE x.1).Nodup := by
  have h := (newD_perm xs).map fun x => plE x.1
  refine h.nodup_iff.2 ?_
  rw [List.map_map]
  exact hn
theorem newD_len (xs : List En) : (newD xs).length = xs.length := by
  rw [(newD_perm xs).length_eq, List.length_map]
end Go.Proofs.YtemjdmgfilbfaaaGreat
namespace Go.Proofs.YtemjdmgfilbfaaaGreat
open Go.RowKit
set_option linter.unusedVariables false

theorem el_pitem : El Tryz.prog 95 98 1 8 := El.of Tryz.underlying95 (z := .pointer none) (by kernel_rfl) rfl (by decide)
theorem plainV_ok {v : Va} (h : v.ok) : (plainV v).ok := by
  unfold plainV
  have := h.1; have := h.2.1; have := h.2.2
  split
  · exact ⟨h.1, h.2.1, by simp⟩
  · split
    · exact ⟨by simp, by simp [two64], h.2.2⟩
    · exact h
theorem plainE_ok {x : En} (h : x.ok) : (plainE x).ok := ⟨h.1, h.2.1, h.2.2.1, h.2.2.2.1, h.2.2.2.2.1, h.2.2.2.2.2.1, plainV_ok h.2.2.2.2.2.2⟩
theorem ItAt.ok_len {w : World} {q : Nat} {x : Im} (h : ItAt w q x) : q < w.heap.size := lt_of_block h

/-- The program's dictionary. -/
structure DAt (w : World) (b : Nat) (l : List (Nat × Im)) : Prop where
  row : ∃ v, w.heap[b]? = some (.cells #[v] 97 (0, 0)) ∧ w.ownsRow b 98 1 v l.length (l.map fun q => ptr q.1)
  el : ∀ q ∈ l, ItAt w q.1 q.2
  nd : (l.map (·.1)).Nodup
  lo : ∀ q ∈ l, b ≤ q.1

theorem DAt.frm {S : Nat → Prop} {w w' : World} {b : Nat} {l : List (Nat × Im)} (h : DAt w b l) (hF : Frm S w w') (hb : ¬ S b) (hl : ∀ q ∈ l, ¬ S q.1) (hr : ∀ k cur, S k → w.heap[k]? ≠ some (.cells cur 98 (0, 0))) : DAt w' b l := by
  obtain ⟨v, hO, hw⟩ := h.row
  refine ⟨⟨v, hF.heap hO hb, hF.row hw fun j hj hs => ?_⟩, fun q hq => (h.el q hq).frm hF (hl _ hq), h.nd, h.lo⟩
  obtain ⟨_, cur, hc⟩ := row_block hw hj
  exact hr _ cur hs hc
theorem DAt.grow {w w' : World} {b : Nat} {l : List (Nat × Im)} (h : DAt w b l) (hF : Frm (fun _ => False) w w') : DAt w' b l := h.frm hF (fun h => h) (fun _ _ h => h) (fun _ _ h => h.elim)
theorem DAt.lt {w : World} {b : Nat} {l : List (Nat × Im)} (h : DAt w b l) : ∀ q ∈ l, q.1 < w.heap.size := fun q hq => lt_of_block (h.el q hq)
theorem DAt.blt {w : World} {b : Nat} {l : List (Nat × Im)} (h : DAt w b l) : b < w.heap.size := by
  obtain ⟨v, hO, _⟩ := h.row
  exact lt_of_block hO

theorem DAt.push {w w' : World} {b g cap p : Nat} {l : List (Nat × Im)} {v : Value} (h : DAt w b l) (x : Im) (hv : w.heap[b]? = some (.cells #[v] 97 (0, 0)))
    (hO : w'.heap[b]? = some (.cells #[.slice (some ⟨g, 0, none⟩) (l.length + 1) cap] 97 (0, 0))) (hr : w'.ownsRow b 98 1 (.slice (some ⟨g, 0, none⟩) (l.length + 1) cap) (l.length + 1) ((l.map fun q => ptr q.1) ++ [ptr p]))
    (hp : ItAt w' p x) (hnew : w.heap.size ≤ p) (hf : Frm (fun k => k = b ∨ v.ownBlock = some k) w w') : DAt w' b (l ++ [(p, x)]) := by
  obtain ⟨v0, hO0, hr0⟩ := h.row
  rw [hv] at hO0
  simp at hO0
  subst hO0
  have hbl := h.blt
  refine ⟨⟨_, hO, by simpa using hr⟩, ?_, ?_, ?_⟩
  · intro q hq
    rcases List.mem_append.1 hq with hq | hq
    · refine (h.el q hq).frm hf ?_
      rintro (e | e)
      · exact block_ne (h.el q hq) hv (by decide) e
      · obtain ⟨_, cur, hc⟩ := row_block hr0 e
        exact block_ne (h.el q hq) hc (by decide) rfl
    · simp at hq; subst hq; exact hp
  · rw [List.map_append, List.nodup_append]
    refine ⟨h.nd, by simp, ?_⟩
    intro a ha c hc
    obtain ⟨q, hq, rfl⟩ := List.mem_map.1 ha
    have := h.lt q hq
    simp at hc
    omega
  · intro q hq
    rcases List.mem_append.1 hq with hq | hq
    · exact h.lo q hq
    · simp at hq; subst hq; simp; omega

def ONewP (xs : List En) (w : World) (e : Ending) (w' : World) : Prop :=
  Frm (fun _ => False) w w' ∧ ((checkE xs ≠ 0 ∧ e = .returned (.tuple #[.pointer none, .int .i64 (checkE xs)])) ∨
    (checkE xs = 0 ∧ ∃ b l, e = .returned (.tuple #[ptr b, .int .i64 0]) ∧ DAt w' b l ∧ l.map (·.2) = newD xs ∧ w.heap.size ≤ b))

theorem store14 {w : World} {g : Nat} {t : TypeId} {fz : Nat × Nat} {c0 c1 c2 c3 c4 c5 c6 c7 c8 c9 c10 d11 d12 d13 c11 c12 c13 : Value} (h : w.heap[g]? = some (.cells #[c0, c1, c2, c3, c4, c5, c6, c7, c8, c9, c10, d11, d12, d13] t fz)) :
    (((w.setCell ⟨g, 11, none⟩ c11).setCell ⟨g, 12, none⟩ c12).setCell ⟨g, 13, none⟩ c13).heap[g]? = some (.cells #[c0, c1, c2, c3, c4, c5, c6, c7, c8, c9, c10, c11, c12, c13] t fz) :=
  heap_set_at (heap_set_at (heap_set_at h rfl) rfl) rfl
/-- Sorted: the same items, in another order. -/
theorem DAt.sort {w w' : World} {b : Nat} {l : List (Nat × Im)} {v : Value} {l' : List (Nat × Im)} (h : DAt w b l) (hv : w.heap[b]? = some (.cells #[v] 97 (0, 0))) (hp : l'.Perm l)
    (hr : w'.ownsRow b 98 1 v l.length (l'.map fun q => ptr q.1)) (hF : Frm (fun k => v.ownBlock = some k) w w') : DAt w' b l' := by
  obtain ⟨v0, hO0, hr0⟩ := h.row
  rw [hv] at hO0
  simp at hO0
  subst hO0
  have hnb : ∀ k o, w.heap[k]? = some (.cells o 100 (0, 0)) → ¬ v.ownBlock = some k := fun k o hk e => by
    obtain ⟨_, cur, hc⟩ := row_block hr0 e
    exact block_ne hk hc (by decide) rfl
  refine ⟨⟨v, hF.heap hv fun e => ?_, by rw [hp.length_eq]; exact hr⟩, fun q hq => ?_, ?_, fun q hq => h.lo q (hp.mem_iff.1 hq)⟩
  · obtain ⟨_, cur, hc⟩ := row_block hr0 e
    exact block_ne hv hc (by decide) rfl
  · have hi := h.el q (hp.mem_iff.1 hq)
    exact hi.frm hF (hnb _ _ hi)
  · exact (hp.map (·.1)).nodup_iff.2 h.nd

set_option maxRecDepth 100000 in
set_option maxHeartbeats 4000000 in
theorem odNew_any (v : Value) (xs : List En) (w : World) (h : SlAt cellsE 14 w v xs) (hx : ∀ x ∈ xs, x.ok) : Calls Tryz.prog 28 #[v] w (ONewP xs w) := by
  have HCHK := Lib.hid (fun W hW => odChk_any v xs W hW hx)
  have HSL := Lib.hid h
  have HOK := Lib.hid hx
  obtain ⟨A, cap, rfl, h1, h2, hA⟩ := h
  have hm : xs.length ≤ 9223372036854775807 := Nat.le_trans h1 h2
  have HA := Lib.hid hA
  clear h1 h2 hA hx
  by_cases hc : checkE xs = 0
  case neg =>
    have HC := Lib.hid hc
    unfold ONewP
    generalize checkE xs = c at *
    have hb : (c != 0) = true := by simpa using hc
    clear hc
    go_enter Tryz.func28, Tryz.ntmps28
    go_wp2_with (go_at_call 53; refine (HCHK.out _ HSL.out).mono ?_; rintro e w3 ⟨rfl, hF3⟩)
    go_ret2
    exact ⟨hF3, .inl ⟨HC.out, rfl⟩⟩
  obtain ⟨hlen, hent, hnd⟩ := check_facts hc
  have HND := Lib.hid hnd
  unfold ONewP
  rw [hc] at HCHK
  have HC := Lib.hid hc
  generalize checkE xs = c at *
  clear hc hent hnd
  go_enter Tryz.func28, Tryz.ntmps28
  go_upto_region 4 with (go_at_call 53; refine (HCHK.out _ HSL.out).mono ?_; rintro e w3 ⟨rfl, hF3⟩)
  have HF3 := Lib.hid hF3
  clear hF3 HCHK
  go_wp2_with fail
  go_loopw [17] (fun i wr => ∃ (k : Nat) (l : List (Nat × Im)), k ≤ xs.length ∧ i = .int .i64 k ∧ DAt wr w3.heap.size l ∧ l.map (·.2) = (xs.take k).map newI ∧ Frm (fun _ => False) w wr ∧ w3.heap.size < wr.heap.size) (fun i _ => xs.length - (intOf i).toNat)
  case atStart =>
    refine ⟨0, [], Nat.zero_le _, rfl, ⟨⟨.slice none 0 0, ?_, World.ownsRow_nil _ _ _ _⟩, fun i hi => by simp at hi, by simp, by simp⟩, by simp, ?_, by simp⟩
    · exact heap_new _ _
    · exact HF3.out.alloc _
  case round =>
    obtain ⟨k, l, hk, rfl, hW, hl, hfr, hsz⟩ := hrel
    have hlk : l.length = k := by have := congrArg List.length hl; simp at this; omega
    by_cases hlt : k < xs.length
    · obtain ⟨g, off, rfl, hgl, hcell⟩ := HA.out (by omega)
      have HTK : Hid (xs.take (k + 1) = xs.take k ++ [xs[k]]) := List.take_succ_eq_append_getElem hlt
      have hxo := HOK.out _ (List.getElem_mem hlt)
      have HW := Lib.hid hW
      have HL := Lib.hid hl
      have HLK := Lib.hid hlk
      have HF := Lib.hid hfr
      have q := fun j hj => HF.out.cell ((hcell k hlt j hj).trans (List.getElem?_eq_getElem (by rw [cellsE_len]; exact hj))) (fun h => h)
      generalize xs[k] = x at *
      have d0 := q 0 (by decide)
      have d1 := q 1 (by decide)
      have d2 := q 2 (by decide)
      have d3 := q 3 (by decide)
      have d4 := q 4 (by decide)
      have d5 := q 5 (by decide)
      have d6 := q 6 (by decide)
      have d7 := q 7 (by decide)
      have d8 := q 8 (by decide)
      have d9 := q 9 (by decide)
      have d10 := q 10 (by decide)
      have d11 := q 11 (by decide)
      have d12 := q 12 (by decide)
      have d13 := q 13 (by decide)
      simp only [cellsE, List.getElem_cons_succ, List.getElem_cons_zero, Nat.add_zero] at d0 d1 d2 d3 d4 d5 d6 d7 d8 d9 d10 d11 d12 d13
      have HPL := Lib.hid (fun W => tyPlain_any x.df W)
      have HBX : Hid (∀ W, Frm (fun _ => False) (wr.alloc (.cells #[.int .u16 x.idx, .int .u8 x.sub, .int .i64 x.acc, .bool x.mp, .bool x.lim, .int .i64 x.mn.ty, .int .u64 x.mn.n, .string (strB2 x.mn.b), .int .i64 x.mx.ty, .int .u64 x.mx.n, .string (strB2 x.mx.b), .int .i64 x.df.ty, .int .u64 x.df.n, .string (strB2 x.df.b)] 59)) W → W.heap[wr.heap.size]? = some (.cells #[.int .u16 x.idx, .int .u8 x.sub, .int .i64 x.acc, .bool x.mp, .bool x.lim, .int .i64 x.mn.ty, .int .u64 x.mn.n, .string (strB2 x.mn.b), .int .i64 x.mx.ty, .int .u64 x.mx.n, .string (strB2 x.mx.b), .int .i64 x.df.ty, .int .u64 x.df.n, .string (strB2 x.df.b)] 59) ∧ Frm (fun _ => False) wr W) := fun W hF => ⟨hF.heap (heap_new _ _) (fun h => h), Frm.trans' (b := _) (by (repeat' (first | (with_reducible exact Frm.refl _ _) | (with_reducible assumption) | (with_reducible refine Frm.alloc ?_ _) | (with_reducible refine Frm.drew ?_) | (with_reducible refine Frm.drewN ?_ _) | (with_reducible refine Frm.set1 ?_ _) | (with_reducible refine Frm.setCell ?_ ?_ _) | (exact fun h => absurd h (Nat.lt_irrefl _)) | (intro hlt; simp [World.size_alloc, One] at hlt ⊢; omega)))) hF⟩
      have HPF : Hid (plainV x.df = (plainE x).df) := rfl
      unfold valV at HPL
      clear hW hl hlk hfr hcell q
      have hgl2 := Nat.lt_of_lt_of_le hgl HF.out.size
      go_upto_region 9 with (go_at_call 54; refine (HPL.out _).mono ?_; rintro e w4 ⟨rfl, hF4⟩; obtain ⟨kk, hF4'⟩ := HBX.out w4 hF4; have HK := Lib.hid kk; have HF4 := Lib.hid hF4'; have hfz := frees kk; have l0 := lt_of_block kk; have c11 : w4.cell? ⟨wr.heap.size, 11, none⟩ = some (.int .i64 x.df.ty) := cell_at kk; have c12 : w4.cell? ⟨wr.heap.size, 12, none⟩ = some (.int .u64 x.df.n) := cell_at kk; have c13 : w4.cell? ⟨wr.heap.size, 13, none⟩ = some (.string (strB2 x.df.b)) := cell_at kk; clear hF4 hF4' kk)
      have hFx : Frm (fun _ => False) wr (((w4.setCell ⟨wr.heap.size, 11, none⟩ (.int .i64 (plainV x.df).ty)).setCell ⟨wr.heap.size, 12, none⟩ (.int .u64 (plainV x.df).n)).setCell ⟨wr.heap.size, 13, none⟩ (.string (strB2 (plainV x.df).b))) :=
        ((HF4.out.setCell (p := ⟨wr.heap.size, 11, none⟩) (fun h => absurd h (Nat.lt_irrefl _)) _).setCell (p := ⟨wr.heap.size, 12, none⟩) (fun h => absurd h (Nat.lt_irrefl _)) _).setCell (p := ⟨wr.heap.size, 13, none⟩) (fun h => absurd h (Nat.lt_irrefl _)) _
      have hTx := store14 (c11 := .int .i64 (plainV x.df).ty) (c12 := .int .u64 (plainV x.df).n) (c13 := .string (strB2 (plainV x.df).b)) HK.out
      obtain ⟨wx, hwx⟩ : ∃ wx, wx = ((w4.setCell ⟨wr.heap.size, 11, none⟩ (.int .i64 (plainV x.df).ty)).setCell ⟨wr.heap.size, 12, none⟩ (.int .u64 (plainV x.df).n)).setCell ⟨wr.heap.size, 13, none⟩ (.string (strB2 (plainV x.df).b)) := ⟨_, rfl⟩
      rw [← hwx] at hFx hTx ⊢
      rw [HPF.out] at hTx ⊢
      clear hwx hfz l0 c11 c12 c13 d0 d1 d2 d3 d4 d5 d6 d7 d8 d9 d10 d11 d12 d13 HBX HPL HK HF4
      have HBX := Lib.hid (HW.out.grow hFx)
      have hsx : wr.heap.size < wx.heap.size := lt_of_block hTx
      have hb2 : w3.heap.size < wx.heap.size := by omega
      obtain ⟨v2, hO, hr⟩ := HBX.out.row
      obtain ⟨A2, cap2, rfl, q1, q2, _⟩ := row_open hr
      have ct : wx.cell? ⟨w3.heap.size, 0, none⟩ = some (.slice A2 l.length cap2) := cell_at hO
      have HR6 := Lib.hid hr
      have HO := Lib.hid hO
      have HFX := Lib.hid hFx
      have HNE : Hid (∀ k, (Value.slice A2 l.length cap2).ownBlock = some k → k ≠ w3.heap.size ∧ k < wx.heap.size ∧ w3.heap.size ≤ k) := fun k hk => by
        obtain ⟨hk0, cur, hc⟩ := row_block HR6.out hk
        exact ⟨block_ne hc HO.out (by decide), lt_of_block hc, hk0⟩
      have z0 : wx.cell? ⟨wr.heap.size, 0, none⟩ = some (.int .u16 x.idx) := cell_at hTx
      have z1 : wx.cell? ⟨wr.heap.size, 1, none⟩ = some (.int .u8 x.sub) := cell_at hTx
      have z2 : wx.cell? ⟨wr.heap.size, 2, none⟩ = some (.int .i64 x.acc) := cell_at hTx
      have z3 : wx.cell? ⟨wr.heap.size, 3, none⟩ = some (.bool x.mp) := cell_at hTx
      have z4 : wx.cell? ⟨wr.heap.size, 4, none⟩ = some (.bool x.lim) := cell_at hTx
      have z5 : wx.cell? ⟨wr.heap.size, 5, none⟩ = some (.int .i64 x.mn.ty) := cell_at hTx
      have z6 : wx.cell? ⟨wr.heap.size, 6, none⟩ = some (.int .u64 x.mn.n) := cell_at hTx
      have z7 : wx.cell? ⟨wr.heap.size, 7, none⟩ = some (.string (strB2 x.mn.b)) := cell_at hTx
      have z8 : wx.cell? ⟨wr.heap.size, 8, none⟩ = some (.int .i64 x.mx.ty) := cell_at hTx
      have z9 : wx.cell? ⟨wr.heap.size, 9, none⟩ = some (.int .u64 x.mx.n) := cell_at hTx
      have z10 : wx.cell? ⟨wr.heap.size, 10, none⟩ = some (.string (strB2 x.mx.b)) := cell_at hTx
      have z11 : wx.cell? ⟨wr.heap.size, 11, none⟩ = some (.int .i64 (plainE x).df.ty) := cell_at hTx
      have z12 : wx.cell? ⟨wr.heap.size, 12, none⟩ = some (.int .u64 (plainE x).df.n) := cell_at hTx
      have z13 : wx.cell? ⟨wr.heap.size, 13, none⟩ = some (.string (strB2 (plainE x).df.b)) := cell_at hTx
      have hl8 : (l.length + 1) * 8 ≤ 140737488355328 := by have := HLK.out; omega
      have hl9 : l.length + 1 ≤ maxLen := by have := HLK.out; unfold maxLen; omega
      have hb3 : w3.heap.size < wx.heap.size + 1 := by omega
      have hb4 : w3.heap.size < wx.heap.size + 1 + 1 := by omega
      have hx4 : wr.heap.size < wx.heap.size + 1 := by omega
      clear hr hO hFx hTx q1 q2
      go_region_law
        ((refine step_app (by rfl) el_pitem _ _ (by rfl) (by rfl) (by rfl) (B := w3.heap.size) (xs := l.map fun q => ptr q.1) (arr := #[.pointer (some ⟨wx.heap.size, 0, none⟩)]) (e2 := 98) (fr := (0, 0)) (Frm.row (S := fun _ => False) (by (repeat' (first | (with_reducible exact Frm.refl _ _) | (with_reducible assumption) | (with_reducible refine Frm.alloc ?_ _) | (with_reducible refine Frm.drew ?_) | (with_reducible refine Frm.drewN ?_ _) | (with_reducible refine Frm.set1 ?_ _) | (with_reducible refine Frm.setCell ?_ ?_ _) | (exact fun h => absurd h (Nat.lt_irrefl _)) | (intro hlt; simp [World.size_alloc, One] at hlt ⊢; omega)))) HR6.out (fun _ _ h => h)) (heap_new_at (by simp)) (by rfl) (by simp [Value.oneCell']) (by decide) hl9 hl8 (by simp; omega) ?_; intro g2 cap3 w2 hown2 hfr2 hat2 hlt2; have hO2 : w2.heap[w3.heap.size]? = some (.cells #[.slice A2 l.length cap2] 97 (0, 0)) := (by refine hfr2.heap ?_ (fun h => (HNE.out _ h).1 rfl); (repeat (first | (with_reducible exact HO.out) | (with_reducible apply heap_alloc_old) | (with_reducible apply heap_drewN') | (with_reducible apply heap_drew')))); have hz2 : w2.frozen? ⟨w3.heap.size, 0, none⟩ = false := free_at hO2; have hc2 : w2.cell? ⟨w3.heap.size, 0, none⟩ = some (.slice A2 l.length cap2) := cell_at hO2))
      all_goals
        have HO3 := Lib.hid hO2
        have HO4 := Lib.hid hown2
        have HF2 := Lib.hid hfr2
        clear hO2 hown2 hfr2 hc2 hz2 ct z0 z1 z2 z3 z4 z5 z6 z7 z8 z9 z10 z11 z12 z13
        go_wp2_with fail
        go_roundw
        case rel =>
          have hpn : wx.heap.size ≠ w3.heap.size := by omega
          have hpo : ¬ (Value.slice A2 l.length cap2).ownBlock = some wx.heap.size := fun h => by have := (HNE.out _ h).2.1; omega
          have fp := HF2.out.heap (heap_alloc_old (heap_new_at (k := wx.heap.size) (by first | rfl | simp))) hpo
          have hf3 : Frm (fun j => j = w3.heap.size ∨ (Value.slice A2 l.length cap2).ownBlock = some j) wx (w2.setCell ⟨w3.heap.size, 0, none⟩ (.slice (some ⟨g2, 0, none⟩) (l.length + 1) cap3)) := by
            refine Frm.setCell ?_ (fun _ => .inl rfl) _
            refine Frm.trans (T := fun k => (Value.slice A2 l.length cap2).ownBlock = some k) ?_ HF2.out (fun i _ h => .inr h)
            (repeat' (first | (with_reducible exact Frm.refl _ _) | (with_reducible assumption) | (with_reducible refine Frm.alloc ?_ _) | (with_reducible refine Frm.drew ?_) | (with_reducible refine Frm.drewN ?_ _) | (with_reducible refine Frm.set1 ?_ _) | (with_reducible refine Frm.setCell ?_ ?_ _) | (exact fun h => absurd h (Nat.lt_irrefl _)) | (intro hlt; simp [World.size_alloc, One] at hlt ⊢; omega)))
          refine ⟨k + 1, l ++ [(wx.heap.size, newI x)], by omega, by go_num, HBX.out.push (newI x) HO.out (heap_set_same HO3.out _) ?_ ?_ (Nat.le_refl _) hf3, ?_, ?_, ?_⟩
          · exact Frm.row (S := One w3.heap.size) ((Frm.refl _ _).set1 _) HO4.out (fun k hk e => by cases hk; have := block_ne (row_block HO4.out rfl).2.choose_spec HO3.out (by decide); exact this e)
          · exact heap_set_other fp hpn
          · rw [List.map_append, HTK.out, List.map_append, HL.out]; rfl
          · refine (HF.out.trans' HFX.out).trans hf3 (fun i hi h => ?_)
            rcases h with h | h
            · have := HF3.out.size; omega
            · have := (HNE.out _ h).2.2; have := HF3.out.size; omega
          · have := HF2.out.size; simp at this ⊢; omega
        case measure => simp [intOf]; omega
    · have hkn : k = xs.length := by omega
      subst hkn
      rw [List.take_length] at hl
      obtain ⟨v2, hO, hr⟩ := hW.row
      obtain ⟨A2, cap2, rfl, q1, q2, _⟩ := row_open hr
      have ct : wr.cell? ⟨w3.heap.size, 0, none⟩ = some (.slice A2 l.length cap2) := cell_at hO
      have hnd2 : (l.map plI).Nodup := by
        have e : l.map plI = (xs.map newI).map fun x => plE x.1 := by rw [← hl, List.map_map]; rfl
        rw [e, List.map_map]
        exact HND.out
      have hok2 : ∀ q ∈ l, q.2.1.ok := fun q hq => by
        have : q.2 ∈ xs.map newI := by rw [← hl]; exact List.mem_map.2 ⟨q, hq, rfl⟩
        obtain ⟨x, hx, e⟩ := List.mem_map.1 this
        rw [← e]
        exact plainE_ok (HOK.out x hx)
      have HSRT := Lib.hid (sort_items _ _ _ l wr hr hW.el hok2 hnd2 (by rw [hlk]; exact hlen))
      have HW := Lib.hid hW
      have HL := Lib.hid hl
      have HF := Lib.hid hfr
      have HO := Lib.hid hO
      clear hW hl hfr hO hr hlk hnd2 hok2 q1 q2
      unfold SortP at HSRT
      go_wp2_with (go_at_call 55; refine HSRT.out.mono ?_; rintro e w5 ⟨rfl, l', hp5, hs5, hr5, hF5⟩)
      go_ret2
      have hD := HW.out.sort HO.out hp5 hr5 hF5
      have hb : w.heap.size ≤ w3.heap.size := HF3.out.size
      refine ⟨HF.out.trans hF5 (fun i hi e => ?_), .inr ⟨HC.out, _, l', rfl, hD, ?_, hb⟩⟩
      · obtain ⟨v9, hO9, hr9⟩ := HW.out.row
        rw [HO.out] at hO9
        simp at hO9
        subst hO9
        have := (row_block hr9 e).1
        omega
      · refine newD_uniq HND.out ?_ ?_
        · rw [← HL.out]; exact hp5.map _
        · rw [List.pairwise_map]; exact hs5
end Go.Proofs.YtemjdmgfilbfaaaGreat
