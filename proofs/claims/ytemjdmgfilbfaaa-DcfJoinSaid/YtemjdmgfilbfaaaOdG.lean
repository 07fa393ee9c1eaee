/-
  The comparing of items, as the library's sort asks for it; the sort of a row of items.
-/
import Derived.Test.YtemjdmgfilbfaaaOdQ
import Derived.Sort.OwnSortedInts
namespace Go.Proofs.Ytemjdmgfilbfaaa
open Go.RowKit Go.Sort
set_option linter.unusedVariables false

/-- w' is w, some draws on, with some blocks behind it. -/
def Grew (w w' : World) : Prop := ∃ (q : Nat) (os : Array Obj), w' = grow (w.drewN q) os
theorem Grew.refl (w : World) : Grew w w := ⟨0, #[], by rw [grow_empty]; rfl⟩
theorem Grew.drewN {a w : World} (h : Grew a w) (n : Nat) : Grew a (w.drewN n) := by
  obtain ⟨q, os, rfl⟩ := h
  exact ⟨q + n, os, by simp only [grow, World.drewN, Nat.add_assoc]⟩
theorem Grew.drew {a w : World} (h : Grew a w) : Grew a w.drew := h.drewN 1
theorem Grew.alloc {a w : World} (h : Grew a w) (o : Obj) : Grew a (w.alloc o) := by
  obtain ⟨q, os, rfl⟩ := h
  exact ⟨q, os ++ #[o], by rw [alloc_eq_grow, grow_grow]⟩
theorem Grew.trans {a b c : World} (h : Grew a b) (k : Grew b c) : Grew a c := by
  obtain ⟨q, os, rfl⟩ := h
  obtain ⟨q', os', rfl⟩ := k
  exact ⟨q + q', os ++ os', by simp only [grow, World.drewN, Nat.add_assoc, Array.append_assoc]⟩
theorem Grew.frm {a b : World} (h : Grew a b) : Frm (fun _ => False) a b := by
  obtain ⟨q, os, rfl⟩ := h
  exact ⟨rfl, rfl, rfl, by simp [grow, World.drewN], fun k hk _ => by simp [grow, World.drewN, Array.getElem?_append, hk]⟩

/-- The place of an entry. -/
theorem odAt_grew (x : En) (w : World) : Calls Try.prog 40 #[valE x] w fun e w' => e = .returned (plV x.idx x.sub) ∧ Grew w w' := by
  obtain ⟨i, s, ac, mp, lm, ⟨at', an, ab⟩, ⟨bt, bn, bb⟩, ⟨dt, dn, db⟩⟩ := x
  unfold valE
  simp only
  go_enter Try.func40, Try.ntmps40
  go_wp2_with fail
  refine bodyPost_ret (v := plV i s) (by simp [results, Try.results40, go_sem]) rfl ⟨rfl, ((Grew.refl _).alloc _).alloc _⟩

set_option maxRecDepth 100000 in
set_option maxHeartbeats 2000000 in
theorem odOrder_grew (i s i' s' : Int) (w : World) : Calls Try.prog 41 #[plV i s, plV i' s'] w fun e w' => e = .returned (.int .i64 (ordP i s i' s')) ∧ Grew w w' := by
  have H1 := Lib.hid (fun W => cmpU16_any i i' W)
  have H2 := Lib.hid (fun W => cmpU8_any s s' W)
  have HO : Hid (ordP i s i' s' = if cmpI i i' ≠ 0 then cmpI i i' else cmpI s s') := rfl
  generalize ordP i s i' s' = r at *
  generalize cmpI i i' = a at *
  generalize cmpI s s' = b at *
  have H3 := Lib.hid (fun g W h => cmpOr_any a b g W h)
  rw [← HO.out] at H3
  clear HO
  go_enter Try.func41, Try.ntmps41
  go_wp2_with fail
  refine wp_region_held_drew (S := (fun w' => w'.cell? ⟨w.heap.size, 0, none⟩ = some (.int .u16 i) ∧ w'.cell? ⟨w.heap.size, 1, none⟩ = some (.int .u8 s) ∧ w'.cell? ⟨w.heap.size + 1, 0, none⟩ = some (.int .u16 i') ∧ w'.cell? ⟨w.heap.size + 1, 1, none⟩ = some (.int .u8 s'))) (by kernel_rfl) (⟨by go_simp, by go_simp, by go_simp, by go_simp⟩) (fun hHeld => ?_)
  refine wpAnyH_take (i := 0) (v := ?_) rfl (by kernel_rfl) (by kernel_rfl) (by kernel_rfl) (fun _ _ _ h => h) (Or.inl ⟨by rfl, ?_⟩) (by assumption) ?_
  rotate_left
  · intro wq hSq
    try dsimp only at hSq
    go_split_ands
    go_simp
    try with_reducible rfl
  try simp only [Act.put, List.getElem_toArray, List.getElem_cons_zero, List.getElem_cons_succ, List.setIfInBounds_toArray, List.set_cons_zero, List.set_cons_succ]
  refine wpAnyH_take (i := 1) (v := ?_) rfl (by kernel_rfl) (by kernel_rfl) (by kernel_rfl) (fun _ _ _ h => h) (Or.inl ⟨by rfl, ?_⟩) (by assumption) ?_
  rotate_left
  · intro wq hSq
    try dsimp only at hSq
    go_split_ands
    go_simp
    try with_reducible rfl
  try simp only [Act.put, List.getElem_toArray, List.getElem_cons_zero, List.getElem_cons_succ, List.setIfInBounds_toArray, List.set_cons_zero, List.set_cons_succ]
  refine wpAnyH_take (i := 2) (v := ?_) rfl (by kernel_rfl) (by kernel_rfl) (by kernel_rfl) (fun _ _ _ h => h) (Or.inl ⟨by rfl, ?_⟩) (by assumption) ?_
  rotate_left
  · intro wq hSq
    try dsimp only at hSq
    go_split_ands
    go_simp
    try with_reducible rfl
  try simp only [Act.put, List.getElem_toArray, List.getElem_cons_zero, List.getElem_cons_succ, List.setIfInBounds_toArray, List.set_cons_zero, List.set_cons_succ]
  refine wpAnyH_take (i := 3) (v := ?_) rfl (by kernel_rfl) (by kernel_rfl) (by kernel_rfl) (fun _ _ _ h => h) (Or.inl ⟨by rfl, ?_⟩) (by assumption) ?_
  rotate_left
  · intro wq hSq
    try dsimp only at hSq
    go_split_ands
    go_simp
    try with_reducible rfl
  try simp only [Act.put, List.getElem_toArray, List.getElem_cons_zero, List.getElem_cons_succ, List.setIfInBounds_toArray, List.set_cons_zero, List.set_cons_succ]
  refine wpAnyH_take (i := 5) (v := ?_) rfl (by kernel_rfl) (by kernel_rfl) (by kernel_rfl) (fun _ _ _ h => h) (Or.inl ⟨by rfl, ?_⟩) (by assumption) ?_
  rotate_left
  · intro wq hSq
    try dsimp only at hSq
    go_split_ands
    go_simp
    try with_reducible rfl
  try simp only [Act.put, List.getElem_toArray, List.getElem_cons_zero, List.getElem_cons_succ, List.setIfInBounds_toArray, List.set_cons_zero, List.set_cons_succ]
  refine wpAnyH_take (i := 6) (v := ?_) rfl (by kernel_rfl) (by kernel_rfl) (by kernel_rfl) (fun _ _ _ h => h) (Or.inl ⟨by rfl, ?_⟩) (by assumption) ?_
  rotate_left
  · intro wq hSq
    try dsimp only at hSq
    go_split_ands
    go_simp
    try with_reducible rfl
  try simp only [Act.put, List.getElem_toArray, List.getElem_cons_zero, List.getElem_cons_succ, List.setIfInBounds_toArray, List.set_cons_zero, List.set_cons_succ]
  refine wpAnyH_take (i := 7) (v := ?_) rfl (by kernel_rfl) (by kernel_rfl) (by kernel_rfl) (fun _ _ _ h => h) (Or.inl ⟨by rfl, ?_⟩) (by assumption) ?_
  rotate_left
  · intro wq hSq
    try dsimp only at hSq
    go_split_ands
    go_simp
    try with_reducible rfl
  try simp only [Act.put, List.getElem_toArray, List.getElem_cons_zero, List.getElem_cons_succ, List.setIfInBounds_toArray, List.set_cons_zero, List.set_cons_succ]
  refine wpAnyH_take (i := 8) (v := ?_) rfl (by kernel_rfl) (by kernel_rfl) (by kernel_rfl) (fun _ _ _ h => h) (Or.inl ⟨by rfl, ?_⟩) (by assumption) ?_
  rotate_left
  · intro wq hSq
    try dsimp only at hSq
    go_split_ands
    go_simp
    try with_reducible rfl
  try simp only [Act.put, List.getElem_toArray, List.getElem_cons_zero, List.getElem_cons_succ, List.setIfInBounds_toArray, List.set_cons_zero, List.set_cons_succ]
  refine wpAnyH_ready (rs := [4]) (by kernel_rfl) (by simp) ?_
  refine AllReadyH.cons rfl (fun K hK => ?_) AllReadyH.nil
  try simp only [List.getElem_toArray, List.getElem_cons_zero, List.getElem_cons_succ]
  go_simp
  refine (H1.out _).mono ?_
  rintro e w1 ⟨rfl, rfl⟩
  go_wp2_with fail
  refine hK.out _ _ (by assumption) (fun hHeld => ?_)
  clear hK K
  try simp only [Act.put, List.setIfInBounds_toArray, List.set_cons_zero, List.set_cons_succ]
  refine wpAnyH_ready (rs := [9]) (by kernel_rfl) (by simp) ?_
  refine AllReadyH.cons rfl (fun K hK => ?_) AllReadyH.nil
  try simp only [List.getElem_toArray, List.getElem_cons_zero, List.getElem_cons_succ]
  go_simp
  refine (H2.out _).mono ?_
  rintro e w1 ⟨rfl, rfl⟩
  go_wp2_with fail
  refine hK.out _ _ (by assumption) (fun hHeld => ?_)
  clear hK K
  try simp only [Act.put, List.setIfInBounds_toArray, List.set_cons_zero, List.set_cons_succ]
  refine wpAnyH_ready (rs := [10]) (by kernel_rfl) (by simp) ?_
  refine AllReadyH.cons rfl (fun K hK => ?_) AllReadyH.nil
  try simp only [List.getElem_toArray, List.getElem_cons_zero, List.getElem_cons_succ]
  go_simp
  refine hK.out _ _ (⟨by go_simp, by go_simp, by go_simp, by go_simp⟩) (fun hHeld => ?_)
  clear hK K
  try simp only [Act.put, List.setIfInBounds_toArray, List.set_cons_zero, List.set_cons_succ]
  refine wpAnyH_ready (rs := [11]) (by kernel_rfl) (by simp) ?_
  refine AllReadyH.cons rfl (fun K hK => ?_) AllReadyH.nil
  try simp only [List.getElem_toArray, List.getElem_cons_zero, List.getElem_cons_succ]
  go_simp
  refine (H3.out (w.heap.size + 2) _ (heap_drew' (heap_new_at (by simp)))).mono ?_
  rintro e w1 ⟨rfl, rfl⟩
  go_wp2_with fail
  refine hK.out _ _ (by assumption) (fun hHeld => ?_)
  clear hK K
  try simp only [Act.put, List.setIfInBounds_toArray, List.set_cons_zero, List.set_cons_succ]
  refine wpAnyH_take (i := 12) (v := ?_) rfl (by kernel_rfl) (by kernel_rfl) (by kernel_rfl) (fun _ _ _ h => h) (Or.inl ⟨by rfl, ?_⟩) (by assumption) ?_
  rotate_left
  · intro wq hSq
    try dsimp only at hSq
    go_split_ands
    go_simp
    try with_reducible rfl
  try simp only [Act.put, List.getElem_toArray, List.getElem_cons_zero, List.getElem_cons_succ, List.setIfInBounds_toArray, List.set_cons_zero, List.set_cons_succ]
  refine wpAnyH_done (by kernel_rfl) ?_ _
  go_wp2_with fail
  go_ret
  exact ⟨rfl, ((((Grew.refl _).alloc _).alloc _).alloc _).drew⟩

set_option maxRecDepth 100000 in
set_option maxHeartbeats 2000000 in
theorem odNew1_grew (p q : Nat) (x y : Im) (w : World) (hx : ItAt w p x) (hy : ItAt w q y) : Calls Try.prog 39 #[ptr p, ptr q] w fun e w' => e = .returned (.int .i64 (ordP x.1.idx x.1.sub y.1.idx y.1.sub)) ∧ Grew w w' := by
  have H1 := Lib.hid (fun W => odAt_grew x.1 W)
  have H2 := Lib.hid (fun W => odAt_grew y.1 W)
  have H3 := Lib.hid (fun W => odOrder_grew x.1.idx x.1.sub y.1.idx y.1.sub W)
  obtain ⟨⟨i, s, ac, mp, lm, ⟨at', an, ab⟩, ⟨bt, bn, bb⟩, ⟨dt, dn, db⟩⟩, vx⟩ := x
  obtain ⟨⟨i', s', ac', mp', lm', ⟨at'', an', ab'⟩, ⟨bt', bn', bb'⟩, ⟨dt', dn', db'⟩⟩, vy⟩ := y
  unfold ItAt cellsI cellsE at hx hy
  unfold valE at H1 H2
  unfold plV at H1 H2 H3
  unfold ptr
  simp only at *
  generalize ordP i s i' s' = r at *
  generalize strB2 ab = ab at *
  generalize strB2 bb = bb at *
  generalize strB2 db = db at *
  generalize strB2 ab' = ab' at *
  generalize strB2 bb' = bb' at *
  generalize strB2 db' = db' at *
  have hc : ∀ W, Frm (fun _ => False) w W → (W.cell? ⟨p, 0, none⟩ = some (.int .u16 i) ∧ W.cell? ⟨p, 1, none⟩ = some (.int .u8 s) ∧ W.cell? ⟨p, 2, none⟩ = some (.int .i64 ac) ∧ W.cell? ⟨p, 3, none⟩ = some (.bool mp) ∧ W.cell? ⟨p, 4, none⟩ = some (.bool lm) ∧ W.cell? ⟨p, 5, none⟩ = some (.int .i64 at') ∧ W.cell? ⟨p, 6, none⟩ = some (.int .u64 an) ∧ W.cell? ⟨p, 7, none⟩ = some (.string ab) ∧ W.cell? ⟨p, 8, none⟩ = some (.int .i64 bt) ∧ W.cell? ⟨p, 9, none⟩ = some (.int .u64 bn) ∧ W.cell? ⟨p, 10, none⟩ = some (.string bb) ∧ W.cell? ⟨p, 11, none⟩ = some (.int .i64 dt) ∧ W.cell? ⟨p, 12, none⟩ = some (.int .u64 dn) ∧ W.cell? ⟨p, 13, none⟩ = some (.string db)) ∧
      (W.cell? ⟨q, 0, none⟩ = some (.int .u16 i') ∧ W.cell? ⟨q, 1, none⟩ = some (.int .u8 s') ∧ W.cell? ⟨q, 2, none⟩ = some (.int .i64 ac') ∧ W.cell? ⟨q, 3, none⟩ = some (.bool mp') ∧ W.cell? ⟨q, 4, none⟩ = some (.bool lm') ∧ W.cell? ⟨q, 5, none⟩ = some (.int .i64 at'') ∧ W.cell? ⟨q, 6, none⟩ = some (.int .u64 an') ∧ W.cell? ⟨q, 7, none⟩ = some (.string ab') ∧ W.cell? ⟨q, 8, none⟩ = some (.int .i64 bt') ∧ W.cell? ⟨q, 9, none⟩ = some (.int .u64 bn') ∧ W.cell? ⟨q, 10, none⟩ = some (.string bb') ∧ W.cell? ⟨q, 11, none⟩ = some (.int .i64 dt') ∧ W.cell? ⟨q, 12, none⟩ = some (.int .u64 dn') ∧ W.cell? ⟨q, 13, none⟩ = some (.string db')) := fun W hF => by
    have kx := hF.heap hx (fun h => h)
    have ky := hF.heap hy (fun h => h)
    exact ⟨⟨cell_at kx, cell_at kx, cell_at kx, cell_at kx, cell_at kx, cell_at kx, cell_at kx, cell_at kx, cell_at kx, cell_at kx, cell_at kx, cell_at kx, cell_at kx, cell_at kx⟩, ⟨cell_at ky, cell_at ky, cell_at ky, cell_at ky, cell_at ky, cell_at ky, cell_at ky, cell_at ky, cell_at ky, cell_at ky, cell_at ky, cell_at ky, cell_at ky, cell_at ky⟩⟩
  have HCC := Lib.hid hc
  clear hx hy hc
  go_enter Try.func39, Try.ntmps39
  go_wp2_with fail
  refine wp_region_held_drew (S := fun W => Grew w W) (by kernel_rfl) ((Grew.refl _).drew) (fun hHeld => ?_)
  refine wpAnyH_take (i := 0) (v := ?_) rfl (by kernel_rfl) (by kernel_rfl) (by kernel_rfl) (fun _ _ _ h => h) (Or.inl ⟨by rfl, ?_⟩) (by assumption) ?_
  rotate_left
  · intro wq hSq
    have hq := HCC.out wq (Grew.frm hSq)
    go_split_ands
    go_simp
    try with_reducible rfl
  try simp only [Act.put, List.getElem_toArray, List.getElem_cons_zero, List.getElem_cons_succ, List.setIfInBounds_toArray, List.set_cons_zero, List.set_cons_succ]
  refine wpAnyH_take (i := 1) (v := ?_) rfl (by kernel_rfl) (by kernel_rfl) (by kernel_rfl) (fun _ _ _ h => h) (Or.inl ⟨by rfl, ?_⟩) (by assumption) ?_
  rotate_left
  · intro wq hSq
    have hq := HCC.out wq (Grew.frm hSq)
    go_split_ands
    go_simp
    try with_reducible rfl
  try simp only [Act.put, List.getElem_toArray, List.getElem_cons_zero, List.getElem_cons_succ, List.setIfInBounds_toArray, List.set_cons_zero, List.set_cons_succ]
  refine wpAnyH_take (i := 2) (v := ?_) rfl (by kernel_rfl) (by kernel_rfl) (by kernel_rfl) (fun _ _ _ h => h) (Or.inl ⟨by rfl, ?_⟩) (by assumption) ?_
  rotate_left
  · intro wq hSq
    have hq := HCC.out wq (Grew.frm hSq)
    go_split_ands
    go_simp
    try with_reducible rfl
  try simp only [Act.put, List.getElem_toArray, List.getElem_cons_zero, List.getElem_cons_succ, List.setIfInBounds_toArray, List.set_cons_zero, List.set_cons_succ]
  refine wpAnyH_take (i := 3) (v := ?_) rfl (by kernel_rfl) (by kernel_rfl) (by kernel_rfl) (fun _ _ _ h => h) (Or.inl ⟨by rfl, ?_⟩) (by assumption) ?_
  rotate_left
  · intro wq hSq
    have hq := HCC.out wq (Grew.frm hSq)
    go_split_ands
    go_simp
    try with_reducible rfl
  try simp only [Act.put, List.getElem_toArray, List.getElem_cons_zero, List.getElem_cons_succ, List.setIfInBounds_toArray, List.set_cons_zero, List.set_cons_succ]
  refine wpAnyH_take (i := 5) (v := ?_) rfl (by kernel_rfl) (by kernel_rfl) (by kernel_rfl) (fun _ _ _ h => h) (Or.inl ⟨by rfl, ?_⟩) (by assumption) ?_
  rotate_left
  · intro wq hSq
    have hq := HCC.out wq (Grew.frm hSq)
    go_split_ands
    go_simp
    try with_reducible rfl
  try simp only [Act.put, List.getElem_toArray, List.getElem_cons_zero, List.getElem_cons_succ, List.setIfInBounds_toArray, List.set_cons_zero, List.set_cons_succ]
  refine wpAnyH_take (i := 6) (v := ?_) rfl (by kernel_rfl) (by kernel_rfl) (by kernel_rfl) (fun _ _ _ h => h) (Or.inl ⟨by rfl, ?_⟩) (by assumption) ?_
  rotate_left
  · intro wq hSq
    have hq := HCC.out wq (Grew.frm hSq)
    go_split_ands
    go_simp
    try with_reducible rfl
  try simp only [Act.put, List.getElem_toArray, List.getElem_cons_zero, List.getElem_cons_succ, List.setIfInBounds_toArray, List.set_cons_zero, List.set_cons_succ]
  refine wpAnyH_take (i := 7) (v := ?_) rfl (by kernel_rfl) (by kernel_rfl) (by kernel_rfl) (fun _ _ _ h => h) (Or.inl ⟨by rfl, ?_⟩) (by assumption) ?_
  rotate_left
  · intro wq hSq
    have hq := HCC.out wq (Grew.frm hSq)
    go_split_ands
    go_simp
    try with_reducible rfl
  try simp only [Act.put, List.getElem_toArray, List.getElem_cons_zero, List.getElem_cons_succ, List.setIfInBounds_toArray, List.set_cons_zero, List.set_cons_succ]
  refine wpAnyH_take (i := 8) (v := ?_) rfl (by kernel_rfl) (by kernel_rfl) (by kernel_rfl) (fun _ _ _ h => h) (Or.inl ⟨by rfl, ?_⟩) (by assumption) ?_
  rotate_left
  · intro wq hSq
    have hq := HCC.out wq (Grew.frm hSq)
    go_split_ands
    go_simp
    try with_reducible rfl
  try simp only [Act.put, List.getElem_toArray, List.getElem_cons_zero, List.getElem_cons_succ, List.setIfInBounds_toArray, List.set_cons_zero, List.set_cons_succ]
  refine wpAnyH_ready (rs := [4]) (by kernel_rfl) (by simp) ?_
  refine AllReadyH.cons rfl (fun K hK => ?_) AllReadyH.nil
  try simp only [List.getElem_toArray, List.getElem_cons_zero, List.getElem_cons_succ]
  go_simp
  refine (H1.out _).mono ?_
  rintro e w1 ⟨rfl, hF1⟩
  go_wp2_with fail
  refine hK.out _ _ (hHeld.trans hF1) (fun hHeld => ?_)
  clear hK K
  try simp only [Act.put, List.setIfInBounds_toArray, List.set_cons_zero, List.set_cons_succ]
  refine wpAnyH_ready (rs := [9]) (by kernel_rfl) (by simp) ?_
  refine AllReadyH.cons rfl (fun K hK => ?_) AllReadyH.nil
  try simp only [List.getElem_toArray, List.getElem_cons_zero, List.getElem_cons_succ]
  go_simp
  refine (H2.out _).mono ?_
  rintro e w2 ⟨rfl, hF2⟩
  go_wp2_with fail
  refine hK.out _ _ (hHeld.trans hF2) (fun hHeld => ?_)
  clear hK K
  try simp only [Act.put, List.setIfInBounds_toArray, List.set_cons_zero, List.set_cons_succ]
  refine wpAnyH_ready (rs := [10]) (by kernel_rfl) (by simp) ?_
  refine AllReadyH.cons rfl (fun K hK => ?_) AllReadyH.nil
  try simp only [List.getElem_toArray, List.getElem_cons_zero, List.getElem_cons_succ]
  go_simp
  refine (H3.out _).mono ?_
  rintro e w3 ⟨rfl, hF3⟩
  go_wp2_with fail
  refine hK.out _ _ (hHeld.trans hF3) (fun hHeld => ?_)
  clear hK K
  try simp only [Act.put, List.setIfInBounds_toArray, List.set_cons_zero, List.set_cons_succ]
  refine wpAnyH_take (i := 11) (v := ?_) rfl (by kernel_rfl) (by kernel_rfl) (by kernel_rfl) (fun _ _ _ h => h) (Or.inl ⟨by rfl, ?_⟩) (by assumption) ?_
  rotate_left
  · intro wq hSq
    have hq := HCC.out wq (Grew.frm hSq)
    go_split_ands
    go_simp
    try with_reducible rfl
  try simp only [Act.put, List.getElem_toArray, List.getElem_cons_zero, List.getElem_cons_succ, List.setIfInBounds_toArray, List.set_cons_zero, List.set_cons_succ]
  refine wpAnyH_done (by kernel_rfl) ?_ _
  go_wp2_with fail
  go_ret
  exact ⟨rfl, hHeld⟩

theorem sortW_other {α : Type} [Inhabited α] {enc : α → Value} {w : World} {g m : Nat} {dk : Array α} {os : Array Obj} {k : Nat} {o : Obj} (hk : w.heap[k]? = some o) (hne : k ≠ g) : (sortWorld enc w g 0 m dk os).heap[k]? = some o := by
  have hl := lt_of_block hk
  unfold sortWorld
  rw [heap_grow_old _ _ (by simpa [putRow, mapBlock, Sort.ahead] using hl)]
  have : g ≠ k := fun e => hne e.symm
  simpa [putRow, mapBlock, Sort.ahead, Array.getElem?_modify, this] using hk
theorem sortW_row {α : Type} [Inhabited α] {enc : α → Value} {w : World} {g m : Nat} {dk : Array α} {os : Array Obj} {cur : Array Value} {e : TypeId} {fr : Nat × Nat} (hb : w.heap[g]? = some (.cells cur e fr)) :
    (sortWorld enc w g 0 m dk os).heap[g]? = some (.cells (putCells enc 0 dk cur) e fr) := by
  have hl := lt_of_block hb
  unfold sortWorld
  rw [heap_grow_old _ _ (by simpa [putRow, mapBlock, Sort.ahead] using hl)]
  simp [putRow, mapBlock, Sort.ahead, Array.getElem?_modify, hb, onCells]
theorem take_put {α : Type} [Inhabited α] {enc : α → Value} (cur : Array Value) (d : Array α) (h : d.size ≤ cur.size) : (putCells enc 0 d cur).toList.take d.size = d.toList.map enc := by
  apply List.ext_getElem?
  intro j
  by_cases hj : j < d.size
  · rw [List.getElem?_take_of_lt hj, Array.getElem?_toList]
    simp [putCells, hj, show j < cur.size by omega]
  · rw [List.getElem?_take_eq_none (by omega), List.getElem?_eq_none (by simp; omega)]
theorem sortW_frm {α : Type} [Inhabited α] {enc : α → Value} {w : World} {g m : Nat} {dk : Array α} {os : Array Obj} : Frm (One g) w (sortWorld enc w g 0 m dk os) := by
  refine ⟨rfl, rfl, rfl, by simp [sortWorld, putRow, mapBlock, Sort.ahead], fun k hk hn => ?_⟩
  unfold sortWorld
  rw [heap_grow_old _ _ (by simpa [putRow, mapBlock, Sort.ahead] using hk)]
  have : g ≠ k := fun e => hn (by rw [e]; rfl)
  simp [putRow, mapBlock, Sort.ahead, Array.getElem?_modify, this]

theorem cmpI_neg {a b : Int} : cmpI a b < 0 ↔ a < b := by
  unfold cmpI
  split
  · simp; omega
  · split
    · simp; omega
    · simp; omega
/-- An item's place, as a number. -/
def plI (q : Nat × Im) : Int := plE q.2.1
def SortP (B : Nat) (v : Value) (n : Nat) (l : List (Nat × Im)) (w : World) (e : Ending) (w' : World) : Prop :=
  e = .returned (.tuple #[]) ∧ ∃ l' : List (Nat × Im), l'.Perm l ∧ l'.Pairwise (fun a b => plI a ≤ plI b) ∧ w'.ownsRow B 81 1 v n (l'.map fun q => ptr q.1) ∧ Frm (fun k => v.ownBlock = some k) w w'

set_option maxRecDepth 100000 in
set_option maxHeartbeats 2000000 in
theorem sort_items (v : Value) (n B : Nat) (l : List (Nat × Im)) (w : World) (h : w.ownsRow B 81 1 v n (l.map fun q => ptr q.1)) (hit : ∀ q ∈ l, ItAt w q.1 q.2) (hok : ∀ q ∈ l, q.2.1.ok) (hnd : (l.map plI).Nodup) (hn : n ≤ 1024) :
    Calls Try.prog 38 #[v, .func (.func 39) #[] #[]] w (SortP B v n l w) := by
  have hl : l.length = n := by have := h.1; simpa using this
  rcases h.2 with ⟨rfl, h0⟩ | ⟨g, cap, cur, rfl, hg, hh, hc, hm, hs, ht⟩
  · obtain rfl : l = [] := by
      subst h0
      exact List.eq_nil_of_length_eq_zero hl
    refine (AnyF.slices_SortFunc_none (P := Try.prog) (ρ := Try.sortI_ren) { Try.sortI with } none 0 _ w).mono ?_
    rintro e w' ⟨rfl, rfl⟩
    exact ⟨rfl, [], List.Perm.refl _, List.Pairwise.nil, h, Frm.refl _ _⟩
  · subst hl
    rcases Nat.eq_zero_or_pos l.length with hl0 | hl0
    · obtain rfl : l = [] := List.eq_nil_of_length_eq_zero hl0
      refine (AnyF.slices_SortFunc_none (P := Try.prog) (ρ := Try.sortI_ren) { Try.sortI with } (some ⟨g, 0, none⟩) cap _ w).mono ?_
      rintro e w' ⟨rfl, rfl⟩
      exact ⟨rfl, [], List.Perm.refl _, List.Pairwise.nil, by simpa using h, Frm.refl _ _⟩
    · let enc : Fin l.length → Value := fun i => ptr l[i].1
      let cf : Fin l.length → Fin l.length → Int := fun i j => ordP l[i].2.1.idx l[i].2.1.sub l[j].2.1.idx l[j].2.1.sub
      letI : Inhabited (Fin l.length) := ⟨⟨0, by omega⟩⟩
      let d : Array (Fin l.length) := Array.ofFn fun i => i
      have hds : d.size = l.length := Array.size_ofFn
      have hlt : ∀ x y, ltOf cf x y = decide (plI l[x] < plI l[y]) := fun x y => by
        have ox := hok _ (List.getElem_mem x.2)
        have oy := hok _ (List.getElem_mem y.2)
        show decide (ordP (l[x.1]'x.2).2.1.idx (l[x.1]'x.2).2.1.sub (l[y.1]'y.2).2.1.idx (l[y.1]'y.2).2.1.sub < 0) = decide (plI (l[x.1]'x.2) < plI (l[y.1]'y.2))
        rw [ordP_eq ⟨ox.2.2.1, ox.2.2.2.1⟩ ⟨oy.2.2.1, oy.2.2.2.1⟩]
        exact decide_eq_decide.2 cmpI_neg
      have hO : SWO (ltOf cf) := ⟨fun x => by rw [hlt]; simp, fun x y z h1 h2 => by rw [hlt] at *; simp at *; omega, fun x y z h1 h2 => by rw [hlt] at *; simp at *; omega⟩
      have hT : ∀ x y, (ltOf cf) x y = false → (ltOf cf) y x = false → x = y := fun x y h1 h2 => by
        rw [hlt] at h1 h2
        simp only [decide_eq_false_iff_not, Int.not_lt] at h1 h2
        have := nodup_at hnd (i := x) (k := y) (by simp) (by simp) (by simp only [List.getElem_map]; exact Int.le_antisymm h2 h1)
        exact Fin.ext this
      have hdj : ∀ j (hj : j < l.length), d[j]! = ⟨j, hj⟩ := fun j hj => by
        rw [getElem!_pos d j (by rw [hds]; exact hj)]
        simp [d]
      have hH : Holds enc w g 0 d := fun j hj => by
        have hj' : j < l.length := by rw [← hds]; exact hj
        rw [Nat.zero_add, hdj j hj']
        refine ⟨?_, free_at hh⟩
        rw [h.cellAt j (by omega)]
        simp [enc, hj']
      have hcmp : CmpLays1 Try.prog 39 #[] enc cf g 0 d.size w := fun m os dk hdk x y => by
        have i1 : ItAt (sortWorld enc w g 0 m dk os) l[x].1 l[x].2 := sortW_other (hit _ (List.getElem_mem x.2)) (block_ne (hit _ (List.getElem_mem x.2)) hh (by decide))
        have i2 : ItAt (sortWorld enc w g 0 m dk os) l[y].1 l[y].2 := sortW_other (hit _ (List.getElem_mem y.2)) (block_ne (hit _ (List.getElem_mem y.2)) hh (by decide))
        exact odNew1_grew l[x].1 l[y].1 l[x].2 l[y].2 _ i1 i2
      have hcon := Any.slices_SortFunc_total (P := Try.prog) (ρ := Try.sortI_ren) Try.sortI enc (fun _ => rfl) cf hO 39 #[] g 0 cap d w (enters_of Try.func39 (by kernel_rfl) rfl) hcmp hH (lt_of_block hh) (by rw [hds]; omega) hT
      rw [hds] at hcon
      refine hcon.mono ?_
      rintro e w' ⟨rfl, k, os, rfl⟩
      generalize hms : (d.toList.mergeSort fun x y => !(ltOf cf) y x) = ms at *
      have hperm : ms.Perm d.toList := by rw [← hms]; exact List.mergeSort_perm _ _
      have hpw : ms.Pairwise (fun a b => plI l[a] ≤ plI l[b]) := by
        rw [← hms]
        refine (List.pairwise_mergeSort (le := fun x y => !(ltOf cf) y x) (fun a b c h1 h2 => ?_) (fun a b => ?_) d.toList).imp (fun {a b} h => ?_)
        · simp only [hlt, Bool.not_eq_true', decide_eq_false_iff_not, Int.not_lt] at *; omega
        · simp only [hlt, Bool.or_eq_true, Bool.not_eq_true', decide_eq_false_iff_not, Int.not_lt]; omega
        · simp only [hlt, Bool.not_eq_true', decide_eq_false_iff_not, Int.not_lt] at h; exact h
      have hdl : d.toList.map (fun i => l[i]) = l := by
        apply List.ext_getElem
        · simp [d]
        · intro i h1 h2
          simp [d]
      have hml : ms.length = l.length := by rw [hperm.length_eq]; simp [d]
      have hrow := sortW_row (enc := enc) (m := k) (dk := ms.toArray) (os := os) hh
      have htk := take_put (enc := enc) cur ms.toArray (by simp; omega)
      simp only [List.size_toArray, hml] at htk
      refine ⟨rfl, ms.map (fun i => l[i]), ?_, ?_, ?_, ?_⟩
      · have := hperm.map (fun i => l[i])
        rwa [hdl] at this
      · rw [List.pairwise_map]
        exact hpw
      · refine ⟨by simp [hml], .inr ⟨g, cap, _, rfl, hg, hrow, hc, hm, by simp [putCells]; omega, ?_⟩⟩
        rw [Nat.mul_one, htk, List.map_map]
        rfl
      · refine sortW_frm.mono (fun i _ e => ?_)
        have e : i = g := e
        rw [e]; rfl
end Go.Proofs.Ytemjdmgfilbfaaa
