/-
  The places of the items that are not written again: dcf's lasts. Plain: the items that are not written again, and the places that lasts tells. Plain: items of which those that are written again are left out come to the same, if all are taken. Items that a dictionary is asked whether it would take them. Items in memory of their own; whether an item is written again. read32: four bytes as a number.
-/
import Derived.DeepKeys5
import Derived.Test.YtemjdmgfilbfaaaGreatProg
import Derived.Deep.QuietTactic
import Derived.BigQuiet
import Derived.Laws.Bits64b
import Derived.Laws.BitsAllLaws
import Derived.Test.YtemjdmgfilbfaaaGreatM1cb9520b
import Derived.Test.YtemjdmgfilbfaaaGreatM4bdc22eb
import Derived.Test.YtemjdmgfilbfaaaGreatShelf
import Derived.Test.YtemjdmgfilbfaaaGreatMc6bffdeb
set_option linter.unusedVariables false
set_option linter.unusedSimpArgs false
namespace Go.Proofs.YtemjdmgfilbfaaaGreat
open Go.RowKit Go.Shelf
set_option linter.unusedVariables false
set_option linter.unusedSimpArgs false
attribute [local go_sem] Oper.semAt_some

/-- An item's place. -/
abbrev dplV (x : Itm) : Value := .agg #[.int .u16 x.1, .int .u8 x.2.1]
def samePl (x y : Itm) : Bool := x.1 == y.1 && x.2.1 == y.2.1
/-- What is taken of items that come from the back. -/
def pickB (l : List (Int × Itm)) : List (Int × Itm) := l.foldl (fun acc x => if acc.any (fun y => samePl y.2 x.2) then acc else acc ++ [x]) []
theorem pickB_snoc (l : List (Int × Itm)) (x : Int × Itm) : pickB (l ++ [x]) = if (pickB l).any (fun y => samePl y.2 x.2) then pickB l else pickB l ++ [x] := by
  unfold pickB
  rw [List.foldl_append]
  rfl
theorem pickB_len (l : List (Int × Itm)) : (pickB l).length ≤ l.length := by
  unfold pickB
  have h : ∀ (l acc : List (Int × Itm)), (l.foldl (fun acc x => if acc.any (fun y => samePl y.2 x.2) then acc else acc ++ [x]) acc).length ≤ acc.length + l.length := by
    intro l
    induction l with
    | nil => intro acc; simp
    | cons x r ih =>
      intro acc
      rw [List.foldl_cons, List.length_cons]
      by_cases hc : acc.any (fun y => samePl y.2 x.2) = true
      · rw [if_pos hc]; have := ih acc; omega
      · rw [if_neg hc]; have := ih (acc ++ [x]); rw [List.length_append, List.length_singleton] at this; omega
  have := h l []
  simpa using this
def keysB (l : List (Int × Itm)) : List (Value × Value) := l.map fun x => (dplV x.2, .bool true)
theorem laidD : laidOutB Tryz.prog = true := by kernel_rfl
theorem law_dplace : Maps.Keyed Tryz.prog 132 := Maps.Keyed.of_law (deep_law_laid laidD (m := 2) (by omega) (of_decide_eq_true (by kernel_rfl)) (by kernel_rfl) (by rw [Tryz.underlying132]))
def IsDp (v : Value) : Prop := ∃ l, keyOf Tryz.prog 132 v = some l
theorem keyOf_dplace (i s : Int) (hi : 0 ≤ i ∧ i ≤ 65535) (hs : 0 ≤ s ∧ s ≤ 255) : IsDp (.agg #[.int .u16 i, .int .u8 s]) := by
  have hkt : Tryz.prog.keyType 132 = true := by kernel_rfl
  have hc : Tryz.prog.cellsOf 132 = 2 := by kernel_rfl
  have hc1 : Tryz.prog.cellsOf 54 = 1 := by kernel_rfl
  have hc2 : Tryz.prog.cellsOf 5 = 1 := by kernel_rfl
  have wi : (Lit.int .u16 i).wf = true := by simp [Lit.wf, IntKind.min, IntKind.max, IntKind.signed, IntKind.bits]; omega
  have ws : (Lit.int .u8 s).wf = true := by simp [Lit.wf, IntKind.min, IntKind.max, IntKind.signed, IntKind.bits]; omega
  obtain ⟨m, hm⟩ : ∃ m, Tryz.prog.types.size = m + 1 := ⟨Tryz.prog.types.size - 1, by have h : (0 : Nat) < Tryz.prog.types.size := of_decide_eq_true (by kernel_rfl); omega⟩
  unfold IsDp keyOf
  simp only [Tryz.underlying132]
  rw [if_pos (by simp [hkt, Value.formed, Tryz.underlying132, hc]), hm]
  unfold Program.keyLits
  simp only [Tryz.underlying132, Value.cells]
  rw [if_pos (by refine ⟨by rw [hc]; rfl, by kernel_rfl⟩)]
  simp [hc1, hc2, Program.keyLits, Tryz.underlying54, Tryz.underlying5, wi, ws]
theorem key_dplace : KeyOk Tryz.prog 132 IsDp := KeyOk.of_keyed law_dplace
theorem zero_boolD (w : World) : (zeroValue 4).run Tryz.prog w = .ok (.bool false) w := by kernel_rfl
theorem el_int : El Tryz.prog 52 3 1 8 := El.of Tryz.underlying52 (z := .int .i64 0) (by kernel_rfl) rfl (by decide)
/-- Cells written one behind the other into a block. -/
theorem heap_setCells {w : World} {b : Nat} {cs : Array Value} {t : TypeId} {fz : Nat × Nat} (vs : List Value) (o : Nat) (h : w.heap[b]? = some (.cells cs t fz)) (ho : o + vs.length ≤ cs.size) :
    ∃ ds : Array Value, (w.setCells b o vs).heap[b]? = some (.cells ds t fz) ∧ ds.size = cs.size ∧ ds.toList.take (o + vs.length) = cs.toList.take o ++ vs := by
  induction vs generalizing w cs o with
  | nil => exact ⟨cs, h, rfl, by simp⟩
  | cons v r ih =>
    obtain ⟨ds, h1, h2, h3⟩ := ih (w := w.setCell ⟨b, o, none⟩ v) (cs := cs.setIfInBounds o v) (o + 1) (heap_set_same h v) (by simp at ho ⊢; omega)
    refine ⟨ds, h1, by simpa using h2, ?_⟩
    have e : o + (v :: r).length = o + 1 + r.length := by simp; omega
    rw [e, h3, Array.toList_setIfInBounds]
    have hl : o < cs.toList.length := by simp at ho ⊢; omega
    rw [List.take_add_one, List.getElem?_set_self hl, List.take_set_of_le (Nat.le_refl _)]
    simp
theorem Frm.setCells {S : Nat → Prop} {a w : World} (b : Nat) (vs : List Value) (o : Nat) (h : Frm S a w) (hb : b < a.heap.size → S b) : Frm S a (w.setCells b o vs) := by
  induction vs generalizing w o with
  | nil => exact h
  | cons v r ih => exact ih (w := w.setCell ⟨b, o, none⟩ v) (o + 1) (h.setCell (p := ⟨b, o, none⟩) hb v)
/-- What a loop over items from the back has done so far. -/
def LsI (w : World) (n : Nat) (sv : Value) (pre : List Bk) (W : World) : Prop := ∃ v, W.heap[n + 1]? = some (.cells #[.map (some n)] 127 (0, 0)) ∧ W.heap[n + 2]? = some (.cells #[v] 52 (0, 0)) ∧ W.heap[n + 3]? = some (.cells #[sv] 46 (0, 0)) ∧ W.ownsRow n 3 1 v (pickB (pre.map (·.1))).length ((pickB (pre.map (·.1))).map fun x => .int .i64 x.1) ∧ MapAt IsDp W n (keysB (pickB (pre.map (·.1)))) ∧ Frm (fun _ => False) w W
theorem LsI.size {w W : World} {n : Nat} {sv : Value} {pre : List Bk} (h : LsI w n sv pre W) : n + 4 ≤ W.heap.size := by
  obtain ⟨v, _, _, h3, _⟩ := h
  have := lt_of_block h3
  omega
theorem LsI.kept {w A B : World} {n : Nat} {sv : Value} {pre : List Bk} {row : Option Nat} (h : LsI w n sv pre A) (hn : n = w.heap.size) (hg : A.grownBy B row) (hr : ∀ r, row = some r → n + 4 ≤ r ∧ ∃ o : Obj, A.heap[r]? = some o ∧ o.isCells = false) : LsI w n sv pre B := by
  obtain ⟨v, h1, h2, h2', h3, h4, h5⟩ := h
  have hF : Frm (fun k => row = some k) A B := (Frm.refl _ _).grown hg (fun k hk _ => hk)
  refine ⟨v, hF.heap h1 (fun e => by have := (hr _ e).1; omega), hF.heap h2 (fun e => by have := (hr _ e).1; omega), hF.heap h2' (fun e => by have := (hr _ e).1; omega), hF.row h3 (fun k hk e => ?_), h4.frm hF (fun e => by have := (hr _ e).1; omega), h5.trans hF (fun i hi e => by have := (hr _ e).1; omega)⟩
  obtain ⟨_, o, ho, hc⟩ := hr _ e
  obtain ⟨_, cur, hb⟩ := row_block h3 hk
  rw [hb] at ho
  cases ho
  cases hc
theorem LsI.alloc {w A : World} {n : Nat} {sv : Value} {pre : List Bk} (o : Obj) (h : LsI w n sv pre A) (hn : n = w.heap.size) : LsI w n sv pre (A.alloc o) := h.kept hn (World.grownBy_alloc A o none) (fun r e => by cases e)
/-- What a round may write. -/
def LsS (n : Nat) (v : Value) : Nat → Prop := fun k => k = n ∨ k = n + 2 ∨ v.ownBlock = some k
theorem ls_keeps {W W' : World} {n len : Nat} {v sv : Value} {xs : List Value} (hF : Frm (LsS n v) W W') (hrow : W.ownsRow n 3 1 v len xs) (h3 : W.heap[n + 3]? = some (.cells #[sv] 46 (0, 0))) : KeepsFrom (n + 4) W W' ∧ KbB n (n + 3) W W' := by
  refine ⟨⟨hF.size, fun k o hB hk ho => hF.heap hk ?_⟩, hF.below (by have := lt_of_block h3; omega) (fun i hi => ?_), (hF.block _ (lt_of_block h3) ?_)⟩
  · rintro (e | e | e)
    · omega
    · omega
    · obtain ⟨_, cur, hc⟩ := row_block hrow e
      rw [hk] at hc
      cases hc
      cases ho
  · rintro (e | e | e)
    · omega
    · omega
    · have := (row_block hrow e).1
      omega
  · rintro (e | e | e)
    · omega
    · omega
    · obtain ⟨_, cur, hc⟩ := row_block hrow e
      exact block_ne hc h3 (by decide) rfl
theorem key_hit {l : List (Int × Itm)} {x : Itm} (h : l.any (fun y => samePl y.2 x) = true) : ∃ j : Nat, (keysB l)[j]? = some (dplV x, Value.bool true) := by
  obtain ⟨y, hy, e⟩ := List.any_eq_true.1 h
  obtain ⟨j, hj, rfl⟩ := List.getElem_of_mem hy
  refine ⟨j, ?_⟩
  unfold samePl at e
  simp only [Bool.and_eq_true, beq_iff_eq] at e
  unfold keysB
  rw [List.getElem?_map, List.getElem?_eq_getElem hj, Option.map_some]
  unfold dplV
  rw [e.1, e.2]
theorem key_miss {l : List (Int × Itm)} {x : Itm} (h : l.any (fun y => samePl y.2 x) = false) : ∀ p ∈ keysB l, p.1 ≠ dplV x := by
  intro p hp e
  obtain ⟨y, hy, rfl⟩ := List.mem_map.1 hp
  simp only [Value.agg.injEq, Array.mk.injEq, List.cons.injEq, Value.int.injEq, true_and, and_true] at e
  have := List.any_eq_false.1 h y hy
  unfold samePl at this
  rw [e.1, e.2] at this
  simp at this
theorem set_same {α : Type} {l : List α} {j : Nat} {x : α} (h : l[j]? = some x) : l.set j x = l := by
  obtain ⟨hj, rfl⟩ := List.getElem?_eq_some_iff.1 h
  exact List.set_getElem_self _
/-- A round that takes its item: the append, the store, the map's update. -/
theorem ls_push {w W w3 : World} {i a b : Int} {m cv : Nat} {Av : Option Addr} {sv sx v' : Value} {bs : List UInt8} {L : List (Int × Itm)} (hn : m = w.heap.size) (q1 : W.heap[m + 1]? = some (.cells #[.map (some m)] 127 (0, 0))) (q2 : W.heap[m + 2]? = some (.cells #[.slice Av L.length cv] 52 (0, 0))) (q3 : W.heap[m + 3]? = some (.cells #[sv] 46 (0, 0)))
    (q4 : W.ownsRow m 3 1 (.slice Av L.length cv) L.length (L.map fun x => .int .i64 x.1)) (q5 : MapAt IsDp W m (keysB L)) (q6 : Frm (fun _ => False) w W) (hk : IsDp (dplV (a, b, sx, bs))) (hmiss : ∀ p ∈ keysB L, p.1 ≠ dplV (a, b, sx, bs))
    (hown : w3.ownsRow m 3 1 v' (L.length + 1) ((L.map fun x => .int .i64 x.1) ++ [.int .i64 i])) (hg : ((W.alloc (.cells #[.int .u16 a, .int .u8 b] 132)).alloc (.cells #[.int .i64 i] 3)).grownBy w3 (Value.slice Av L.length cv).ownBlock) :
    w3.heap[m + 2]? = some (.cells #[.slice Av L.length cv] 52 (0, 0)) ∧ (w3.setCell ⟨m + 2, 0, none⟩ v').heap[m + 1]? = some (.cells #[.map (some m)] 127 (0, 0)) ∧ (w3.setCell ⟨m + 2, 0, none⟩ v').heap[W.heap.size]? = some (.cells #[.int .u16 a, .int .u8 b] 132 (0, 0)) ∧
    ∃ w5, (Instr.mapUpdate 127 (.map (some m)) (dplV (a, b, sx, bs)) (.bool true)).run Tryz.prog (w3.setCell ⟨m + 2, 0, none⟩ v') = .ok () w5 ∧ KeepsFrom (m + 4) W w5 ∧ KbB m (m + 3) W w5 ∧ w5.heap[m + 1]? = some (.cells #[.map (some m)] 127 (0, 0)) ∧ w5.heap[m + 2]? = some (.cells #[v'] 52 (0, 0)) ∧ w5.heap[m + 3]? = some (.cells #[sv] 46 (0, 0)) ∧
      w5.ownsRow m 3 1 v' (L ++ [(i, a, b, sx, bs)]).length ((L ++ [(i, a, b, sx, bs)]).map fun x => .int .i64 x.1) ∧ MapAt IsDp w5 m (keysB (L ++ [(i, a, b, sx, bs)])) ∧ Frm (fun _ => False) w w5 := by
  have hsz := lt_of_block q3
  have hFa : Frm (fun _ => False) W ((W.alloc (.cells #[.int .u16 a, .int .u8 b] 132)).alloc (.cells #[.int .i64 i] 3)) := by (repeat' (first | (with_reducible exact Frm.refl _ _) | (with_reducible assumption) | (with_reducible refine Frm.alloc ?_ _) | (with_reducible refine Frm.drew ?_) | (with_reducible refine Frm.drewN ?_ _) | (with_reducible refine Frm.set1 ?_ _) | (with_reducible refine Frm.setCell ?_ ?_ _) | (exact fun h => absurd h (Nat.lt_irrefl _)) | (intro hlt; simp [World.size_alloc, One] at hlt ⊢; omega)))
  have hFg : Frm (fun k => (Value.slice Av L.length cv).ownBlock = some k) ((W.alloc (.cells #[.int .u16 a, .int .u8 b] 132)).alloc (.cells #[.int .i64 i] 3)) w3 := (Frm.refl _ _).grown hg (fun k hk _ => hk)
  have hno : ∀ (k : Nat) (cs : Array Value) (t : TypeId), W.heap[k]? = some (.cells cs t (0, 0)) → t ≠ 3 → (Value.slice Av L.length cv).ownBlock ≠ some k := fun k cs t h1 h2 e => by
    obtain ⟨_, cur, hc⟩ := row_block q4 e
    exact block_ne hc h1 (fun e => h2 e.symm) rfl
  have hnm : (Value.slice Av L.length cv).ownBlock ≠ some m := fun e => by
    obtain ⟨_, cur, hc⟩ := row_block q4 e
    obtain ⟨es, cl, hm9, _⟩ := q5
    rw [hc] at hm9
    cases hm9
  have hnp : (Value.slice Av L.length cv).ownBlock ≠ some W.heap.size := fun e => by
    obtain ⟨_, cur, hc⟩ := row_block q4 e
    exact absurd (lt_of_block hc) (Nat.lt_irrefl _)
  have a1 := hFg.heap (hFa.heap q1 (fun h => h)) (hno _ _ _ q1 (by decide))
  have a2 := hFg.heap (hFa.heap q2 (fun h => h)) (hno _ _ _ q2 (by decide))
  have a3 := hFg.heap (hFa.heap q3 (fun h => h)) (hno _ _ _ q3 (by decide))
  have a4 := hFg.heap (heap_alloc_old (o := .cells #[.int .i64 i] 3) (heap_new W (.cells #[.int .u16 a, .int .u8 b] 132))) hnp
  have a5 := (q5.frm hFa (fun h => h)).frm hFg hnm
  have hFs : Frm (One (m + 2)) w3 (w3.setCell ⟨m + 2, 0, none⟩ v') := (Frm.refl _ _).set1 _
  have y1 := hFs.heap a1 (fun e => by have e : m + 1 = m + 2 := e; omega)
  have y2 : (w3.setCell ⟨m + 2, 0, none⟩ v').heap[m + 2]? = some (.cells #[v'] 52 (0, 0)) := heap_set_at a2 rfl
  have y3 := hFs.heap a3 (fun e => by have e : m + 3 = m + 2 := e; omega)
  have y4 := hFs.heap a4 (fun e => by have e : W.heap.size = m + 2 := e; omega)
  have y5 := a5.frm hFs (fun e => by have e : m = m + 2 := e; omega)
  have hnv : v'.ownBlock ≠ some (m + 2) := fun e => by
    obtain ⟨_, cur, hc⟩ := row_block hown e
    exact block_ne hc a2 (by decide) rfl
  have y6 := hFs.row hown (fun k hk e => by
    have e : k = m + 2 := e
    subst e
    exact hnv hk)
  obtain ⟨w5, hrun, hM, hF5⟩ := y5.push key_dplace Tryz.underlying127 hk hmiss (.bool true)
  have hAll : Frm (LsS m (.slice Av L.length cv)) W w5 := (((hFa.mono (fun _ _ h => h.elim)).trans (T := fun k => (Value.slice Av L.length cv).ownBlock = some k) hFg (fun k _ e => .inr (.inr e))).trans hFs (fun k _ e => .inr (.inl e))).trans hF5 (fun k _ e => .inl e)
  obtain ⟨k1, k2⟩ := ls_keeps hAll q4 q3
  refine ⟨a2, y1, y4, w5, hrun, k1, k2, hF5.heap y1 (fun e => by have e : m + 1 = m := e; omega), hF5.heap y2 (fun e => by have e : m + 2 = m := e; omega), hF5.heap y3 (fun e => by have e : m + 3 = m := e; omega), ?_, ?_, q6.trans hAll (fun k hk e => ?_)⟩
  · rw [List.length_append, List.map_append]
    refine hF5.row y6 (fun k hk e => ?_)
    have e : k = m := e
    subst e
    obtain ⟨_, cur, hc⟩ := row_block y6 hk
    obtain ⟨es, cl, hm9, _⟩ := y5
    rw [hc] at hm9
    cases hm9
  · have e : keysB (L ++ [(i, a, b, sx, bs)]) = keysB L ++ [(dplV (a, b, sx, bs), Value.bool true)] := by simp [keysB]
    rw [e]
    exact hM
  · rcases e with e | e | e
    · omega
    · omega
    · have := (row_block q4 e).1
      omega
/-- What lasts hands back. -/
def lastB (xs : List Itm) : List Int := ((pickB (backI xs)).map (·.1)).reverse
def LastsP (xs : List Itm) (w : World) (e : Ending) (w' : World) : Prop := ∃ v, e = .returned v ∧ w'.ownsRow w.heap.size 3 1 v (lastB xs).length ((lastB xs).map (.int .i64)) ∧ Frm (fun _ => False) w w'

set_option maxRecDepth 100000 in
set_option maxHeartbeats 2000000 in
theorem lasts_any (v : Value) (xs : List Itm) (w : World) (h : SlAt encIt 3 w v xs) (hr : ∀ x ∈ xs, RngS x) (hl : xs.length ≤ 4398046510976) :
    Calls Tryz.prog 48 #[v] w (LastsP xs w) := by
  refine (callsIn_wide (n := 6)).1 ?_
  have h1 : 1 ≤ 6 := by omega
  have HS := Lib.hid h
  obtain ⟨A, cap, rfl, hc1, hc2, hcell⟩ := h
  have hm : xs.length ≤ 9223372036854775807 := Nat.le_trans hc1 hc2
  clear hcell hc1 hc2
  have hmm := @run_makeMap Tryz.prog
  refine callsIn_of_wp_marks Tryz.func48 rfl trivial ?_ rfl
  simp only [Tryz.ntmps48, List.size_toArray, List.length_cons, List.length_nil, Nat.reduceAdd, Nat.reduceSub, Array.replicate_succ, Array.replicate_zero, List.push_toArray, List.append_toArray, List.nil_append, List.cons_append]
  gi_wp2_with (refine ⟨trivial, ?_⟩; gi_at_call 74; refine (back_in Fence.wide (6 - 1) trivial rfl _ _ ⟨_, _, _, rfl⟩).mono ?_; rintro e w' ⟨rfl, rfl⟩)
  have hM0 : MapAt IsDp (((w.alloc (.map #[] 0)).alloc (.cells #[.map (some w.heap.size)] 127)).alloc (.cells #[.slice none 0 0] 52) |>.alloc (.cells #[.slice A xs.length cap] 46)) w.heap.size [] := ((((MapAt.made IsDp w).frm ((Frm.refl (fun _ => False) _).alloc _) (fun h => h)).frm ((Frm.refl (fun _ => False) _).alloc _) (fun h => h)).frm ((Frm.refl (fun _ => False) _).alloc _) (fun h => h))
  have hB1 : ((((w.alloc (.map #[] 0)).alloc (.cells #[.map (some w.heap.size)] 127)).alloc (.cells #[.slice none 0 0] 52)).alloc (.cells #[.slice A xs.length cap] 46)).heap[w.heap.size + 1]? = some (.cells #[.map (some w.heap.size)] 127 (0, 0)) := heap_alloc_old (heap_alloc_old (heap_new_at (by simp)))
  have hB2 : ((((w.alloc (.map #[] 0)).alloc (.cells #[.map (some w.heap.size)] 127)).alloc (.cells #[.slice none 0 0] 52)).alloc (.cells #[.slice A xs.length cap] 46)).heap[w.heap.size + 2]? = some (.cells #[.slice none 0 0] 52 (0, 0)) := heap_alloc_old (heap_new_at (by simp))
  have hB3 : Boxed ((((w.alloc (.map #[] 0)).alloc (.cells #[.map (some w.heap.size)] 127)).alloc (.cells #[.slice none 0 0] 52)).alloc (.cells #[.slice A xs.length cap] 46)) (w.heap.size + 3) 46 (.slice A xs.length cap) := heap_new_at (by simp)
  have hFr : Frm (fun _ => False) w ((((w.alloc (.map #[] 0)).alloc (.cells #[.map (some w.heap.size)] 127)).alloc (.cells #[.slice none 0 0] 52)).alloc (.cells #[.slice A xs.length cap] 46)) := by (repeat' (first | (with_reducible exact Frm.refl _ _) | (with_reducible assumption) | (with_reducible refine Frm.alloc ?_ _) | (with_reducible refine Frm.drew ?_) | (with_reducible refine Frm.drewN ?_ _) | (with_reducible refine Frm.set1 ?_ _) | (with_reducible refine Frm.setCell ?_ ?_ _) | (exact fun h => absurd h (Nat.lt_irrefl _)) | (intro hlt; simp [World.size_alloc, One] at hlt ⊢; omega)))
  have hsz : ((((w.alloc (.map #[] 0)).alloc (.cells #[.map (some w.heap.size)] 127)).alloc (.cells #[.slice none 0 0] 52)).alloc (.cells #[.slice A xs.length cap] 46)).heap.size = w.heap.size + 4 := by simp
  obtain ⟨W0, hW0⟩ : ∃ W0, (((w.alloc (.map #[] 0)).alloc (.cells #[.map (some w.heap.size)] 127)).alloc (.cells #[.slice none 0 0] 52)).alloc (.cells #[.slice A xs.length cap] 46) = W0 := ⟨_, rfl⟩
  rw [hW0] at hM0 hB1 hB2 hB3 hFr hsz ⊢
  clear hW0 hmm
  have hI0 : LsI w w.heap.size (.slice A xs.length cap) [] W0 := ⟨_, hB1, hB2, hB3, World.ownsRow_nil _ _ _ _, hM0, hFr⟩
  refine wpIn_rangeFunc_ownH (F := Fence.wide) (n := 6) rfl h1 (gf := 98) (lb := #[.pointer (some ⟨w.heap.size + 1 + 1 + 1, 0, none⟩)]) rfl trivial (enters_of Tryz.func98 (by kernel_rfl) rfl)
    (back_stops Fence.wide (6 - 1) trivial rfl (by omega) (w.heap.size + 3) w.heap.size _ xs w W0 hB3 HS.out rfl (hFr.below (Nat.le_refl _) (fun _ _ h => h)) hr) (fun h k => h.trans k)
    (fun W l o o' hl ho hc hw => ⟨belowK_b (w := W0) (by omega) W l o o' hl ho hc hw, World.putObj_heap_other (by omega)⟩) (Below.refl _ _) (fun _ => rfl)
    (fun pre W => LsI w w.heap.size (.slice A xs.length cap) pre W) (fun _ _ _ => False)
    (fun s X Y row hs hg hr => hs.kept rfl hg (fun r e => by have := hr r e; rw [hsz] at this; exact this))
    (fun _ _ _ _ _ hs _ _ => hs) hI0
    (fun x a' W => ∃ Bx, w.heap.size + 4 ≤ Bx ∧ W.heap[Bx]? = some (.cells #[.int .u16 x.1.2.1, .int .u8 x.1.2.2.1, x.1.2.2.2.1] 63 (0, 0)) ∧ a' = { tmps := #[.slice A xs.length cap, undef, .slice none 0 0, .pointer (some ⟨w.heap.size + 1, 0, none⟩), .pointer (some ⟨w.heap.size + 1 + 1, 0, none⟩), .int .i64 x.1.1, .pointer (some ⟨Bx, 0, none⟩), undef, .map (some w.heap.size), .slice A xs.length cap, .func (.func 98) #[] #[.pointer (some ⟨w.heap.size + 1 + 1 + 1, 0, none⟩)], .int .i64 x.1.1, .agg #[.int .u16 x.1.2.1, .int .u8 x.1.2.2.1, x.1.2.2.2.1], undef, undef, undef, undef, undef, undef, undef, undef, undef, undef, undef, undef, undef, undef, undef, undef, undef, undef], defers := [] })
    (fun x a' _ X Y row hs hg hr => by
      obtain ⟨Bx, q1, q2, q3⟩ := hs
      refine ⟨Bx, q1, (hg.block Bx (lt_of_block q2) (fun e => ?_)).trans q2, q3⟩
      obtain ⟨_, o, ho, hc⟩ := hr Bx e.symm
      rw [q2] at ho; cases ho; cases hc)
    ?assign ?body ?done ?stop
  case assign =>
    rintro l pre x W K hi hK
    obtain ⟨⟨i, a, b, sv, bs⟩, hx⟩ := x
    obtain ⟨A', k', c', hxe⟩ := hx.2.2
    simp only at hxe
    subst hxe
    have hiA := hi.alloc (.cells #[.int .u16 a, .int .u8 b, .slice A' k' c'] 63) rfl
    have hsW : w.heap.size + 4 ≤ W.heap.size := hi.size
    simp only [encsBk]
    gi_wp2
    refine hK _ _ ((KeepsOthers.alloc _ _).from _) ⟨(Below.refl _ W).alloc (by omega) _, Below.heap_alloc W _ _ (by omega)⟩ hiA ⟨W.heap.size, hsW, heap_new _ _, rfl⟩
  case body =>
    rintro l pre x a' W hl ⟨r, hr'⟩ hi ⟨Bx, hBx, hX, rfl⟩ hlt
    obtain ⟨⟨i, a, b, sv, bs⟩, hx⟩ := x
    obtain ⟨v, q1, q2, q3, q4, q5, q6⟩ := hi
    have hsn : pickB ((pre ++ [(⟨(i, a, b, sv, bs), hx⟩ : Bk)]).map (·.1)) = if (pickB (pre.map (·.1))).any (fun y => samePl y.2 (a, b, sv, bs)) then pickB (pre.map (·.1)) else pickB (pre.map (·.1)) ++ [(i, a, b, sv, bs)] := by
      rw [List.map_append]
      exact pickB_snoc _ _
    have HSN := Lib.hid hsn
    have hpl := pickB_len (pre.map (·.1))
    rw [List.length_map] at hpl
    generalize pickB (pre.map (·.1)) = L at *
    have hk : IsDp (dplV (a, b, sv, bs)) := keyOf_dplace a b hx.1 hx.2.1
    simp only at hX hsn
    have x0 : W.cell? ⟨Bx, 0, none⟩ = some (.int .u16 a) := cell_at hX
    have x1 : W.cell? ⟨Bx, 1, none⟩ = some (.int .u8 b) := cell_at hX
    have c3 : W.cell? ⟨w.heap.size + 1, 0, none⟩ = some (.map (some w.heap.size)) := cell_at q1
    have c4 : W.cell? ⟨w.heap.size + 2, 0, none⟩ = some v := cell_at q2
    have f4 := frees q2
    have hBl := lt_of_block hX
    have hw1 := lt_of_block q1
    have hw2 := lt_of_block q2
    have hFA : Frm (fun _ => False) W (W.alloc (.cells #[.int .u16 a, .int .u8 b] 132)) := (Frm.refl _ _).alloc _
    have hMA := q5.frm hFA (fun h => h)
    have Q1 := Lib.hid q1
    have Q2 := Lib.hid q2
    have Q3 := Lib.hid q3
    have Q4 := Lib.hid q4
    have Q5 := Lib.hid q5
    have Q6 := Lib.hid q6
    have HFA := Lib.hid hFA
    have HMA := Lib.hid hMA
    clear hsn q1 q2 q3 q4 q5 q6 hX hFA hMA hr' hl
    obtain ⟨Av, cv, rfl, _, _, _⟩ := row_open Q4.out
    obtain ⟨A', k', c', hxe⟩ := hx.2.2
    simp only at hxe
    subst hxe
    cases hin : L.any (fun y => samePl y.2 (a, b, .slice A' k' c', bs)) with
    | true =>
      obtain ⟨j, hj⟩ := key_hit hin
      have hlook := HMA.out.hit key_dplace Tryz.underlying127 hk (List.mem_of_getElem? hj) false
      obtain ⟨w2, hrun, hM2, hF2⟩ := HMA.out.put key_dplace Tryz.underlying127 hk hj (.bool true)
      rw [set_same hj] at hM2
      have HM2 := Lib.hid hM2
      have HF1 : Hid (Frm (One w.heap.size) W w2) := (HFA.out.mono (fun _ _ h => h.elim)).trans' hF2
      have HSN2 : Hid (pickB ((pre ++ [(⟨(i, a, b, .slice A' k' c', bs), hx⟩ : Bk)]).map (·.1)) = L) := by unfold Hid; rw [HSN.out, hin]; rfl
      simp only [Bool.false_eq_true, if_false] at hlook
      clear hM2 hF2 hj hin hk
      gi_wp2
      obtain ⟨k1, k2⟩ := ls_keeps (HF1.out.mono (fun k _ e => .inl e)) Q4.out Q3.out
      refine ⟨by rw [hsz]; exact k1, k2, _, HF1.out.heap Q1.out (fun e => by have e : w.heap.size + 1 = w.heap.size := e; omega), HF1.out.heap Q2.out (fun e => by have e : w.heap.size + 2 = w.heap.size := e; omega), k2.2.trans Q3.out, ?_, ?_, Q6.out.trans HF1.out (fun k hk e => by have e : k = w.heap.size := e; omega)⟩
      · rw [HSN2.out]
        refine HF1.out.row Q4.out (fun k hk e => ?_)
        have e : k = w.heap.size := e
        subst e
        obtain ⟨_, cur, hc⟩ := row_block Q4.out hk
        obtain ⟨es, cl, hm9, _⟩ := Q5.out
        rw [hc] at hm9
        cases hm9
      · rw [HSN2.out]
        exact HM2.out
    | false =>
      have hlook := HMA.out.miss key_dplace Tryz.underlying127 (zero_boolD _) hk (key_miss hin) false
      simp only [Bool.false_eq_true, if_false] at hlook
      have HSN2 : Hid (pickB ((pre ++ [(⟨(i, a, b, .slice A' k' c', bs), hx⟩ : Bk)]).map (·.1)) = L ++ [(i, a, b, .slice A' k' c', bs)]) := by unfold Hid; rw [HSN.out, hin]; rfl
      have HMISS := Lib.hid (key_miss hin)
      have HK := Lib.hid hk
      clear hin hk
      obtain ⟨i0, z0, hi0, hz0, hz1, hz2, hz3⟩ := el_int.ex
      have b1 : L.length + 1 ≤ maxLen := by unfold maxLen; omega
      have b2 : (L.length + 1) * 8 ≤ 140737488355328 := by omega
      have hrowA : ((W.alloc (.cells #[.int .u16 a, .int .u8 b] 132)).alloc (.cells #[.int .i64 i] 3)).ownsRow w.heap.size 3 1 (.slice Av L.length cv) L.length (L.map fun x => .int .i64 x.1) := (Q4.out.alloc _).alloc _
      have HROWA := Lib.hid hrowA
      clear hrowA
      have hnews : ∀ (j : Nat) (u : Value), ([.int .i64 i] : List Value)[j]? = some u → ((W.alloc (.cells #[.int .u16 a, .int .u8 b] 132)).alloc (.cells #[.int .i64 i] 3)).cell? ((⟨W.heap.size + 1, 0, none⟩ : Addr).add j) = some u := fun j u hj => by
        rw [add_zero']
        have h9 : ((W.alloc (.cells #[.int .u16 a, .int .u8 b] 132)).alloc (.cells #[.int .i64 i] 3)).heap[W.heap.size + 1]? = some (.cells #[.int .i64 i] 3 (0, 0)) := heap_new_at (by simp)
        rw [cell_at h9]
        simpa using hj
      have HNEWS := Lib.hid hnews
      have hbs : w.heap.size ≤ ((W.alloc (.cells #[.int .u16 a, .int .u8 b] 132)).alloc (.cells #[.int .i64 i] 3)).heap.size := by simp; omega
      clear hnews
      gi_wp2_with (gi_at_builtin; refine wpListIn_append_own _ rfl _ _ 52 rfl w.heap.size 3 i0 z0 1 8 Tryz.underlying52 hi0 hz0 hz1 hz2 hz3 (by decide) _ _ _ rfl HROWA.out ⟨W.heap.size + 1, 0, none⟩ 1 1 [.int .i64 i] rfl rfl HNEWS.out (by simp [Value.oneCell']) b1 b2 hbs ?_; intro v' w3 hown' hgrow _; obtain ⟨g', cap', rfl⟩ := ownsRow_succ hown'; obtain ⟨p2, p1, p4, w5, hrun, r1, r2, r3, r4, r5, r6, r7, r8⟩ := ls_push rfl Q1.out Q2.out Q3.out Q4.out Q5.out Q6.out HK.out HMISS.out hown' hgrow; have R1 := Lib.hid r1; have R2 := Lib.hid r2; have R3 := Lib.hid r3; have R4 := Lib.hid r4; have R5 := Lib.hid r5; have R6 := Lib.hid r6; have R7 := Lib.hid r7; have R8 := Lib.hid r8; have s0 := cell_at p2 (o := 0); have s1 := frees p2; have s2 := lt_of_block p2; have s3 := cell_at p1 (o := 0); have s4 := cell_at p4 (o := 0); have s5 := cell_at p4 (o := 1); simp only [List.getElem?_toArray, List.getElem?_cons_zero, List.getElem?_cons_succ] at s0 s3 s4 s5; clear hown' hgrow p2 p1 p4 r1 r2 r3 r4 r5 r6 r7 r8 c3 c4 f4 x0 x1)
      refine ⟨by rw [hsz]; exact R1.out, R2.out, _, R3.out, R4.out, R5.out, ?_, ?_, R8.out⟩
      · rw [HSN2.out]
        exact R6.out
      · rw [HSN2.out]
        exact R7.out
  case done =>
    rintro D ys W hD hys ⟨v, q1, q2, q3, q4, q5, q6⟩ hK
    have hy : pickB (ys.map (·.1)) = pickB (backI xs) := by rw [hys]
    rw [hy] at q4
    have hLS : lastB xs = ((pickB (backI xs)).map (·.1)).reverse := rfl
    have hpl := pickB_len (backI xs)
    rw [backI_len] at hpl
    generalize pickB (backI xs) = L at *
    have c4 : W.cell? ⟨w.heap.size + 2, 0, none⟩ = some v := cell_at q2
    have hzl : (L.map (·.1)).length = L.length := List.length_map ..
    have hzm : L.map (fun x => Value.int .i64 x.1) = (L.map (·.1)).map (Value.int .i64) := by rw [List.map_map]; rfl
    rw [hzm] at q4
    rw [← hzl] at q4 hpl
    generalize L.map (·.1) = zs at *
    have HLB := Lib.hid hLS
    have hDn : w.heap.size + 4 ≤ D := by rw [← hsz]; exact hD
    rcases Nat.eq_zero_or_pos zs.length with h0 | h0
    · obtain ⟨Av, cv, rfl, _, _, _⟩ := row_open q4
      have hz : zs = [] := List.eq_nil_of_length_eq_zero h0
      subst hz
      have HRV := Lib.hid (Tryz.slices_Reverse_int_empty Av cv W)
      have HK := Lib.hid hK
      have Q4 := Lib.hid q4
      have Q6 := Lib.hid q6
      simp only [List.length_nil] at c4
      clear hK q1 q2 q3 q4 q5 q6 hy hLS hys h0 hzm hzl
      gi_wp2_with (refine ⟨trivial, ?_⟩; gi_at_call 75; refine (callsIn_wide.2 HRV.out).mono ?_; rintro e W ⟨rfl, rfl⟩)
      refine ⟨by simp, .inl ⟨_, _, rfl, run_takeDeferred HK.out, ?_⟩⟩
      have hFD : Frm (fun k => k = D) W (W.putObj D (.deferred none)) := (Frm.refl _ _).grown (grownBy_putObj' W D _) (fun k hk _ => by cases hk; rfl)
      refine ⟨_, results_tmp rfl _ _ _, .slice Av 0 cv, rfl, by rw [HLB.out]; exact hFD.row Q4.out (fun k hk e => by subst e; obtain ⟨_, cur, hc⟩ := row_block Q4.out hk; have hkd := HK.out; rw [hc] at hkd; cases hkd), Q6.out.trans hFD (fun k hk e => by omega)⟩
    · have q4' := q4
      obtain ⟨Av, cv, rfl, _, _, q8⟩ := row_open q4
      obtain ⟨g, rfl, hgn, ⟨cur, hcu⟩, hfz, hcc⟩ := q8 h0
      have hcells : ∀ j, j < zs.length → W.cell? ⟨g, 0 + j, none⟩ = some (.int .i64 (zs.getD j 0)) := fun j hj => by
        rw [Nat.zero_add, hcc j (by omega), List.getElem?_map, List.getElem?_eq_getElem hj]
        simp [List.getD_eq_getElem?_getD, hj]
      have HRV := Lib.hid (Tryz.slices_Reverse_int_cells g 0 zs.length cv zs W (Nat.le_refl _) (by omega) hcells (fun j _ => by rw [Nat.zero_add]; exact hfz j))
      rw [List.take_length] at HRV
      have hne2 : g ≠ w.heap.size + 2 := block_ne hcu q2 (by decide)
      have hneD : g ≠ D := fun e => by subst e; rw [hcu] at hK; cases hK
      have HFR : Hid (∀ q, Frm (One g) W ((W.drewN q).setCells g 0 (zs.reverse.map (Value.int .i64)))) := fun q => Frm.setCells g _ 0 ((Frm.refl _ _).drewN q) (fun _ => rfl)
      have HROW : Hid (∀ q, ((W.drewN q).setCells g 0 (zs.reverse.map (Value.int .i64))).ownsRow w.heap.size 3 1 (.slice (some ⟨g, 0, none⟩) zs.length cv) zs.length (zs.reverse.map (Value.int .i64))) := fun q => by
        obtain ⟨hl1, hr2⟩ := q4'
        rcases hr2 with ⟨e, _⟩ | ⟨g', cap', cur', e, hB', hg', u1, u2, u3, u4⟩
        · cases e
        · simp only [Value.slice.injEq, Option.some.injEq, Addr.mk.injEq, true_and, and_true] at e
          obtain ⟨rfl, rfl⟩ := e
          obtain ⟨ds, d1, d2, d3⟩ := heap_setCells (w := W.drewN q) (zs.reverse.map (Value.int .i64)) 0 hg' (by simp at u3 ⊢; omega)
          refine ⟨by simp, .inr ⟨g, cv, ds, rfl, hB', d1, u1, u2, by rw [d2]; exact u3, ?_⟩⟩
          have d4 : ds.toList.take (0 + (zs.reverse.map (Value.int .i64)).length) = cur'.toList.take 0 ++ zs.reverse.map (Value.int .i64) := d3
          simpa using d4
      have HK := Lib.hid hK
      have Q2 := Lib.hid q2
      have Q6 := Lib.hid q6
      obtain ⟨rv, hrv⟩ : ∃ rv, rv = zs.reverse.map (Value.int .i64) := ⟨_, rfl⟩
      rw [← hrv] at HRV HFR HROW
      have HRVE := Lib.hid hrv
      clear hK q1 q2 q3 q4 q4' q5 q6 hy hLS hys hzm hzl hcells hcc q8 hfz hrv
      gi_wp2_with (refine ⟨trivial, ?_⟩; gi_at_call 75; refine (callsIn_wide.2 HRV.out).mono ?_; rintro e w' ⟨rfl, q, rfl⟩; have c9 := cell_at ((HFR.out q).heap Q2.out (fun e => hne2 e.symm)) (o := 0); simp only [List.getElem?_toArray, List.getElem?_cons_zero] at c9)
      have hKD := (HFR.out q).heap HK.out (fun e => hneD e.symm)
      refine ⟨by simp, .inl ⟨_, _, rfl, run_takeDeferred hKD, ?_⟩⟩
      have hR9 := HROW.out q
      have hF9 := Q6.out.trans (HFR.out q) (fun k hk e => by have e : k = g := e; omega)
      generalize (W.drewN q).setCells g 0 rv = W9 at *
      have hFD : Frm (fun k => k = D) W9 (W9.putObj D (.deferred none)) := (Frm.refl _ _).grown (grownBy_putObj' W9 D _) (fun k hk _ => by cases hk; rfl)
      refine ⟨_, results_tmp rfl _ _ _, .slice (some ⟨g, 0, none⟩) zs.length cv, rfl, by rw [HLB.out, List.length_reverse, ← HRVE.out]; exact hFD.row hR9 (fun k hk e => by cases hk; exact hneD e), hF9.trans hFD (fun k hk e => by omega)⟩
  case stop =>
    rintro D c pre W _ _ h _
    exact h.elim
end Go.Proofs.YtemjdmgfilbfaaaGreat
namespace Go.Proofs.YtemjdmgfilbfaaaGreat
set_option linter.unusedVariables false
set_option linter.unusedSimpArgs false

def agI (x : Itm) (r : List Itm) : Bool := r.any fun y => samePl y x
/-- The items that are not written again. -/
def lastR : List Itm → List Itm
  | [] => []
  | x :: r => if agI x r then lastR r else x :: lastR r
theorem lastR_cons (x : Itm) (r : List Itm) : lastR (x :: r) = if agI x r then lastR r else x :: lastR r := by rw [lastR]
def pkF (n : Nat) (xs : List Itm) : List (Int × Itm) := pickB (((xs.zipIdx n).map fun p => ((p.2 : Int), p.1)).reverse)
theorem pkF_cons (n : Nat) (x : Itm) (r : List Itm) : pkF n (x :: r) = if (pkF (n + 1) r).any (fun y => samePl y.2 x) then pkF (n + 1) r else pkF (n + 1) r ++ [((n : Int), x)] := by
  unfold pkF
  rw [List.zipIdx_cons, List.map_cons, List.reverse_cons, pickB_snoc]
theorem samePl_trans {a b c : Itm} (h : samePl a b = true) : samePl a c = samePl b c := by
  unfold samePl at *
  simp only [Bool.and_eq_true, beq_iff_eq] at h
  rw [h.1, h.2]
theorem samePl_comm (a b : Itm) : samePl a b = samePl b a := by
  unfold samePl
  rw [Bool.eq_iff_iff]
  simp only [Bool.and_eq_true, beq_iff_eq]
  constructor <;> rintro ⟨h1, h2⟩ <;> exact ⟨h1.symm, h2.symm⟩
theorem pkF_any (n : Nat) (xs : List Itm) (z : Itm) : (pkF n xs).any (fun y => samePl y.2 z) = xs.any fun y => samePl y z := by
  induction xs generalizing n z with
  | nil => rfl
  | cons x r ih =>
    rw [pkF_cons, List.any_cons]
    by_cases h : (pkF (n + 1) r).any (fun y => samePl y.2 x) = true
    · rw [if_pos h, ih]
      rw [ih] at h
      by_cases hx : samePl x z = true
      case neg => simp [hx]
      case pos =>
        rw [hx, Bool.true_or]
        obtain ⟨y, hy, e⟩ := List.any_eq_true.1 h
        exact List.any_eq_true.2 ⟨y, hy, by rw [samePl_trans e]; exact hx⟩
    · rw [if_neg h, List.any_append, ih]
      simp [Bool.or_comm]
theorem pkF_last (n : Nat) (xs : List Itm) : (pkF n xs).reverse.map (·.2) = lastR xs := by
  induction xs generalizing n with
  | nil => rfl
  | cons x r ih =>
    rw [pkF_cons, pkF_any]
    unfold lastR agI
    by_cases h : (r.any fun y => samePl y x) = true
    · rw [if_pos h, if_pos h, ih]
    · rw [if_neg h, if_neg h, List.reverse_append, List.map_append, ih]
      rfl
theorem pickB_sub (l : List (Int × Itm)) : ∀ p ∈ pickB l, p ∈ l := by
  unfold pickB
  have h : ∀ (l acc : List (Int × Itm)), ∀ p ∈ l.foldl (fun acc x => if acc.any (fun y => samePl y.2 x.2) then acc else acc ++ [x]) acc, p ∈ acc ∨ p ∈ l := by
    intro l
    induction l with
    | nil => intro acc p hp; exact .inl hp
    | cons x r ih =>
      intro acc p hp
      rw [List.foldl_cons] at hp
      rcases ih _ p hp with h | h
      · by_cases hc : acc.any (fun y => samePl y.2 x.2) = true
        · rw [if_pos hc] at h; exact .inl h
        · rw [if_neg hc] at h
          rcases List.mem_append.1 h with h | h
          · exact .inl h
          · rw [List.mem_singleton.1 h]; exact .inr (List.mem_cons_self ..)
      · exact .inr (List.mem_cons_of_mem _ h)
  intro p hp
  rcases h l [] p hp with h | h
  · cases h
  · exact h
theorem pick_at (xs : List Itm) : ∀ p ∈ pickB (backI xs), ∃ (j : Nat) (hj : j < xs.length), p = ((j : Int), xs[j]) := by
  intro p hp
  have := pickB_sub _ p hp
  unfold backI at this
  rw [List.mem_reverse] at this
  obtain ⟨q, hq, rfl⟩ := List.mem_map.1 this
  obtain ⟨j, hj, e⟩ := List.getElem_of_mem hq
  rw [List.getElem_zipIdx] at e
  rw [List.length_zipIdx] at hj
  exact ⟨j, hj, by rw [← e]; simp⟩
/-- The places that lasts tells, and the items there. -/
theorem last_at (xs : List Itm) : (lastB xs).length = (lastR xs).length ∧ ∀ (k : Nat) (h1 : k < (lastB xs).length) (h2 : k < (lastR xs).length), ∃ (j : Nat) (hj : j < xs.length), (lastB xs)[k] = (j : Int) ∧ (lastR xs)[k] = xs[j] := by
  have e1 : lastB xs = (pickB (backI xs)).reverse.map (·.1) := by unfold lastB; rw [List.map_reverse]
  have e2 : lastR xs = (pickB (backI xs)).reverse.map (·.2) := (pkF_last 0 xs).symm
  rw [e1, e2]
  refine ⟨by simp, fun k h1 h2 => ?_⟩
  have h3 : k < (pickB (backI xs)).reverse.length := by simpa using h1
  obtain ⟨j, hj, e⟩ := pick_at xs _ (List.mem_reverse.1 (List.getElem_mem h3))
  exact ⟨j, hj, by rw [List.getElem_map, e], by rw [List.getElem_map, e]⟩
theorem lastR_sub (xs : List Itm) : ∀ x ∈ lastR xs, x ∈ xs := by
  induction xs with
  | nil => intro x hx; cases hx
  | cons y r ih =>
    intro x hx
    unfold lastR at hx
    split at hx
    · exact List.mem_cons_of_mem _ (ih x hx)
    · rcases List.mem_cons.1 hx with rfl | hx
      · exact List.mem_cons_self ..
      · exact List.mem_cons_of_mem _ (ih x hx)
theorem lastR_len (xs : List Itm) : (lastR xs).length ≤ xs.length := by
  induction xs with
  | nil => exact Nat.le_refl _
  | cons y r ih =>
    unfold lastR
    split
    · simp only [List.length_cons]; omega
    · simp only [List.length_cons]; omega
theorem lastR_any (xs : List Itm) (z : Itm) : (lastR xs).any (fun y => samePl y z) = xs.any fun y => samePl y z := by
  rw [← pkF_last 0 xs, List.any_map, List.any_reverse]
  exact pkF_any 0 xs z

def lastT : List It → List It
  | [] => []
  | x :: r => if (r.any fun y => y.1 == x.1 && y.2.1 == x.2.1) then lastT r else x :: lastT r
theorem lastR_bare (xs : List Itm) : (lastR xs).map bare = lastT (xs.map bare) := by
  induction xs with
  | nil => rfl
  | cons x r ih =>
    rw [List.map_cons]
    unfold lastR lastT agI
    have e : ((r.map bare).any fun y => y.1 == (bare x).1 && y.2.1 == (bare x).2.1) = r.any fun y => samePl y x := by rw [List.any_map]; rfl
    rw [e]
    split
    · exact ih
    · rw [List.map_cons, ih]
theorem lastR_same {xs ys : List Itm} (h : xs.map bare = ys.map bare) : (lastR xs).map bare = (lastR ys).map bare := by rw [lastR_bare, lastR_bare, h]
end Go.Proofs.YtemjdmgfilbfaaaGreat
namespace Go.Proofs.YtemjdmgfilbfaaaGreat
set_option linter.unusedVariables false
set_option linter.unusedSimpArgs false

/-- What the dictionary tells of items ahead of writing. -/
def chkD (d : List Im) : List It → Nat × Int
  | [] => (0, 0)
  | x :: r => if mayD d x.1 x.2.1 x.2.2 ≠ 0 then (0, mayD d x.1 x.2.1 x.2.2) else ((chkD d r).1 + 1, (chkD d r).2)
def AllOk (d : List Im) (l : List It) : Prop := ∀ x ∈ l, mayD d x.1 x.2.1 x.2.2 = 0
theorem chk_all {d : List Im} {l : List It} (h : (chkD d l).2 = 0) : AllOk d l ∧ (chkD d l).1 = l.length := by
  induction l with
  | nil => exact ⟨(fun x hx => nomatch hx), rfl⟩
  | cons x r ih =>
    unfold chkD at h ⊢
    by_cases h1 : mayD d x.1 x.2.1 x.2.2 = 0
    · rw [if_neg (by simp [h1])] at h ⊢
      obtain ⟨i1, i2⟩ := ih h
      refine ⟨fun y hy => ?_, by simp [i2]⟩
      rcases List.mem_cons.1 hy with rfl | hy
      · exact h1
      · exact i1 y hy
    · rw [if_pos h1] at h
      exact absurd h h1
theorem findD_map (d : List Im) (i s : Int) : findD d i s = (d.map (·.1)).findIdx? (fun e => e.idx == i && e.sub == s) := by
  unfold findD isAt
  rw [List.findIdx?_map]
  rfl
theorem findC_map (d : List Im) (i s : Int) : findC d i s = if (findD d i s).isSome then 0 else if (d.map (·.1)).any (fun e => e.idx == i) then codeNoSub else codeNoObject := by
  unfold findC
  rw [List.any_map]
  rfl
theorem mayD_congr {d d' : List Im} (h : d.map (·.1) = d'.map (·.1)) (i s : Int) (b : List UInt8) : mayD d i s b = mayD d' i s b := by
  have hf : findD d i s = findD d' i s := by rw [findD_map, findD_map, h]
  have hl : d.length = d'.length := by have := congrArg List.length h; simpa using this
  unfold mayD
  rw [findC_map, findC_map, hf, h]
  cases hk : findD d' i s with
  | none => rfl
  | some k =>
    simp only
    by_cases hlt : k < d'.length
    · have hlt2 : k < d.length := by omega
      rw [List.getElem?_eq_getElem hlt, List.getElem?_eq_getElem hlt2]
      have e : d[k].1 = d'[k].1 := by
        have := congrArg (fun z => z[k]?) h
        simpa [hlt, hlt2] using this
      simp only [e]
    · rw [List.getElem?_eq_none (by omega), List.getElem?_eq_none (by omega)]
theorem writeD_fst (d : List Im) (i s : Int) (b : List UInt8) : (writeD d i s b).map (·.1) = d.map (·.1) := by
  unfold writeD
  cases hf : findD d i s with
  | none => rfl
  | some k =>
    cases hx : d[k]? with
    | none => simp only [hx]
    | some x =>
      simp only [hx]
      split
      · obtain ⟨hk, rfl⟩ := List.getElem?_eq_some_iff.1 hx
        rw [List.map_set]
        have : (d.map (·.1))[k]'(by simpa using hk) = d[k].1 := by simp
        conv => lhs; rw [← this]
        exact List.set_getElem_self _
      · rfl
theorem AllOk.write {d : List Im} {l : List It} (h : AllOk d l) (i s : Int) (b : List UInt8) : AllOk (writeD d i s b) l := fun x hx => by rw [mayD_congr (writeD_fst d i s b)]; exact h x hx
/-- A write that is taken: which entry, and its value. -/
theorem write_is {d : List Im} {i s : Int} {b : List UInt8} (h : mayD d i s b = 0) : ∃ (k : Nat) (hk : k < d.length), findD d i s = some k ∧ d[k].1.idx = i ∧ d[k].1.sub = s ∧ writeD d i s b = d.set k (d[k].1, (takeE d[k].1 b).2) := by
  unfold mayD at h
  cases hf : findD d i s with
  | none =>
    rw [hf] at h
    simp only at h
    unfold findC at h
    rw [hf] at h
    simp only [Option.isSome_none, Bool.false_eq_true, if_false] at h
    split at h <;> exact absurd h (by decide)
  | some k =>
    have hk : k < d.length := by
      unfold findD at hf
      exact (List.findIdx?_eq_some_iff_getElem.1 hf).1
    rw [hf] at h
    simp only [List.getElem?_eq_getElem hk] at h
    have hat : isAt i s d[k] = true := by
      have hf' := hf
      unfold findD at hf'
      exact (List.findIdx?_eq_some_iff_getElem.1 hf').2.1
    unfold isAt at hat
    simp only [Bool.and_eq_true, beq_iff_eq] at hat
    refine ⟨k, hk, rfl, hat.1, hat.2, ?_⟩
    unfold writeD
    rw [hf]
    simp only [List.getElem?_eq_getElem hk]
    rw [if_pos h]
theorem find_write (d : List Im) (i s i' s' : Int) (b : List UInt8) : findD (writeD d i s b) i' s' = findD d i' s' := by rw [findD_map, findD_map, writeD_fst]
theorem write_again {d : List Im} {i s : Int} {b b' : List UInt8} (h : mayD d i s b = 0) (h' : mayD d i s b' = 0) : writeD (writeD d i s b) i s b' = writeD d i s b' := by
  obtain ⟨k, hk, f1, _, _, e1⟩ := write_is h
  obtain ⟨k', hk', f2, _, _, e2⟩ := write_is h'
  have hkk : k = k' := by rw [f1] at f2; exact Option.some.inj f2
  subst hkk
  obtain ⟨k3, hk3, f3, _, _, e3⟩ := write_is (d := writeD d i s b) (by rw [mayD_congr (writeD_fst d i s b)]; exact h')
  rw [find_write, f1] at f3
  have hk4 : k3 = k := (Option.some.inj f3).symm
  subst hk4
  rw [e3, e2]
  have e5 : ((writeD d i s b)[k3]'hk3).1 = d[k3].1 := by
    have := congrArg (fun z => z[k3]?) (writeD_fst d i s b)
    simpa [hk, hk3] using this
  rw [e5, e1, List.set_set]
theorem write_swap {d : List Im} {i s i' s' : Int} {b b' : List UInt8} (h : mayD d i s b = 0) (h' : mayD d i' s' b' = 0) (hne : ¬ (i = i' ∧ s = s')) : writeD (writeD d i s b) i' s' b' = writeD (writeD d i' s' b') i s b := by
  obtain ⟨k, hk, f1, g1, g2, e1⟩ := write_is h
  obtain ⟨k', hk', f2, g3, g4, e2⟩ := write_is h'
  have hkk : k ≠ k' := by rintro rfl; exact hne ⟨g1.symm.trans g3, g2.symm.trans g4⟩
  obtain ⟨k3, hk3, f3, _, _, e3⟩ := write_is (d := writeD d i s b) (i := i') (s := s') (b := b') (by rw [mayD_congr (writeD_fst d i s b)]; exact h')
  obtain ⟨k4, hk4, f4, _, _, e4⟩ := write_is (d := writeD d i' s' b') (i := i) (s := s) (b := b) (by rw [mayD_congr (writeD_fst d i' s' b')]; exact h)
  rw [find_write, f2] at f3
  rw [find_write, f1] at f4
  have h3 : k3 = k' := (Option.some.inj f3).symm
  have h4 : k4 = k := (Option.some.inj f4).symm
  subst h3
  subst h4
  have e5 : ((writeD d i s b)[k3]'hk3).1 = d[k3].1 := by
    have := congrArg (fun z => z[k3]?) (writeD_fst d i s b)
    simpa [hk', hk3] using this
  have e6 : ((writeD d i' s' b')[k4]'hk4).1 = d[k4].1 := by
    have := congrArg (fun z => z[k4]?) (writeD_fst d i' s' b')
    simpa [hk, hk4] using this
  rw [e3, e4, e5, e6, e1, e2]
  exact List.set_comm _ _ hkk
def sameIt (x y : It) : Prop := x.1 = y.1 ∧ x.2.1 = y.2.1
theorem app_over (r : List It) (d : List Im) (x : It) (hx : mayD d x.1 x.2.1 x.2.2 = 0) (hr : AllOk d r) (hs : ∃ y ∈ r, sameIt y x) : (appD (writeD d x.1 x.2.1 x.2.2) r).1 = (appD d r).1 := by
  induction r generalizing d with
  | nil => obtain ⟨y, hy, _⟩ := hs; cases hy
  | cons z r ih =>
    have hz := hr z (List.mem_cons_self ..)
    have hz' : mayD (writeD d x.1 x.2.1 x.2.2) z.1 z.2.1 z.2.2 = 0 := by rw [mayD_congr (writeD_fst d _ _ _)]; exact hz
    rw [appD_yes hz', appD_yes hz]
    simp only
    by_cases hxz : z.1 = x.1 ∧ z.2.1 = x.2.1
    · rw [hxz.1, hxz.2] at hz ⊢
      rw [write_again hx hz]
    · rw [write_swap hx hz (fun h => hxz ⟨h.1.symm, h.2.symm⟩)]
      refine ih (writeD d z.1 z.2.1 z.2.2) (by rw [mayD_congr (writeD_fst d _ _ _)]; exact hx) (AllOk.write (fun y hy => hr y (List.mem_cons_of_mem _ hy)) _ _ _) ?_
      obtain ⟨y, hy, hys⟩ := hs
      rcases List.mem_cons.1 hy with rfl | hy
      · exact absurd hys hxz
      · exact ⟨y, hy, hys⟩
theorem app_last (xs : List Itm) (d : List Im) (h : AllOk d (xs.map bare)) : (appD d (xs.map bare)).1 = (appD d ((lastR xs).map bare)).1 := by
  induction xs generalizing d with
  | nil => rfl
  | cons x r ih =>
    have hx := h (bare x) (List.mem_cons_self ..)
    have hr : AllOk d (r.map bare) := fun y hy => h y (List.mem_cons_of_mem _ hy)
    have hl : AllOk d ((lastR r).map bare) := fun y hy => by
      obtain ⟨z, hz, rfl⟩ := List.mem_map.1 hy
      exact hr _ (List.mem_map_of_mem (lastR_sub r z hz))
    rw [List.map_cons, appD_yes hx]
    simp only
    rw [ih _ (hr.write _ _ _), lastR_cons]
    by_cases ha : agI x r = true
    · rw [if_pos ha]
      unfold agI at ha
      rw [← lastR_any] at ha
      obtain ⟨y, hy, e⟩ := List.any_eq_true.1 ha
      unfold samePl at e
      simp only [Bool.and_eq_true, beq_iff_eq] at e
      exact app_over _ d (bare x) hx hl ⟨bare y, List.mem_map_of_mem hy, e.1, e.2⟩
    · rw [if_neg ha, List.map_cons, appD_yes hx]
theorem app_ok {d : List Im} {l : List It} (h : AllOk d l) : (appD d l).2.2 = 0 := by
  induction l generalizing d with
  | nil => rfl
  | cons x r ih =>
    rw [appD_yes (h x (List.mem_cons_self ..))]
    exact ih (AllOk.write (fun y hy => h y (List.mem_cons_of_mem _ hy)) _ _ _)
theorem AllOk.last {d : List Im} {xs : List Itm} (h : AllOk d (xs.map bare)) : AllOk d ((lastR xs).map bare) := fun y hy => by
  obtain ⟨z, hz, rfl⟩ := List.mem_map.1 hy
  exact h _ (List.mem_map_of_mem (lastR_sub xs z hz))
end Go.Proofs.YtemjdmgfilbfaaaGreat
namespace Go.Proofs.YtemjdmgfilbfaaaGreat
open Go.RowKit
set_option linter.unusedVariables false
set_option linter.unusedSimpArgs false

def CheckP (d : List Im) (xs : List It) (w : World) (e : Ending) (w' : World) : Prop :=
  e = .returned (.tuple #[.int .i64 (((chkD d xs).1 : Nat) : Int), .int .u32 (chkD d xs).2]) ∧ Frm (fun _ => False) w w'
theorem chkD_join (d : List Im) (a b : List It) : chkD d (a ++ b) = if (chkD d a).2 ≠ 0 then chkD d a else (a.length + (chkD d b).1, (chkD d b).2) := by
  induction a with
  | nil => simp [chkD]
  | cons x r ih =>
    rw [List.cons_append]
    by_cases h : mayD d x.1 x.2.1 x.2.2 = 0
    · have e1 : chkD d (x :: (r ++ b)) = ((chkD d (r ++ b)).1 + 1, (chkD d (r ++ b)).2) := by conv => lhs; unfold chkD; rw [if_neg (by simp [h])]
      have e2 : chkD d (x :: r) = ((chkD d r).1 + 1, (chkD d r).2) := by conv => lhs; unfold chkD; rw [if_neg (by simp [h])]
      rw [e1, e2, ih]
      simp only
      split
      · rfl
      · simp only [List.length_cons, Prod.mk.injEq, and_true]
        omega
    · have e1 : chkD d (x :: (r ++ b)) = (0, mayD d x.1 x.2.1 x.2.2) := by unfold chkD; rw [if_pos h]
      have e2 : chkD d (x :: r) = (0, mayD d x.1 x.2.1 x.2.2) := by unfold chkD; rw [if_pos h]
      rw [e1, e2]
      simp [h]
theorem chk_step (d : List Im) (xs : List It) (k : Nat) (hk : k < xs.length) (h : (chkD d (xs.take k)).2 = 0) : mayD d xs[k].1 xs[k].2.1 xs[k].2.2 ≠ 0 → chkD d xs = (k, mayD d xs[k].1 xs[k].2.1 xs[k].2.2) := by
  intro hm
  have e : xs = xs.take k ++ xs[k] :: xs.drop (k + 1) := by rw [← List.drop_eq_getElem_cons hk, List.take_append_drop]
  have e2 : chkD d (xs[k] :: xs.drop (k + 1)) = (0, mayD d xs[k].1 xs[k].2.1 xs[k].2.2) := by unfold chkD; rw [if_pos hm]
  conv => lhs; rw [e]
  rw [chkD_join, if_neg (by simp [h]), e2, List.length_take, Nat.min_eq_left (Nat.le_of_lt hk)]
  rfl
theorem chk_more (d : List Im) (xs : List It) (k : Nat) (hk : k < xs.length) (h : (chkD d (xs.take k)).2 = 0) (hm : mayD d xs[k].1 xs[k].2.1 xs[k].2.2 = 0) : (chkD d (xs.take (k + 1))).2 = 0 := by
  rw [List.take_succ_eq_append_getElem hk, chkD_join, if_neg (by simp [h])]
  simp [chkD, hm]

set_option maxRecDepth 100000 in
set_option maxHeartbeats 2000000 in
theorem eachM_any (b : Nat) (l : List (Nat × Im)) (v : Value) (xs : List Itm) (B : Nat) (w : World) (h : DAt w b l) (hd : DOk (im l)) (hI : ItemsRow B w v xs) (hB : ∀ q ∈ l, q.1 < B) (hr : ∀ x ∈ xs, Rng (bare x)) (hb : ∀ x ∈ xs, x.2.2.2.length ≤ 140737488351232) :
    Calls Tryz.prog 47 #[ptr b, v, .func (.func 38) #[] #[]] w (CheckP (im l) (xs.map bare) w) := by
  have HD := Lib.hid h
  have HI := Lib.hid hI
  have HB := Lib.hid hB
  have HR := Lib.hid hr
  have HBL := Lib.hid hb
  obtain ⟨d, hde⟩ : ∃ d, d = im l := ⟨_, rfl⟩
  have HDE := Lib.hid hde
  rw [← hde] at hd
  have HOK := Lib.hid hd
  obtain ⟨A, cap, rfl, hn1, hn2, _⟩ := row_open hI.1
  have hm : xs.length ≤ 9223372036854775807 := Nat.le_trans hn1 hn2
  unfold CheckP
  rw [← hde]
  obtain ⟨ys, hys⟩ : ∃ ys, ys = xs.map bare := ⟨_, rfl⟩
  have HYS := Lib.hid hys
  have HYL : Hid (ys.length = xs.length) := by unfold Hid; rw [hys]; simp
  rw [← hys]
  clear h hI hB hr hb hd hde hys hn1 hn2
  unfold ptr
  go_enter Tryz.func47, Tryz.ntmps47
  go_wp2_with fail
  go_loopw [15] (fun i wr => ∃ k : Nat, k ≤ xs.length ∧ i = .int .i64 k ∧ (chkD d (ys.take k)).2 = 0 ∧ Frm (fun _ => False) w wr) (fun i _ => xs.length - (intOf i).toNat)
  case atStart => exact ⟨0, Nat.zero_le _, rfl, rfl, Frm.refl _ _⟩
  case round =>
    obtain ⟨k, hk, rfl, hcode, hF⟩ := hrel
    have hIr : ItemsRow B wr (.slice A xs.length cap) xs := HI.out.frm hF (fun j hj h => h)
    by_cases hlt : k < xs.length
    · have hky : k < ys.length := by rw [HYL.out]; exact hlt
      have hmem := List.getElem_mem hlt
      have hyk : ys[k] = bare xs[k] := by
        have : ys[k]? = some (bare xs[k]) := by rw [HYS.out, List.getElem?_map, List.getElem?_eq_getElem hlt]; rfl
        rw [List.getElem?_eq_getElem hky] at this
        exact Option.some.inj this
      have HSTEP := Lib.hid (chk_step d ys k hky hcode)
      have HMORE := Lib.hid (chk_more d ys k hky hcode)
      rw [hyk] at HSTEP HMORE
      obtain ⟨A', cap', eA, _, _, q3⟩ := row_open hIr.1
      simp only [Value.slice.injEq] at eA
      obtain ⟨rfl, -, rfl⟩ := eA
      obtain ⟨g, rfl, _, ⟨cur, hcu⟩, _, hcc⟩ := q3 (by omega)
      have hgl := lt_of_block hcu
      have hcell : ∀ o (ho : o < 3), wr.cell? ⟨g, k * 3 + o, none⟩ = some ((encIt xs[k])[o]'(by rw [encIt_len]; exact ho)) := fun o ho => by
        rw [hcc _ (by omega), cellsOf_get encIt_len xs k o hlt ho]
        exact List.getElem?_eq_getElem (by rw [encIt_len]; exact ho)
      have hown := hIr.2 _ hmem
      have hrg := HR.out _ hmem
      have hbl := HBL.out _ hmem
      generalize xs[k] = x at *
      have HKL : Hid (k + 1 ≤ xs.length) := hlt
      obtain ⟨xi, xsb, xv, xb⟩ := x
      simp only [bare] at hrg hbl hown HSTEP HMORE
      obtain ⟨Ab, cb, rfl, _, _, _⟩ := row_open hown
      have u0 := hcell 0 (by decide)
      have u1 := hcell 1 (by decide)
      have u2 := hcell 2 (by decide)
      simp only [encIt, List.getElem_cons_succ, List.getElem_cons_zero, Nat.add_zero] at u0 u1 u2
      have HWR := Lib.hid (fun W (hW : Frm (fun _ => False) wr W) => odMay_any b l xi xsb (.slice Ab xb.length cb) xb W ((HD.out.grow hF).grow hW) (by rw [← HDE.out]; exact HOK.out) ⟨hrg.2.2.1, hrg.2.2.2⟩ ((BytesAt.of_row hown).grow hW) hbl)
      unfold ptr at HWR
      rw [← HDE.out] at HWR
      have HF := Lib.hid hF
      have hx : Frm (fun _ => False) wr (wr.alloc (.cells #[.int .u16 xi, .int .u8 xsb, .slice Ab xb.length cb] 63)) := (Frm.refl _ _).alloc _
      have HX := Lib.hid hx
      clear hF hx hIr hcell hcc hcu hown hmem hyk hcode q3 hrg
      generalize mayD d xi xsb xb = code at *
      by_cases hcd : code = 0
      · subst hcd
        have HM := Lib.hid (HMORE.out rfl)
        clear HSTEP HMORE
        go_wp2_with (go_at_call 38; refine (HWR.out _ HX.out).mono ?_; rintro e w6 ⟨rfl, hF6⟩; have HF6 := Lib.hid hF6; clear hF6)
        go_roundw
        case rel => exact ⟨k + 1, HKL.out, by go_num, HM.out, HF.out.trans' (HX.out.trans' HF6.out)⟩
        case measure => have := HKL.out; simp [intOf]; omega
      · have HS := Lib.hid (HSTEP.out hcd)
        have b1 : (code != 0) = true := by simpa using hcd
        clear hcd HSTEP HMORE
        go_wp2_with (go_at_call 38; refine (HWR.out _ HX.out).mono ?_; rintro e w6 ⟨rfl, hF6⟩; have HF6 := Lib.hid hF6; clear hF6)
        go_ret2
        rw [HS.out]
        exact ⟨rfl, HF.out.trans' (HX.out.trans' HF6.out)⟩
    · have hkn : k = xs.length := by omega
      subst hkn
      rw [← HYL.out, List.take_length] at hcode
      have hall := (chk_all hcode).2
      rw [HYL.out] at hall
      have HF := Lib.hid hF
      have HCD := Lib.hid hcode
      have HAL := Lib.hid hall
      clear hF hcode hall hIr
      go_wp2_with fail
      go_ret2
      exact ⟨by rw [HAL.out, HCD.out]; rfl, HF.out⟩

set_option maxRecDepth 100000 in
theorem check_any (b : Nat) (l : List (Nat × Im)) (v : Value) (xs : List Itm) (B : Nat) (w : World) (h : DAt w b l) (hd : DOk (im l)) (hI : ItemsRow B w v xs) (hB : ∀ q ∈ l, q.1 < B) (hr : ∀ x ∈ xs, Rng (bare x)) (hb : ∀ x ∈ xs, x.2.2.2.length ≤ 140737488351232) :
    Calls Tryz.prog 20 #[ptr b, v] w (CheckP (im l) (xs.map bare) w) := by
  have HE := Lib.hid (eachM_any b l v xs B w h hd hI hB hr hb)
  obtain ⟨A, cap, rfl, _, _, _⟩ := row_open hI.1
  unfold CheckP ptr at HE
  unfold CheckP ptr
  clear h hd hI hB hr hb
  go_enter Tryz.func20, Tryz.ntmps20
  go_wp2_with (go_at_call 47; refine HE.out.mono ?_; rintro e w6 ⟨rfl, h6⟩; have H6 := Lib.hid h6; clear h6)
  go_ret2
  exact ⟨rfl, H6.out⟩
end Go.Proofs.YtemjdmgfilbfaaaGreat
namespace Go.Proofs.YtemjdmgfilbfaaaGreat
open Go.RowKit
set_option linter.unusedVariables false

def OwnPost (xs : List Itm) (w : World) (e : Ending) (w' : World) : Prop := Frm (fun _ => False) w w' ∧ ∃ v ys, e = .returned v ∧ ys.map bare = xs.map bare ∧ ItemsRow w.heap.size w' v ys

set_option maxRecDepth 100000 in
set_option maxHeartbeats 2000000 in
theorem own_any (v : Value) (xs : List Itm) (w : World) (h : ItemsAt w v xs) (hl : xs.length * 32 ≤ 140737488351232) (hb : ∀ x ∈ xs, x.2.2.2.length ≤ 140737488351232) :
    Calls Tryz.prog 21 #[v] w (OwnPost xs w) := by
  have HI := Lib.hid h
  obtain ⟨A, cap, rfl, _, ho⟩ := h.open_
  have HO := Lib.hid ho
  have HB := Lib.hid hb
  clear h ho hb
  go_enter Tryz.func21, Tryz.ntmps21
  go_wp2_with fail
  go_loopw [3, 4] (fun bv i wr => ∃ (k : Nat) (ys : List Itm), k ≤ xs.length ∧ i = .int .i64 k ∧ ys.length = k ∧ ys.map bare = (xs.take k).map bare ∧ ItemsRow w.heap.size wr bv ys ∧ Frm (fun _ => False) w wr) (fun _ i _ => xs.length - (intOf i).toNat)
  case atStart => exact ⟨0, [], Nat.zero_le _, rfl, rfl, by simp, ⟨row_new rfl rfl rfl (by decide) (Nat.le_refl _), fun x hx => by cases hx⟩, by (repeat' (first | (with_reducible exact Frm.refl _ _) | (with_reducible assumption) | (with_reducible refine Frm.alloc ?_ _) | (with_reducible refine Frm.drew ?_) | (with_reducible refine Frm.drewN ?_ _) | (with_reducible refine Frm.set1 ?_ _) | (with_reducible refine Frm.setCell ?_ ?_ _) | (exact fun h => absurd h (Nat.lt_irrefl _)) | (intro hlt; simp [World.size_alloc, One] at hlt ⊢; omega)))⟩
  case round =>
    obtain ⟨k, ys, hk, rfl, hyl, hyb, hY, hF⟩ := hrel
    by_cases hlt : k < xs.length
    · obtain ⟨g, off, Ab, cb, rfl, hxv, hml, c0, c1, c2⟩ := HO.out k hlt
      have d0 := hF.cell c0 (fun h => h)
      have d1 := hF.cell c1 (fun h => h)
      have d2 := hF.cell c2 (fun h => h)
      have hbk := HB.out _ (List.getElem_mem hlt)
      have hBA := HI.out.2 _ (List.getElem_mem hlt)
      rw [hxv] at hBA
      have hek := List.take_succ_eq_append_getElem hlt
      have HEK := Lib.hid hek
      clear c0 c1 c2 hxv hek
      generalize xs[k] = x at *
      obtain ⟨x0, x1, xv, xb⟩ := x
      simp only at d0 d1 d2 hml hbk hBA
      obtain ⟨A9, c9, e9, _, _, hnews⟩ := hBA.open_
      simp only [Value.slice.injEq] at e9
      obtain ⟨rfl, _, rfl⟩ := e9
      have HNEWS := Lib.hid hnews
      obtain ⟨Al, cl, rfl, g3, g4, _⟩ := row_open hY.1
      have HY := Lib.hid hY
      have HYB := Lib.hid hyb
      have HYL := Lib.hid hyl
      have HROW := Lib.hid hY.1
      have HF := Lib.hid hF
      have hsz := hF.size
      have hm1 : xb.length ≤ maxLen := by unfold maxLen; omega
      have hm2 : xb.length * 1 ≤ 140737488355328 := by omega
      have hm3 : ys.length + 1 ≤ maxLen := by unfold maxLen; omega
      have hm4 : (ys.length + 1) * 32 ≤ 140737488355328 := by omega
      have HLEN : Hid ((xb.map encB).length = xb.length * 1) := by unfold Hid; simp
      have HONEB := Lib.hid (oneB xb)
      have hempty : Hid (((wr.alloc (.cells #[.int .u16 x0, .int .u8 x1, .slice Ab xb.length cb] 63)).alloc (.cells #[] 5)).ownsRow w.heap.size 5 1 (.slice (some ⟨wr.heap.size + 1, 0, none⟩) 0 0) 0 []) := row_new (by simp) rfl rfl (by decide) (by simp; omega)
      clear hF hY hBA hnews hyb hyl hml
      go_upto_region 7 with (at_builtin; go_loud (refine wpl_clone rfl el_u8 (.tmp 17) (.tmp 19) rfl (B := w.heap.size) (news := xb.map encB) rfl rfl hempty.out HLEN.out (fun h0 => (HNEWS.out h0).grow (HF.out.trans' (by (repeat' (first | (with_reducible exact Frm.refl _ _) | (with_reducible assumption) | (with_reducible refine Frm.alloc ?_ _) | (with_reducible refine Frm.drew ?_) | (with_reducible refine Frm.drewN ?_ _) | (with_reducible refine Frm.set1 ?_ _) | (with_reducible refine Frm.setCell ?_ ?_ _) | (exact fun h => absurd h (Nat.lt_irrefl _)) | (intro hlt; simp [World.size_alloc, One] at hlt ⊢; omega)))))) HONEB.out hm1 hm2 (by simp; omega) ?_; intro A3 cap3 w3 hown3 hfr3; have hF3 : Frm (fun _ => False) wr w3 := (Frm.trans (b := _) (by (repeat' (first | (with_reducible exact Frm.refl _ _) | (with_reducible assumption) | (with_reducible refine Frm.alloc ?_ _) | (with_reducible refine Frm.drew ?_) | (with_reducible refine Frm.drewN ?_ _) | (with_reducible refine Frm.set1 ?_ _) | (with_reducible refine Frm.setCell ?_ ?_ _) | (exact fun h => absurd h (Nat.lt_irrefl _)) | (intro hlt; simp [World.size_alloc, One] at hlt ⊢; omega)))) hfr3 (fun i hi h => absurd (Option.some.inj h) (by simp only; omega))); have ht5 : w3.heap[wr.heap.size]? = some (.cells #[.int .u16 x0, .int .u8 x1, .slice Ab xb.length cb] 63 (0, 0)) := (hfr3.heap (heap_alloc_old (heap_new _ _)) (fun h => absurd (Option.some.inj h) (by simp only; omega))); have hft5 := frees ht5; have e0 := cell_at (o := 0) ht5; have e1 := cell_at (o := 1) ht5; have e2 := cell_at (o := 2) ht5))
      have HF3 := Lib.hid hF3
      have HO3 := Lib.hid hown3
      have hz3 := hF3.size
      have hlt5 := lt_of_block ht5
      have HT5 := Lib.hid ht5
      clear hfr3 hF3 hown3 ht5
      go_wp2_with (at_builtin; go_loud (refine wpl_app rfl el_Item (.tmp 22) (.tmp 24) rfl (B := w.heap.size) (e2 := 63) (fr := (0, 0)) (arr := #[.int .u16 x0, .int .u8 x1, .slice A3 xb.length cap3]) rfl rfl (Frm.row (S := fun _ => False) (w := wr) (by have hF3 := HF3.out; (repeat' (first | (with_reducible exact Frm.refl _ _) | (with_reducible assumption) | (with_reducible refine Frm.alloc ?_ _) | (with_reducible refine Frm.drew ?_) | (with_reducible refine Frm.drewN ?_ _) | (with_reducible refine Frm.set1 ?_ _) | (with_reducible refine Frm.setCell ?_ ?_ _) | (exact fun h => absurd h (Nat.lt_irrefl _)) | (intro hlt; simp [World.size_alloc, One] at hlt ⊢; omega)))) HROW.out (fun _ _ h => h)) (heap_new_at (by simp)) rfl (by simp [Value.oneCell']) (by decide) hm3 hm4 (by simp; omega) ?_; intro g5 cap5 w5 hown5 hfr5 hat5 hlt5))
      go_roundw
      case rel =>
        have hF3 := HF3.out
        have hno : ∀ q, q < w.heap.size → ¬ (Value.slice Al ys.length cl).ownBlock = some q := fun q hq hs => by
          have := (row_block HROW.out hs).1
          omega
        have hF3x : Frm (fun j => j = wr.heap.size) w3 (w3.setCell ⟨wr.heap.size, 2, none⟩ (.slice A3 xb.length cap3)) := (Frm.refl (fun j => j = wr.heap.size) w3).setCell (p := ⟨wr.heap.size, 2, none⟩) (fun _ => rfl) _
        have hO3x := Frm.row hF3x HO3.out (fun j hj e => by
          obtain ⟨_, cur, hc⟩ := row_block HO3.out hj
          rw [e] at hc
          exact block_ne hc HT5.out (by decide) rfl)
        refine ⟨k + 1, ys ++ [(x0, x1, .slice A3 xb.length cap3, xb)], by omega, by go_num, by simp [HYL.out], ?_, ?_, ?_⟩
        · rw [HEK.out, List.map_append, List.map_append, HYB.out]; rfl
        · refine ItemsRow.push (w := w3.setCell ⟨wr.heap.size, 2, none⟩ (.slice A3 xb.length cap3)) (HY.out.grow (by (repeat' (first | (with_reducible exact Frm.refl _ _) | (with_reducible assumption) | (with_reducible refine Frm.alloc ?_ _) | (with_reducible refine Frm.drew ?_) | (with_reducible refine Frm.drewN ?_ _) | (with_reducible refine Frm.set1 ?_ _) | (with_reducible refine Frm.setCell ?_ ?_ _) | (exact fun h => absurd h (Nat.lt_irrefl _)) | (intro hlt; simp [World.size_alloc, One] at hlt ⊢; omega))))) _ hO3x (Frm.trans (b := _) (by (repeat' (first | (with_reducible exact Frm.refl _ _) | (with_reducible assumption) | (with_reducible refine Frm.alloc ?_ _) | (with_reducible refine Frm.drew ?_) | (with_reducible refine Frm.drewN ?_ _) | (with_reducible refine Frm.set1 ?_ _) | (with_reducible refine Frm.setCell ?_ ?_ _) | (exact fun h => absurd h (Nat.lt_irrefl _)) | (intro hlt; simp [World.size_alloc, One] at hlt ⊢; omega)))) hfr5 (fun _ _ h => h)) rfl hown5
        · exact (HF.out.trans' (by (repeat' (first | (with_reducible exact Frm.refl _ _) | (with_reducible assumption) | (with_reducible refine Frm.alloc ?_ _) | (with_reducible refine Frm.drew ?_) | (with_reducible refine Frm.drewN ?_ _) | (with_reducible refine Frm.set1 ?_ _) | (with_reducible refine Frm.setCell ?_ ?_ _) | (exact fun h => absurd h (Nat.lt_irrefl _)) | (intro hlt; simp [World.size_alloc, One] at hlt ⊢; omega))))).trans hfr5 (fun i hi hs => hno i hi hs)
      case measure => simp [intOf]; omega
    · go_wp2_with fail
      go_ret
      refine ⟨hF, _, ys, rfl, ?_, hY⟩
      rw [hyb, List.take_of_length_le (by omega)]
end Go.Proofs.YtemjdmgfilbfaaaGreat
namespace Go.Proofs.YtemjdmgfilbfaaaGreat
open Go.RowKit
set_option linter.unusedVariables false

theorem or_mul (a b i m : Nat) (hm : m = 2 ^ i) (h : a < m) : a ||| (b * m) = a + b * m := by
  subst hm
  rw [Nat.or_comm, ← Nat.shiftLeft_eq, ← Nat.shiftLeft_add_eq_or_of_lt h, Nat.add_comm]
theorem le32_sum (n0 n1 n2 n3 : Nat) (b0 : n0 < 256) (b1 : n1 < 256) (b2 : n2 < 256) (b3 : n3 < 256) :
    bits BinOp.or IntKind.u64 (bits BinOp.or IntKind.u64 (bits BinOp.or IntKind.u64 (n0 : Int) ((n1 : Int) * 256)) ((n2 : Int) * 65536)) ((n3 : Int) * 16777216) = (n0 : Int) + 256 * ((n1 : Int) + 256 * ((n2 : Int) + 256 * (n3 : Int))) := by
  have e1 : ((n1 : Int) * 256) = ((n1 * 256 : Nat) : Int) := by omega
  have e2 : ((n2 : Int) * 65536) = ((n2 * 65536 : Nat) : Int) := by omega
  have e3 : ((n3 : Int) * 16777216) = ((n3 * 16777216 : Nat) : Int) := by omega
  rw [e1, e2, e3, bits_or_u64_nat n0 (n1 * 256) (by omega) (by omega), or_mul n0 n1 8 256 (by decide) (by omega), bits_or_u64_nat _ (n2 * 65536) (by omega) (by omega), or_mul _ n2 16 65536 (by decide) (by omega), bits_or_u64_nat _ (n3 * 16777216) (by omega) (by omega), or_mul _ n3 24 16777216 (by decide) (by omega)]
  omega
theorem le16_sum (n0 n1 : Nat) (b0 : n0 < 256) (b1 : n1 < 256) : bits BinOp.or IntKind.u16 (n0 : Int) ((n1 : Int) * 256) = (n0 : Int) + 256 * (n1 : Int) := by
  have e1 : ((n1 : Int) * 256) = ((n1 * 256 : Nat) : Int) := by omega
  rw [e1, u16_or_nat n0 (n1 * 256) (by omega) (by omega), or_mul n0 n1 8 256 (by decide) (by omega)]
  omega

set_option maxHeartbeats 1000000 in
theorem read32_any (v : Value) (bs : List UInt8) (w : World) (h : BytesAt w v bs) (h4 : 4 ≤ bs.length) :
    Calls Tryz.prog 72 #[v] w fun e w' => e = .returned (.int .u64 (numOf (bs.take 4))) ∧ ∃ m, w' = w.drewN m := by
  obtain ⟨A, cap, rfl, h1, h2, hc⟩ := bytes_cell h
  obtain ⟨g, off, rfl, hc2⟩ := hc (by omega)
  have hm : bs.length ≤ 9223372036854775807 := Nat.le_trans h1 h2
  match bs, h4 with
  | c0 :: c1 :: c2 :: c3 :: r, _ =>
    have d0 : w.cell? ⟨g, off, none⟩ = some (.int .u8 c0.toNat) := hc2 0 (by simp)
    have d1 : w.cell? ⟨g, off + 1, none⟩ = some (.int .u8 c1.toNat) := hc2 1 (by simp)
    have d2 : w.cell? ⟨g, off + 2, none⟩ = some (.int .u8 c2.toNat) := hc2 2 (by simp)
    have d3 : w.cell? ⟨g, off + 3, none⟩ = some (.int .u8 c3.toNat) := hc2 3 (by simp)
    have b0 := c0.toNat_lt
    have b1 := c1.toNat_lt
    have b2 := c2.toNat_lt
    have b3 := c3.toNat_lt
    clear hc hc2 h h1 h2
    simp only [List.length_cons] at hm ⊢
    go_enter Tryz.func72, Tryz.ntmps72
    go_wp2
    go_quiet (fail)
    go_wp2
    go_ret
    refine ⟨?_, nq, rfl⟩
    have E := le32_sum c0.toNat c1.toNat c2.toNat c3.toNat b0 b1 b2 b3
    show Ending.returned (.int .u64 (bits BinOp.or IntKind.u64 (bits BinOp.or IntKind.u64 (bits BinOp.or IntKind.u64 (c0.toNat : Int) ((c1.toNat : Int) * 256)) ((c2.toNat : Int) * 65536)) ((c3.toNat : Int) * 16777216))) = _
    rw [E]
    simp [numOf]
end Go.Proofs.YtemjdmgfilbfaaaGreat
