/-
  The document's New.
-/
import Derived.Test.YtemjdmgfilbfaaaGreatMddbe9747
set_option linter.unusedVariables false
set_option linter.unusedSimpArgs false
namespace Go.Proofs.YtemjdmgfilbfaaaGreat
open Go.RowKit
open List (getElem_toArray getElem_cons_zero getElem_cons_succ setIfInBounds_toArray set_cons_zero set_cons_succ)
set_option linter.unusedVariables false
set_option linter.unusedSimpArgs false

theorem oneEs (xs : List En) : ∀ u ∈ cellsOf cellsE xs, u.oneCell' = true := fun u hu => by
  unfold cellsOf at hu
  obtain ⟨x, _, hx⟩ := List.mem_flatMap.1 hu
  simp only [cellsE, List.mem_cons, List.not_mem_nil, or_false] at hx
  rcases hx with rfl | rfl | rfl | rfl | rfl | rfl | rfl | rfl | rfl | rfl | rfl | rfl | rfl | rfl <;> rfl
theorem DR.base {w : World} {p B B' : Nat} {d : List Im} (h : DR w p B d) (hb : B' ≤ B) : DR w p B' d := by
  obtain ⟨sL, sV, h1, h2, h3⟩ := h.ex
  exact ⟨sL, sV, h1, row_base h2 hb, row_base h3 hb⟩
theorem join_row {w : World} {B J n c : Nat} {A : Option Addr} {es : List En} {y : En} (h : w.ownsRow B 59 14 (.slice A n c) n (cellsOf cellsE (es.take J ++ [y]) ++ cellsOf cellsE (es.drop J))) (hn : n = (es.take J ++ y :: es.drop J).length) :
    w.ownsRow B 59 14 (.slice A n c) (es.take J ++ y :: es.drop J).length (cellsOf cellsE (es.take J ++ y :: es.drop J)) := by
  rw [← hn]
  unfold cellsOf at h ⊢
  rw [← List.flatMap_append] at h
  simpa using h
def RNewP (xs : List En) (w : World) (e : Ending) (w' : World) : Prop :=
  Frm (fun _ => False) w w' ∧ ((checkE xs ≠ 0 ∧ e = .returned (.tuple #[.pointer none, .int .i64 (checkE xs)])) ∨
    (checkE xs = 0 ∧ ∃ p, e = .returned (.tuple #[ptr p, .int .i64 0]) ∧ DR w' p w.heap.size (newD xs) ∧ w.heap.size ≤ p))
/-- The document's list of entries, ahead of its values. -/
def RL (w : World) (p B : Nat) (es : List En) : Prop := ∃ sL, w.heap[p]? = some (.cells #[sL, .slice none 0 0] 75 (0, 0)) ∧ w.ownsRow B 59 14 sL es.length (cellsOf cellsE es)
theorem news_part {W : World} {g off : Nat} {es : List En} (h : ∀ j u, (cellsOf cellsE es)[j]? = some u → W.cell? ⟨g, off + j, none⟩ = some u) (k : Nat) : ∀ j u, (cellsOf cellsE (es.drop k))[j]? = some u → W.cell? ⟨g, off + k * 14 + j, none⟩ = some u := by
  intro j u hj
  rw [Nat.add_assoc]
  refine h _ _ ?_
  have hd : cellsOf cellsE (es.drop k) = (cellsOf cellsE es).drop (k * 14) := by
    by_cases hk : k ≤ es.length
    · conv => rhs; rw [← List.take_append_drop k es]
      unfold cellsOf
      rw [List.flatMap_append, List.drop_left' ?_]
      rw [← cellsOf.eq_def, cellsOf_length cellsE_len, List.length_take, Nat.min_eq_left hk]
    · rw [List.drop_eq_nil_of_le (by omega), List.drop_eq_nil_of_le (by rw [cellsOf_length cellsE_len]; omega)]
      rfl
  rw [hd, List.getElem?_drop] at hj
  exact hj
theorem news_front {W : World} {g off : Nat} {es : List En} (h : ∀ j u, (cellsOf cellsE es)[j]? = some u → W.cell? ⟨g, off + j, none⟩ = some u) (k : Nat) : ∀ j u, (cellsOf cellsE (es.take k))[j]? = some u → W.cell? ⟨g, off + j, none⟩ = some u := by
  intro j u hj
  refine h _ _ ?_
  have hd : cellsOf cellsE es = cellsOf cellsE (es.take k) ++ cellsOf cellsE (es.drop k) := by
    conv => lhs; rw [← List.take_append_drop k es]
    unfold cellsOf
    rw [List.flatMap_append]
  rw [hd, List.getElem?_append_left (List.getElem?_eq_some_iff.1 hj).1]
  exact hj
theorem RL.open_ {w : World} {p B : Nat} {es : List En} (h : RL w p B es) : ∃ A cap, w.heap[p]? = some (.cells #[.slice A es.length cap, .slice none 0 0] 75 (0, 0)) ∧ w.ownsRow B 59 14 (.slice A es.length cap) es.length (cellsOf cellsE es) ∧ es.length ≤ cap ∧ cap ≤ maxLen ∧
    (0 < es.length → ∃ g, A = some ⟨g, 0, none⟩ ∧ g < w.heap.size ∧ g ≠ p ∧ ∀ j u, (cellsOf cellsE es)[j]? = some u → w.cell? ⟨g, j, none⟩ = some u) := by
  obtain ⟨sL, h1, h2⟩ := h
  obtain ⟨A, cap, rfl, q1, q2, q3⟩ := row_open h2
  refine ⟨A, cap, h1, h2, q1, q2, fun hp => ?_⟩
  obtain ⟨g, e, _, ⟨cur, hc⟩, _, hcc⟩ := q3 hp
  refine ⟨g, e, lt_of_block hc, block_ne hc h1 (by decide), fun j u hj => ?_⟩
  have hlt := (List.getElem?_eq_some_iff.1 hj).1
  rw [cellsOf_length cellsE_len] at hlt
  rw [hcc _ hlt]
  exact hj
theorem RL.frm {S : Nat → Prop} {w w' : World} {p B : Nat} {es : List En} (h : RL w p B es) (hF : Frm S w w') (hp : ¬ S p) (hb : ∀ j, B ≤ j → ¬ S j) : RL w' p B es := by
  obtain ⟨sL, h1, h2⟩ := h
  exact ⟨sL, hF.heap h1 hp, hF.row h2 fun j hj => hb j (row_block h2 hj).1⟩

theorem RL.grow {w w' : World} {p B : Nat} {es : List En} (h : RL w p B es) (hF : Frm (fun _ => False) w w') : RL w' p B es := h.frm hF (fun h => h) (fun _ _ h => h)
theorem size_Entry (w : World) : (Go.sizeOf 59).run Tryz.prog w = .ok 14 w := by
  have h : (Tryz.prog.info? 59).map (·.size) = some 14 := by kernel_rfl
  obtain ⟨i, hi, h1⟩ := Option.map_eq_some_iff.1 h
  simp [Go.sizeOf, typeInfo, hi, h1]
theorem slice_front {W0 : World} {A : Option Addr} {es : List En} {cap : Nat} (j : Nat) (hj : j ≤ es.length) (hc : es.length ≤ cap) (h : 0 < es.length → NewsOf W0 A (cellsOf cellsE es)) :
    ∃ A1, (∀ W, (Instr.slice 22 (.slice A es.length cap) none (some (.int .i64 (j : Int))) none).run Tryz.prog W = .ok (.slice A1 j cap) W) ∧ (0 < j → NewsOf W0 A1 (cellsOf cellsE (es.take j))) := by
  have ht : Tryz.prog.underlying 22 = some (.slice (Tryz.prog.elem 22)) := by kernel_rfl
  have he : Tryz.prog.elem 22 = 59 := by kernel_rfl
  refine ⟨if cap = 0 then A else A.map (·.add (0 * 14)), fun W => ?_, fun h0 => ?_⟩
  · rw [run_slice_h W 22 _ _ _ ht .i64 _ (by omega) (by omega), he, size_Entry]
    simp [Result.andThen, sliced]
  · obtain ⟨g, off, rfl, hc2⟩ := h (by omega)
    rw [if_neg (by omega)]
    exact ⟨g, off, by simp [Addr.add], fun i u hi => news_front hc2 j i u hi⟩
theorem slice_back {W0 : World} {A : Option Addr} {es : List En} {cap : Nat} (j : Nat) (hj : j ≤ es.length) (hc : es.length ≤ cap) (h : 0 < es.length → NewsOf W0 A (cellsOf cellsE es)) :
    ∃ A1, (∀ W, (Instr.slice 22 (.slice A es.length cap) (some (.int .i64 (j : Int))) none none).run Tryz.prog W = .ok (.slice A1 (es.length - j) (cap - j)) W) ∧ (0 < es.length - j → NewsOf W0 A1 (cellsOf cellsE (es.drop j))) := by
  have ht : Tryz.prog.underlying 22 = some (.slice (Tryz.prog.elem 22)) := by kernel_rfl
  have he : Tryz.prog.elem 22 = 59 := by kernel_rfl
  refine ⟨if cap = j then A else A.map (·.add (j * 14)), fun W => ?_, fun h0 => ?_⟩
  · rw [run_slice_l W 22 _ _ _ ht .i64 _ (by omega) (by omega), he, size_Entry]
    simp [Result.andThen, sliced]
  · obtain ⟨g, off, rfl, hc2⟩ := h (by omega)
    rw [if_neg (by omega)]
    refine ⟨g, off + j * 14, ?_, fun i u hi => news_part hc2 j i u hi⟩
    simp only [Option.map_some, Addr.add]
    by_cases h1 : j = 0
    · simp [h1]
    · have h2 : j * 14 ≠ 0 := by omega
      simp [h2]

/-- A block without cells is an empty row. -/
theorem ownE {w : World} {g : Nat} {e : TypeId} (size : Nat) (h : w.heap[g]? = some (.cells #[] e (0, 0))) : w.ownsRow g e size (.slice (some ⟨g, 0, none⟩) 0 0) 0 [] :=
  ⟨by simp, .inr ⟨g, 0, #[], rfl, Nat.le_refl _, h, Nat.le_refl _, by unfold maxLen; omega, by simp, by simp⟩⟩
/-- The entries up to a place, and one more. -/
def AppC (B n : Nat) (es : List En) (wq : World) (v : Value) (wx : World) : Prop := ∃ A c, v = .slice A n c ∧ wx.ownsRow B 59 14 v n (cellsOf cellsE es) ∧ Frm (fun _ => False) wq wx
set_option maxRecDepth 100000 in
set_option maxHeartbeats 4000000 in
theorem rDNew_any (v : Value) (xs : List En) (w : World) (h : SlAt cellsE 14 w v xs) (hx : ∀ x ∈ xs, x.ok) : Calls Tryz.prog 29 #[v] w (RNewP xs w) := by
  have HCHK := Lib.hid (fun W hW => rDCheck_any v xs W hW hx)
  have HSL := Lib.hid h
  have HOK := Lib.hid hx
  obtain ⟨A, cap, rfl, h1, h2, hA⟩ := h
  have hm : xs.length ≤ 9223372036854775807 := Nat.le_trans h1 h2
  have HA := Lib.hid hA
  clear h1 h2 hA hx
  by_cases hc : checkE xs = 0
  case neg =>
    have HC := Lib.hid hc
    unfold RNewP
    generalize checkE xs = c at *
    have hb : (c != 0) = true := by simpa using hc
    clear hc
    go_enter Tryz.func29, Tryz.ntmps29
    go_wp2_with (go_at_call 59; refine (HCHK.out _ HSL.out).mono ?_; rintro e w3 ⟨rfl, hF3⟩)
    go_ret2
    exact ⟨hF3, .inl ⟨HC.out, rfl⟩⟩
  obtain ⟨hlen, hent, hnd⟩ := check_facts hc
  unfold RNewP
  rw [hc] at HCHK
  have HC := Lib.hid hc
  have HND := Lib.hid (putE_all xs)
  generalize checkE xs = c at *
  clear hc hent hnd
  go_enter Tryz.func29, Tryz.ntmps29
  go_upto_region 4 with (go_at_call 59; refine (HCHK.out _ HSL.out).mono ?_; rintro e w3 ⟨rfl, hF3⟩)
  have HF3 := Lib.hid hF3
  clear hF3 HCHK
  go_wp2_with fail
  go_loopw [6] (fun i wr => ∃ (k : Nat), k ≤ xs.length ∧ i = .int .i64 k ∧ RL wr w3.heap.size w3.heap.size (putE xs k) ∧ Frm (fun _ => False) w wr ∧ w3.heap.size < wr.heap.size) (fun i _ => xs.length - (intOf i).toNat)
  case atStart =>
    refine ⟨0, Nat.zero_le _, rfl, ⟨.slice none 0 0, heap_new _ _, World.ownsRow_nil _ _ _ _⟩, HF3.out.alloc _, by simp⟩
  case round =>
    obtain ⟨k, hk, rfl, hRL, hfr, hsz⟩ := hrel
    by_cases hlt : k < xs.length
    · have HKL : Hid (k + 1 ≤ xs.length) := hlt
      obtain ⟨g, off, rfl, hgl, hcell⟩ := HA.out (by omega)
      have hput := putE_succ xs k hlt
      have hxo := HOK.out _ (List.getElem_mem hlt)
      have HMEM : Hid (∀ y ∈ putE xs k, y.ok) := fun y hy => by
        obtain ⟨z, hz, rfl⟩ := putE_mem xs k y hy
        exact plainE_ok (HOK.out z hz)
      have hlk := putE_len xs k hk
      have HF := Lib.hid hfr
      have q := fun j hj => HF.out.cell ((hcell k hlt j hj).trans (List.getElem?_eq_getElem (by rw [cellsE_len]; exact hj))) (fun h => h)
      obtain ⟨pk1, hpk1⟩ : ∃ es1, es1 = putE xs (k + 1) := ⟨_, rfl⟩
      rw [← hpk1] at hput
      generalize putE xs k = es at *
      generalize xs[k] = x at *
      have HPUT := Lib.hid hput
      have HP1 := Lib.hid hpk1
      have HLK := Lib.hid hlk
      have d0 := q 0 (by decide)
      have d1 := q 1 (by decide)
      have d2 := q 2 (by decide)
      have d3 := q 3 (by decide)
      have d4 := q 4 (by decide)
      have d5 := q 5 (by decide)
      have d6 := q 6 (by decide)
      have d7 := q 7 (by decide)
      have d8 := q 8 (by decide)
      have d9 := q 9 (by decide)
      have d10 := q 10 (by decide)
      have d11 := q 11 (by decide)
      have d12 := q 12 (by decide)
      have d13 := q 13 (by decide)
      simp only [cellsE, getElem_cons_succ, getElem_cons_zero, Nat.add_zero] at d0 d1 d2 d3 d4 d5 d6 d7 d8 d9 d10 d11 d12 d13
      have HPL := Lib.hid (fun W => rPlain_any x.df W)
      have HBX : Hid (∀ W, Frm (fun _ => False) (wr.alloc (.cells #[.int .u16 x.idx, .int .u8 x.sub, .int .i64 x.acc, .bool x.mp, .bool x.lim, .int .i64 x.mn.ty, .int .u64 x.mn.n, .string (strB2 x.mn.b), .int .i64 x.mx.ty, .int .u64 x.mx.n, .string (strB2 x.mx.b), .int .i64 x.df.ty, .int .u64 x.df.n, .string (strB2 x.df.b)] 59)) W → W.heap[wr.heap.size]? = some (.cells #[.int .u16 x.idx, .int .u8 x.sub, .int .i64 x.acc, .bool x.mp, .bool x.lim, .int .i64 x.mn.ty, .int .u64 x.mn.n, .string (strB2 x.mn.b), .int .i64 x.mx.ty, .int .u64 x.mx.n, .string (strB2 x.mx.b), .int .i64 x.df.ty, .int .u64 x.df.n, .string (strB2 x.df.b)] 59) ∧ Frm (fun _ => False) wr W) := fun W hF => ⟨hF.heap (heap_new _ _) (fun h => h), Frm.trans' (b := _) (by (repeat' (first | (with_reducible exact Frm.refl _ _) | (with_reducible assumption) | (with_reducible refine Frm.alloc ?_ _) | (with_reducible refine Frm.drew ?_) | (with_reducible refine Frm.drewN ?_ _) | (with_reducible refine Frm.set1 ?_ _) | (with_reducible refine Frm.setCell ?_ ?_ _) | (exact fun h => absurd h (Nat.lt_irrefl _)) | (intro hlt; simp [World.size_alloc, One] at hlt ⊢; omega)))) hF⟩
      have HPF : Hid (plainV x.df = (plainE x).df) := rfl
      unfold valV at HPL
      have HRL := Lib.hid hRL
      have HSZ := Lib.hid hsz
      clear hRL hlk hfr hcell q hput hpk1 hsz
      have hgl2 := Nat.lt_of_lt_of_le hgl HF.out.size
      obtain ⟨wo, hwo⟩ : ∃ wo : World, wo = wr := ⟨_, rfl⟩
      subst hwo
      go_wp2_with (go_at_call 60; refine (HPL.out _).mono ?_; rintro e w4 ⟨rfl, hF4⟩; obtain ⟨kk, hF4'⟩ := HBX.out w4 hF4; have HK := Lib.hid kk; have HF4 := Lib.hid hF4'; have hfz := frees kk; have l0 := lt_of_block kk; have c11 : w4.cell? ⟨wo.heap.size, 11, none⟩ = some (.int .i64 x.df.ty) := cell_at kk; have c12 : w4.cell? ⟨wo.heap.size, 12, none⟩ = some (.int .u64 x.df.n) := cell_at kk; have c13 : w4.cell? ⟨wo.heap.size, 13, none⟩ = some (.string (strB2 x.df.b)) := cell_at kk; clear hF4 hF4' kk)
      have hFx : Frm (fun _ => False) wo (((w4.setCell ⟨wo.heap.size, 11, none⟩ (.int .i64 (plainV x.df).ty)).setCell ⟨wo.heap.size, 12, none⟩ (.int .u64 (plainV x.df).n)).setCell ⟨wo.heap.size, 13, none⟩ (.string (strB2 (plainV x.df).b))) :=
        ((HF4.out.setCell (p := ⟨wo.heap.size, 11, none⟩) (fun h => absurd h (Nat.lt_irrefl _)) _).setCell (p := ⟨wo.heap.size, 12, none⟩) (fun h => absurd h (Nat.lt_irrefl _)) _).setCell (p := ⟨wo.heap.size, 13, none⟩) (fun h => absurd h (Nat.lt_irrefl _)) _
      have hTx := store14 (c11 := .int .i64 (plainV x.df).ty) (c12 := .int .u64 (plainV x.df).n) (c13 := .string (strB2 (plainV x.df).b)) HK.out
      obtain ⟨wx, hwx⟩ : ∃ wx, wx = ((w4.setCell ⟨wo.heap.size, 11, none⟩ (.int .i64 (plainV x.df).ty)).setCell ⟨wo.heap.size, 12, none⟩ (.int .u64 (plainV x.df).n)).setCell ⟨wo.heap.size, 13, none⟩ (.string (strB2 (plainV x.df).b)) := ⟨_, rfl⟩
      rw [← hwx] at hFx hTx ⊢
      rw [HPF.out] at hTx
      have hTx' : wx.heap[wo.heap.size]? = some (.cells #[.int .u16 (plainE x).idx, .int .u8 (plainE x).sub, .int .i64 (plainE x).acc, .bool (plainE x).mp, .bool (plainE x).lim, .int .i64 (plainE x).mn.ty, .int .u64 (plainE x).mn.n, .string (strB2 (plainE x).mn.b), .int .i64 (plainE x).mx.ty, .int .u64 (plainE x).mx.n, .string (strB2 (plainE x).mx.b), .int .i64 (plainE x).df.ty, .int .u64 (plainE x).df.n, .string (strB2 (plainE x).df.b)] 59) := hTx
      have hpx := plainE_ok hxo
      clear hwx hfz l0 c11 c12 c13 d0 d1 d2 d3 d4 d5 d6 d7 d8 d9 d10 d11 d12 d13 HBX HPL HK HF4 HPF hTx hgl2 hgl
      generalize plainE x = y at *
      have HF1 := Lib.hid hFx
      have HTX := Lib.hid hTx'
      have hbx : wo.heap.size < wx.heap.size := lt_of_block hTx'
      obtain ⟨A, cap, hO0, hR0, hcl, hcm, hnw⟩ := (RL.grow HRL.out hFx).open_
      clear hFx hTx'
      have HCD : Hid (∀ W, Frm (fun _ => False) wx W → W.cell? ⟨w3.heap.size, 0, none⟩ = some (.slice A es.length cap) ∧ W.cell? ⟨wo.heap.size, 0, none⟩ = some (.int .u16 y.idx) ∧ W.cell? ⟨wo.heap.size, 1, none⟩ = some (.int .u8 y.sub) ∧ W.cell? ⟨wo.heap.size, 2, none⟩ = some (.int .i64 y.acc) ∧ W.cell? ⟨wo.heap.size, 3, none⟩ = some (.bool y.mp) ∧ W.cell? ⟨wo.heap.size, 4, none⟩ = some (.bool y.lim) ∧ W.cell? ⟨wo.heap.size, 5, none⟩ = some (.int .i64 y.mn.ty) ∧ W.cell? ⟨wo.heap.size, 6, none⟩ = some (.int .u64 y.mn.n) ∧ W.cell? ⟨wo.heap.size, 7, none⟩ = some (.string (strB2 y.mn.b)) ∧ W.cell? ⟨wo.heap.size, 8, none⟩ = some (.int .i64 y.mx.ty) ∧ W.cell? ⟨wo.heap.size, 9, none⟩ = some (.int .u64 y.mx.n) ∧ W.cell? ⟨wo.heap.size, 10, none⟩ = some (.string (strB2 y.mx.b)) ∧ W.cell? ⟨wo.heap.size, 11, none⟩ = some (.int .i64 y.df.ty) ∧ W.cell? ⟨wo.heap.size, 12, none⟩ = some (.int .u64 y.df.n) ∧ W.cell? ⟨wo.heap.size, 13, none⟩ = some (.string (strB2 y.df.b))) := fun W hF => by
        have k1 := hF.heap HTX.out (fun h => h)
        exact ⟨hF.cell (cell_at hO0) (fun h => h), cell_at k1, cell_at k1, cell_at k1, cell_at k1, cell_at k1, cell_at k1, cell_at k1, cell_at k1, cell_at k1, cell_at k1, cell_at k1, cell_at k1, cell_at k1, cell_at k1⟩
      have HO0 := Lib.hid hO0
      have HR0 := Lib.hid hR0
      have HNW := Lib.hid hnw
      have HNWS : Hid (0 < es.length → NewsOf wx A (cellsOf cellsE es)) := fun h => by
        obtain ⟨g, e, _, _, hc⟩ := hnw h
        exact ⟨g, 0, e, fun i u hi => by simpa using hc i u hi⟩
      have HCL := Lib.hid hcl
      have hpx2 : w3.heap.size < wx.heap.size := lt_of_block hO0
      have HPY := Lib.hid (fun W => rplace_any y W hpx)
      unfold valE at HPY
      clear hO0 hR0 hnw HTX hcl hcm
      go_loopw [8] (fun i wr => ∃ j : Nat, j ≤ es.length ∧ i = .int .i64 j ∧ (∀ (m : Nat) (hm : m < es.length), m < j → plE es[m] < plE y) ∧ Frm (fun _ => False) wx wr) (fun i _ => es.length - (intOf i).toNat)
      case atStart => exact ⟨0, Nat.zero_le _, rfl, fun m hm h => absurd h (Nat.not_lt_zero _), Frm.refl _ _⟩
      case round =>
        obtain ⟨j, hj, rfl, hlow, hF⟩ := hrel
        have HLOW := Lib.hid hlow
        have HFJ := Lib.hid hF
        obtain ⟨A1, hs1, hn1⟩ := slice_front (W0 := wx) j hj HCL.out HNWS.out
        obtain ⟨A2, hs2, hn2⟩ := slice_back (W0 := wx) j hj HCL.out HNWS.out
        have HS1 := Lib.hid hs1
        have HS2 := Lib.hid hs2
        have HN1' := Lib.hid hn1
        have HN2' := Lib.hid hn2
        have HJ := Lib.hid hj
        clear hlow hs1 hs2 hn1 hn2
        have hwr := hF.size
        have h3r : w3.heap.size < wr.heap.size := by omega
        have hor : wo.heap.size < wr.heap.size := by omega
        by_cases hjl : j < es.length
        · have HJL : Hid (j < es.length) := hjl
          obtain ⟨ge, rfl, hge, hgp, hce⟩ := HNW.out (by omega)
          have hzo := HMEM.out _ (List.getElem_mem hjl)
          have hcz : ∀ o (ho : o < 14), wx.cell? ⟨ge, j * 14 + o, none⟩ = some ((cellsE es[j])[o]'(by rw [cellsE_len]; exact ho)) := fun o ho => hce _ _ ((cellsOf_get cellsE_len es j o hjl ho).trans (List.getElem?_eq_getElem (by rw [cellsE_len]; exact ho)))
          have HN1 : Hid (plE es[j] < plE y → ∀ (m : Nat) (hm : m < es.length), m < j + 1 → plE es[m] < plE y) := fun h m hm h2 => by
            rcases Nat.lt_or_eq_of_le (Nat.le_of_lt_succ h2) with h3 | rfl
            · exact HLOW.out m hm h3
            · exact h
          have HINS : Hid (¬ plE es[j] < plE y → insE y es = es.take j ++ y :: es.drop j) := fun h => insE_at y es j hj HLOW.out (fun _ => h)
          have hger := Nat.lt_of_lt_of_le hge hwr
          generalize es[j] = z at *
          have e0 := hcz 0 (by decide)
          have e1 := hcz 1 (by decide)
          have e2 := hcz 2 (by decide)
          have e3 := hcz 3 (by decide)
          have e4 := hcz 4 (by decide)
          have e5 := hcz 5 (by decide)
          have e6 := hcz 6 (by decide)
          have e7 := hcz 7 (by decide)
          have e8 := hcz 8 (by decide)
          have e9 := hcz 9 (by decide)
          have e10 := hcz 10 (by decide)
          have e11 := hcz 11 (by decide)
          have e12 := hcz 12 (by decide)
          have e13 := hcz 13 (by decide)
          simp only [cellsE, getElem_cons_succ, getElem_cons_zero, Nat.add_zero] at e0 e1 e2 e3 e4 e5 e6 e7 e8 e9 e10 e11 e12 e13
          have hcc : ∀ W, Frm (fun _ => False) wr W → (W.cell? ⟨w3.heap.size, 0, none⟩ = some (.slice (some ⟨ge, 0, none⟩) es.length cap) ∧ W.cell? ⟨wo.heap.size, 0, none⟩ = some (.int .u16 y.idx) ∧ W.cell? ⟨wo.heap.size, 1, none⟩ = some (.int .u8 y.sub) ∧ W.cell? ⟨wo.heap.size, 2, none⟩ = some (.int .i64 y.acc) ∧ W.cell? ⟨wo.heap.size, 3, none⟩ = some (.bool y.mp) ∧ W.cell? ⟨wo.heap.size, 4, none⟩ = some (.bool y.lim) ∧ W.cell? ⟨wo.heap.size, 5, none⟩ = some (.int .i64 y.mn.ty) ∧ W.cell? ⟨wo.heap.size, 6, none⟩ = some (.int .u64 y.mn.n) ∧ W.cell? ⟨wo.heap.size, 7, none⟩ = some (.string (strB2 y.mn.b)) ∧ W.cell? ⟨wo.heap.size, 8, none⟩ = some (.int .i64 y.mx.ty) ∧ W.cell? ⟨wo.heap.size, 9, none⟩ = some (.int .u64 y.mx.n) ∧ W.cell? ⟨wo.heap.size, 10, none⟩ = some (.string (strB2 y.mx.b)) ∧ W.cell? ⟨wo.heap.size, 11, none⟩ = some (.int .i64 y.df.ty) ∧ W.cell? ⟨wo.heap.size, 12, none⟩ = some (.int .u64 y.df.n) ∧ W.cell? ⟨wo.heap.size, 13, none⟩ = some (.string (strB2 y.df.b))) ∧
            W.cell? ⟨ge, j * 14, none⟩ = some (.int .u16 z.idx) ∧ W.cell? ⟨ge, j * 14 + 1, none⟩ = some (.int .u8 z.sub) ∧ W.cell? ⟨ge, j * 14 + 2, none⟩ = some (.int .i64 z.acc) ∧ W.cell? ⟨ge, j * 14 + 3, none⟩ = some (.bool z.mp) ∧ W.cell? ⟨ge, j * 14 + 4, none⟩ = some (.bool z.lim) ∧ W.cell? ⟨ge, j * 14 + 5, none⟩ = some (.int .i64 z.mn.ty) ∧ W.cell? ⟨ge, j * 14 + 6, none⟩ = some (.int .u64 z.mn.n) ∧ W.cell? ⟨ge, j * 14 + 7, none⟩ = some (.string (strB2 z.mn.b)) ∧ W.cell? ⟨ge, j * 14 + 8, none⟩ = some (.int .i64 z.mx.ty) ∧ W.cell? ⟨ge, j * 14 + 9, none⟩ = some (.int .u64 z.mx.n) ∧ W.cell? ⟨ge, j * 14 + 10, none⟩ = some (.string (strB2 z.mx.b)) ∧ W.cell? ⟨ge, j * 14 + 11, none⟩ = some (.int .i64 z.df.ty) ∧ W.cell? ⟨ge, j * 14 + 12, none⟩ = some (.int .u64 z.df.n) ∧ W.cell? ⟨ge, j * 14 + 13, none⟩ = some (.string (strB2 z.df.b)) := fun W h => by
            have hh := hF.trans' h
            exact ⟨HCD.out W hh, hh.cell e0 (fun h => h), hh.cell e1 (fun h => h), hh.cell e2 (fun h => h), hh.cell e3 (fun h => h), hh.cell e4 (fun h => h), hh.cell e5 (fun h => h), hh.cell e6 (fun h => h), hh.cell e7 (fun h => h), hh.cell e8 (fun h => h), hh.cell e9 (fun h => h), hh.cell e10 (fun h => h), hh.cell e11 (fun h => h), hh.cell e12 (fun h => h), hh.cell e13 (fun h => h)⟩
          have HCC := Lib.hid hcc
          have HPZ := Lib.hid (fun W => rplace_any z W hzo)
          unfold valE at HPZ
          clear hcz hce hcc hzo hF e0 e1 e2 e3 e4 e5 e6 e7 e8 e9 e10 e11 e12 e13
          generalize hpze : plE z = pz at *
          generalize hpye : plE y = py at *
          clear hpze hpye
          go_upto_region 10 with fail
          refine wp_region_held_drew (S := fun W => Frm (fun _ => False) wr W) (by kernel_rfl) ((Frm.refl _ _).drew) (fun hHeld => ?_)
          refine wpAnyH_take (i := 0) (v := ?_) rfl (by kernel_rfl) (by kernel_rfl) (by kernel_rfl) (fun _ _ _ h => h) (Or.inl ⟨by rfl, ?_⟩) (by assumption) ?_; rotate_left; · (intro wq hSq; have hq := HCC.out wq hSq; go_split_ands; go_simp; (try with_reducible rfl))
          try simp only [Act.put, getElem_toArray, getElem_cons_zero, getElem_cons_succ, setIfInBounds_toArray, set_cons_zero, set_cons_succ]
          refine wpAnyH_take (i := 1) (v := ?_) rfl (by kernel_rfl) (by kernel_rfl) (by kernel_rfl) (fun _ _ _ h => h) (Or.inl ⟨by rfl, ?_⟩) (by assumption) ?_; rotate_left; · (intro wq hSq; have hq := HCC.out wq hSq; go_split_ands; go_simp; (try with_reducible rfl))
          try simp only [Act.put, getElem_toArray, getElem_cons_zero, getElem_cons_succ, setIfInBounds_toArray, set_cons_zero, set_cons_succ]
          refine wpAnyH_take (i := 2) (v := ?_) rfl (by kernel_rfl) (by kernel_rfl) (by kernel_rfl) (fun _ _ _ h => h) (Or.inl ⟨by rfl, ?_⟩) (by assumption) ?_; rotate_left; · (intro wq hSq; have hq := HCC.out wq hSq; go_split_ands; go_simp; (try with_reducible rfl))
          try simp only [Act.put, getElem_toArray, getElem_cons_zero, getElem_cons_succ, setIfInBounds_toArray, set_cons_zero, set_cons_succ]
          refine wpAnyH_take (i := 3) (v := ?_) rfl (by kernel_rfl) (by kernel_rfl) (by kernel_rfl) (fun _ _ _ h => h) (Or.inl ⟨by rfl, ?_⟩) (by assumption) ?_; rotate_left; · (intro wq hSq; have hq := HCC.out wq hSq; go_split_ands; go_simp; (try with_reducible rfl))
          try simp only [Act.put, getElem_toArray, getElem_cons_zero, getElem_cons_succ, setIfInBounds_toArray, set_cons_zero, set_cons_succ]
          refine wpAnyH_take (i := 4) (v := ?_) rfl (by kernel_rfl) (by kernel_rfl) (by kernel_rfl) (fun _ _ _ h => h) (Or.inl ⟨by rfl, ?_⟩) (by assumption) ?_; rotate_left; · (intro wq hSq; have hq := HCC.out wq hSq; go_split_ands; go_simp; (try with_reducible rfl))
          try simp only [Act.put, getElem_toArray, getElem_cons_zero, getElem_cons_succ, setIfInBounds_toArray, set_cons_zero, set_cons_succ]
          refine wpAnyH_take (i := 5) (v := ?_) rfl (by kernel_rfl) (by kernel_rfl) (by kernel_rfl) (fun _ _ _ h => h) (Or.inl ⟨by rfl, ?_⟩) (by assumption) ?_; rotate_left; · (intro wq hSq; have hq := HCC.out wq hSq; go_split_ands; go_simp; (try with_reducible rfl))
          try simp only [Act.put, getElem_toArray, getElem_cons_zero, getElem_cons_succ, setIfInBounds_toArray, set_cons_zero, set_cons_succ]
          refine wpAnyH_take (i := 6) (v := ?_) rfl (by kernel_rfl) (by kernel_rfl) (by kernel_rfl) (fun _ _ _ h => h) (Or.inl ⟨by rfl, ?_⟩) (by assumption) ?_; rotate_left; · (intro wq hSq; have hq := HCC.out wq hSq; go_split_ands; go_simp; (try with_reducible rfl))
          try simp only [Act.put, getElem_toArray, getElem_cons_zero, getElem_cons_succ, setIfInBounds_toArray, set_cons_zero, set_cons_succ]
          refine wpAnyH_take (i := 7) (v := ?_) rfl (by kernel_rfl) (by kernel_rfl) (by kernel_rfl) (fun _ _ _ h => h) (Or.inl ⟨by rfl, ?_⟩) (by assumption) ?_; rotate_left; · (intro wq hSq; have hq := HCC.out wq hSq; go_split_ands; go_simp; (try with_reducible rfl))
          try simp only [Act.put, getElem_toArray, getElem_cons_zero, getElem_cons_succ, setIfInBounds_toArray, set_cons_zero, set_cons_succ]
          refine wpAnyH_take (i := 8) (v := ?_) rfl (by kernel_rfl) (by kernel_rfl) (by kernel_rfl) (fun _ _ _ h => h) (Or.inl ⟨by rfl, ?_⟩) (by assumption) ?_; rotate_left; · (intro wq hSq; have hq := HCC.out wq hSq; go_split_ands; go_simp; (try with_reducible rfl))
          try simp only [Act.put, getElem_toArray, getElem_cons_zero, getElem_cons_succ, setIfInBounds_toArray, set_cons_zero, set_cons_succ]
          refine wpAnyH_take (i := 9) (v := ?_) rfl (by kernel_rfl) (by kernel_rfl) (by kernel_rfl) (fun _ _ _ h => h) (Or.inl ⟨by rfl, ?_⟩) (by assumption) ?_; rotate_left; · (intro wq hSq; have hq := HCC.out wq hSq; go_split_ands; go_simp; (try with_reducible rfl))
          try simp only [Act.put, getElem_toArray, getElem_cons_zero, getElem_cons_succ, setIfInBounds_toArray, set_cons_zero, set_cons_succ]
          refine wpAnyH_take (i := 10) (v := ?_) rfl (by kernel_rfl) (by kernel_rfl) (by kernel_rfl) (fun _ _ _ h => h) (Or.inl ⟨by rfl, ?_⟩) (by assumption) ?_; rotate_left; · (intro wq hSq; have hq := HCC.out wq hSq; go_split_ands; go_simp; (try with_reducible rfl))
          try simp only [Act.put, getElem_toArray, getElem_cons_zero, getElem_cons_succ, setIfInBounds_toArray, set_cons_zero, set_cons_succ]
          refine wpAnyH_take (i := 11) (v := ?_) rfl (by kernel_rfl) (by kernel_rfl) (by kernel_rfl) (fun _ _ _ h => h) (Or.inl ⟨by rfl, ?_⟩) (by assumption) ?_; rotate_left; · (intro wq hSq; have hq := HCC.out wq hSq; go_split_ands; go_simp; (try with_reducible rfl))
          try simp only [Act.put, getElem_toArray, getElem_cons_zero, getElem_cons_succ, setIfInBounds_toArray, set_cons_zero, set_cons_succ]
          refine wpAnyH_take (i := 12) (v := ?_) rfl (by kernel_rfl) (by kernel_rfl) (by kernel_rfl) (fun _ _ _ h => h) (Or.inl ⟨by rfl, ?_⟩) (by assumption) ?_; rotate_left; · (intro wq hSq; have hq := HCC.out wq hSq; go_split_ands; go_simp; (try with_reducible rfl))
          try simp only [Act.put, getElem_toArray, getElem_cons_zero, getElem_cons_succ, setIfInBounds_toArray, set_cons_zero, set_cons_succ]
          refine wpAnyH_take (i := 13) (v := ?_) rfl (by kernel_rfl) (by kernel_rfl) (by kernel_rfl) (fun _ _ _ h => h) (Or.inl ⟨by rfl, ?_⟩) (by assumption) ?_; rotate_left; · (intro wq hSq; have hq := HCC.out wq hSq; go_split_ands; go_simp; (try with_reducible rfl))
          try simp only [Act.put, getElem_toArray, getElem_cons_zero, getElem_cons_succ, setIfInBounds_toArray, set_cons_zero, set_cons_succ]
          refine wpAnyH_take (i := 14) (v := ?_) rfl (by kernel_rfl) (by kernel_rfl) (by kernel_rfl) (fun _ _ _ h => h) (Or.inl ⟨by rfl, ?_⟩) (by assumption) ?_; rotate_left; · (intro wq hSq; have hq := HCC.out wq hSq; go_split_ands; go_simp; (try with_reducible rfl))
          try simp only [Act.put, getElem_toArray, getElem_cons_zero, getElem_cons_succ, setIfInBounds_toArray, set_cons_zero, set_cons_succ]
          refine wpAnyH_take (i := 16) (v := ?_) rfl (by kernel_rfl) (by kernel_rfl) (by kernel_rfl) (fun _ _ _ h => h) (Or.inl ⟨by rfl, ?_⟩) (by assumption) ?_; rotate_left; · (intro wq hSq; have hq := HCC.out wq hSq; go_split_ands; go_simp; (try with_reducible rfl))
          try simp only [Act.put, getElem_toArray, getElem_cons_zero, getElem_cons_succ, setIfInBounds_toArray, set_cons_zero, set_cons_succ]
          refine wpAnyH_ready (rs := [15]) (by kernel_rfl) (by simp) ?_
          refine AllReadyH.cons rfl (fun K hK => ?_) AllReadyH.nil
          try simp only [getElem_toArray, getElem_cons_zero, getElem_cons_succ]
          go_simp
          refine (HPZ.out _).mono ?_
          rintro e w6 ⟨rfl, hF6⟩
          go_wp2_with fail
          refine hK.out _ _ (hHeld.trans' hF6) (fun hHeld => ?_)
          clear hK K
          try simp only [Act.put, setIfInBounds_toArray, set_cons_zero, set_cons_succ]
          refine wpAnyH_ready (rs := [17]) (by kernel_rfl) (by simp) ?_
          refine AllReadyH.cons rfl (fun K hK => ?_) AllReadyH.nil
          try simp only [getElem_toArray, getElem_cons_zero, getElem_cons_succ]
          go_simp
          refine (HPY.out _).mono ?_
          rintro e w7 ⟨rfl, hF7⟩
          go_wp2_with fail
          refine hK.out _ _ (hHeld.trans' hF7) (fun hHeld => ?_)
          clear hK K
          try simp only [Act.put, setIfInBounds_toArray, set_cons_zero, set_cons_succ]
          refine wpAnyH_take (i := 18) (v := ?_) rfl (by kernel_rfl) (by kernel_rfl) (by kernel_rfl) (fun _ _ _ h => h) (Or.inl ⟨by rfl, ?_⟩) (by assumption) ?_; rotate_left; · (intro wq hSq; have hq := HCC.out wq hSq; go_split_ands; go_simp; (try with_reducible rfl))
          try simp only [Act.put, getElem_toArray, getElem_cons_zero, getElem_cons_succ, setIfInBounds_toArray, set_cons_zero, set_cons_succ]
          refine wpAnyH_take (i := 19) (v := ?_) rfl (by kernel_rfl) (by kernel_rfl) (by kernel_rfl) (fun _ _ _ h => h) (Or.inl ⟨by rfl, ?_⟩) (by assumption) ?_; rotate_left; · (intro wq hSq; have hq := HCC.out wq hSq; go_split_ands; go_simp; (try with_reducible rfl))
          try simp only [Act.put, getElem_toArray, getElem_cons_zero, getElem_cons_succ, setIfInBounds_toArray, set_cons_zero, set_cons_succ]
          refine wpAnyH_done (by kernel_rfl) ?_ _
          clear hF6 hF7
          by_cases hlt2 : pz < py
          · have b1 : decide (pz < py) = true := by simpa using hlt2
            have HN2 := Lib.hid (HN1.out hlt2)
            have hj9 := HJL.out
            have hk9 := HLK.out
            go_wp2_with fail
            go_roundw
            case rel => exact ⟨j + 1, HJL.out, by go_num, HN2.out, HFJ.out.trans' hHeld⟩
            case measure => have := HJL.out; simp [intOf]; omega
          · have b1 : decide (pz < py) = false := by simpa using hlt2
            have HIN := Lib.hid (HINS.out (Int.not_lt.1 hlt2))
            clear HINS HN1
            have HFQ := Lib.hid (HFJ.out.trans' hHeld)
            have HCQ := Lib.hid (fun W hh => HCD.out W (HFQ.out.trans' hh))
            have hs1 := HS1.out
            have hcd0 := (HCQ.out w7 (Frm.refl _ _)).1
            clear hHeld HCC HCD HFJ
            go_upto_region 12 with fail
            go_cut [9] (fun v wz => AppC w3.heap.size (j + 1) (es.take j ++ [y]) w7 v wz)
            case first =>
              have HLF : Hid ((cellsOf cellsE (es.take j)).length = j * 14) := by unfold Hid; rw [cellsOf_length cellsE_len, List.length_take, Nat.min_eq_left HJ.out]
              have hjb : j ≤ 1024 := by have := HJ.out; have := HLK.out; omega
              have hm1 : 0 + j ≤ maxLen := by unfold maxLen; omega
              have hm2 : (0 + j) * 120 ≤ 140737488355328 := by omega
              have hm3 : j + 1 ≤ maxLen := by unfold maxLen; omega
              have hm4 : (j + 1) * 120 ≤ 140737488355328 := by omega
              clear hjb
              have hB0 : w3.heap.size ≤ w7.heap.size := by have := HFQ.out.size; omega
              have hoq : wo.heap.size < w7.heap.size := by have := HFQ.out.size; omega
              have h3q : w3.heap.size < w7.heap.size := by have := HFQ.out.size; omega
              clear hcd0
              refine wp_region_held_drew (S := fun W => Frm (fun _ => False) w7 W) (by kernel_rfl) ((Frm.refl _ _).drew) (fun hHeld => ?_)
              refine wpAnyH_take (i := 1) (v := ?_) rfl (by kernel_rfl) (by kernel_rfl) (by kernel_rfl) (fun _ _ _ h => h) (Or.inl ⟨by rfl, ?_⟩) (by assumption) ?_; rotate_left; · (intro wq hSq; have hq := HCQ.out wq hSq; go_split_ands; go_simp; (try with_reducible rfl))
              try simp only [Act.put, getElem_toArray, getElem_cons_zero, getElem_cons_succ, setIfInBounds_toArray, set_cons_zero, set_cons_succ]
              refine wpAnyH_take (i := 2) (v := ?_) rfl (by kernel_rfl) (by kernel_rfl) (by kernel_rfl) (fun _ _ _ h => h) (Or.inl ⟨by rfl, ?_⟩) (by assumption) ?_; rotate_left; · (intro wq hSq; have hq := HCQ.out wq hSq; go_split_ands; go_simp; (try with_reducible rfl))
              try simp only [Act.put, getElem_toArray, getElem_cons_zero, getElem_cons_succ, setIfInBounds_toArray, set_cons_zero, set_cons_succ]
              refine wpAnyH_take (i := 3) (v := ?_) rfl (by kernel_rfl) (by kernel_rfl) (by kernel_rfl) (fun _ _ _ h => h) (Or.inl ⟨by rfl, ?_⟩) (by assumption) ?_; rotate_left; · (intro wq hSq; have hq := HCQ.out wq hSq; go_split_ands; go_simp; (try with_reducible rfl))
              try simp only [Act.put, getElem_toArray, getElem_cons_zero, getElem_cons_succ, setIfInBounds_toArray, set_cons_zero, set_cons_succ]
              refine wpAnyH_take (i := 4) (v := ?_) rfl (by kernel_rfl) (by kernel_rfl) (by kernel_rfl) (fun _ _ _ h => h) (Or.inl ⟨by rfl, ?_⟩) (by assumption) ?_; rotate_left; · (intro wq hSq; have hq := HCQ.out wq hSq; go_split_ands; go_simp; (try with_reducible rfl))
              try simp only [Act.put, getElem_toArray, getElem_cons_zero, getElem_cons_succ, setIfInBounds_toArray, set_cons_zero, set_cons_succ]
              refine wpAnyH_take (i := 5) (v := ?_) rfl (by kernel_rfl) (by kernel_rfl) (by kernel_rfl) (fun _ _ _ h => h) (Or.inl ⟨by rfl, ?_⟩) (by assumption) ?_; rotate_left; · (intro wq hSq; have hq := HCQ.out wq hSq; go_split_ands; go_simp; (try with_reducible rfl))
              try simp only [Act.put, getElem_toArray, getElem_cons_zero, getElem_cons_succ, setIfInBounds_toArray, set_cons_zero, set_cons_succ]
              refine wpAnyH_take (i := 6) (v := ?_) rfl (by kernel_rfl) (by kernel_rfl) (by kernel_rfl) (fun _ _ _ h => h) (Or.inl ⟨by rfl, ?_⟩) (by assumption) ?_; rotate_left; · (intro wq hSq; have hq := HCQ.out wq hSq; go_split_ands; go_simp; (try with_reducible rfl))
              try simp only [Act.put, getElem_toArray, getElem_cons_zero, getElem_cons_succ, setIfInBounds_toArray, set_cons_zero, set_cons_succ]
              refine wpAnyH_take (i := 8) (v := ?_) rfl (by kernel_rfl) (by kernel_rfl) (by kernel_rfl) (fun _ _ _ h => h) (Or.inl ⟨by rfl, ?_⟩) (by assumption) ?_; rotate_left; · (intro wq hSq; have hq := HCQ.out wq hSq; go_split_ands; go_simp; (try with_reducible rfl))
              try simp only [Act.put, getElem_toArray, getElem_cons_zero, getElem_cons_succ, setIfInBounds_toArray, set_cons_zero, set_cons_succ]
              generalize w7.drew = wc at *
              refine wpAnyH_ready (rs := [0, 9]) (by kernel_rfl) (by simp) ?_
              refine AllReadyH.cons rfl (fun K hK => ?_) (AllReadyH.cons rfl (fun K hK => ?_) AllReadyH.nil)
              · skip
                try simp only [getElem_toArray, getElem_cons_zero, getElem_cons_succ]
                go_simp
                have hx : Frm (fun _ => False) wc (wc.alloc (.cells #[] 59)) := (Frm.refl _ _).alloc _
                have Z := heap_new wc (.cells #[] 59)
                have hZL := hHeld.size
                have hOld := hHeld
                clear hHeld
                refine hK.out _ _ (hOld.alloc _) (fun hHeld => ?_)
                clear hK K hOld
                try simp only [Act.put, setIfInBounds_toArray, set_cons_zero, set_cons_succ]
                generalize wc.alloc (.cells #[] 59) = wn at *
                generalize wc.heap.size = g0 at *
                clear hx wc
                generalize wn = wc at *
                refine wpAnyH_ready (rs := [7, 9]) (by kernel_rfl) (by simp) ?_
                refine AllReadyH.cons rfl (fun K hK => ?_) (AllReadyH.cons rfl (fun K hK => ?_) AllReadyH.nil)
                · skip
                  try simp only [getElem_toArray, getElem_cons_zero, getElem_cons_succ]
                  refine wp_app_src el_EntryL (.tmp 53) (.tmp 59) rfl rfl rfl (B := g0) (xs := []) (news := cellsOf cellsE (es.take j)) (ownE 14 Z) HLF.out (fun h => (HN1'.out h).grow (HFQ.out.trans' hHeld)) (oneEs _) hm1 hm2 (Nat.le_of_lt (lt_of_block Z)) ?_
                  intro A5 c5 w5 hown5 hfr5
                  have hOld := hHeld
                  clear hHeld
                  refine hK.out _ _ (hOld.trans hfr5 (fun i hi e => by cases e; exact absurd hi (Nat.not_lt.2 hZL))) (fun hHeld => ?_)
                  clear hK K
                  try simp only [Act.put, setIfInBounds_toArray, set_cons_zero, set_cons_succ]
                  rw [Nat.zero_add, List.nil_append] at hown5
                  try simp only [Nat.zero_add]
                  have hg0 : g0 ≤ w5.heap.size := Nat.le_of_lt (Nat.lt_of_lt_of_le (lt_of_block Z) hfr5.size)
                  clear hOld hfr5 Z wc
                  generalize w5 = wc at *
                  refine wpAnyH_ready (rs := [9]) (by kernel_rfl) (by simp) ?_
                  refine AllReadyH.cons rfl (fun K hK => ?_) AllReadyH.nil
                  try simp only [getElem_toArray, getElem_cons_zero, getElem_cons_succ]
                  go_simp
                  have hx : Frm (fun _ => False) wc (wc.alloc (.cells #[.int .u16 y.idx, .int .u8 y.sub, .int .i64 y.acc, .bool y.mp, .bool y.lim, .int .i64 y.mn.ty, .int .u64 y.mn.n, .string (strB2 y.mn.b), .int .i64 y.mx.ty, .int .u64 y.mx.n, .string (strB2 y.mx.b), .int .i64 y.df.ty, .int .u64 y.df.n, .string (strB2 y.df.b)] 59)) := (Frm.refl _ _).alloc _
                  have X := heap_new wc (.cells #[.int .u16 y.idx, .int .u8 y.sub, .int .i64 y.acc, .bool y.mp, .bool y.lim, .int .i64 y.mn.ty, .int .u64 y.mn.n, .string (strB2 y.mn.b), .int .i64 y.mx.ty, .int .u64 y.mx.n, .string (strB2 y.mx.b), .int .i64 y.df.ty, .int .u64 y.df.n, .string (strB2 y.df.b)] 59)
                  have hOld := hHeld
                  clear hHeld
                  refine hK.out _ _ (hOld.alloc _) (fun hHeld => ?_)
                  clear hK K hOld
                  try simp only [Act.put, setIfInBounds_toArray, set_cons_zero, set_cons_succ]
                  have ho2 := Frm.row hx hown5 (fun _ _ h => h)
                  have hg2 := Nat.le_trans hg0 hx.size
                  clear hown5 hg0
                  have hown5 := ho2
                  have hg0 := hg2
                  clear ho2 hg2
                  generalize wc.alloc (.cells #[.int .u16 y.idx, .int .u8 y.sub, .int .i64 y.acc, .bool y.mp, .bool y.lim, .int .i64 y.mn.ty, .int .u64 y.mn.n, .string (strB2 y.mn.b), .int .i64 y.mx.ty, .int .u64 y.mx.n, .string (strB2 y.mx.b), .int .i64 y.df.ty, .int .u64 y.df.n, .string (strB2 y.df.b)] 59) = wn at *
                  generalize wc.heap.size = gx at *
                  clear hx wc
                  generalize wn = wc at *
                  refine wpAnyH_ready (rs := [10]) (by kernel_rfl) (by simp) ?_
                  refine AllReadyH.cons rfl (fun K hK => ?_) AllReadyH.nil
                  try simp only [getElem_toArray, getElem_cons_zero, getElem_cons_succ]
                  refine wp_app el_EntryL (.tmp 60) (.tmp 62) rfl rfl rfl (B := g0) (e2 := 59) (fr := (0, 0)) (m := 1) (arr := (cellsE y).toArray) hown5 X rfl (by simp [cellsE, Value.oneCell']) (by decide) hm3 hm4 (by omega) ?_
                  intro g5 cap5 w7 hown7 hfr7 hat7 hlt7
                  have hOld := hHeld
                  clear hHeld
                  refine hK.out _ _ (hOld.trans hfr7 (fun i hi e => by have := (row_block hown5 e).1; omega)) (fun hHeld => ?_)
                  clear hK K hOld
                  try simp only [Act.put, setIfInBounds_toArray, set_cons_zero, set_cons_succ]
                  refine wpAnyH_take (i := 11) (v := ?_) rfl (by kernel_rfl) (by kernel_rfl) (by kernel_rfl) (fun _ _ _ h => h) (Or.inl ⟨by rfl, ?_⟩) (by assumption) ?_; rotate_left; · (intro wq hSq; (try dsimp only at hSq); go_split_ands; go_simp; (try with_reducible rfl))
                  try simp only [Act.put, getElem_toArray, getElem_cons_zero, getElem_cons_succ, setIfInBounds_toArray, set_cons_zero, set_cons_succ]
                  refine wpAnyH_done (by kernel_rfl) ?_ _
                  have hres : w7.ownsRow w3.heap.size 59 14 (.slice (some ⟨g5, 0, none⟩) (j + 1) cap5) (j + 1) (cellsOf cellsE (es.take j ++ [y])) := by
                    have := row_base hown7 (base' := w3.heap.size) (by omega)
                    unfold cellsOf at this ⊢
                    rw [List.flatMap_append]
                    simpa using this
                  have HRES := Lib.hid hres
                  have HHE := Lib.hid hHeld
                  clear hres hown7 hfr7 hHeld hown5
                  go_wp2_with fail
                  go_meet
                  exact ⟨_, _, rfl, HRES.out, HHE.out⟩
                · skip
                  try simp only [getElem_toArray, getElem_cons_zero, getElem_cons_succ]
                  go_simp
                  have hx : Frm (fun _ => False) wc (wc.alloc (.cells #[.int .u16 y.idx, .int .u8 y.sub, .int .i64 y.acc, .bool y.mp, .bool y.lim, .int .i64 y.mn.ty, .int .u64 y.mn.n, .string (strB2 y.mn.b), .int .i64 y.mx.ty, .int .u64 y.mx.n, .string (strB2 y.mx.b), .int .i64 y.df.ty, .int .u64 y.df.n, .string (strB2 y.df.b)] 59)) := (Frm.refl _ _).alloc _
                  have X := heap_new wc (.cells #[.int .u16 y.idx, .int .u8 y.sub, .int .i64 y.acc, .bool y.mp, .bool y.lim, .int .i64 y.mn.ty, .int .u64 y.mn.n, .string (strB2 y.mn.b), .int .i64 y.mx.ty, .int .u64 y.mx.n, .string (strB2 y.mx.b), .int .i64 y.df.ty, .int .u64 y.df.n, .string (strB2 y.df.b)] 59)
                  have hOld := hHeld
                  clear hHeld
                  refine hK.out _ _ (hOld.alloc _) (fun hHeld => ?_)
                  clear hK K hOld
                  try simp only [Act.put, setIfInBounds_toArray, set_cons_zero, set_cons_succ]
                  have Z2 := heap_alloc_old (o := .cells #[.int .u16 y.idx, .int .u8 y.sub, .int .i64 y.acc, .bool y.mp, .bool y.lim, .int .i64 y.mn.ty, .int .u64 y.mn.n, .string (strB2 y.mn.b), .int .i64 y.mx.ty, .int .u64 y.mx.n, .string (strB2 y.mx.b), .int .i64 y.df.ty, .int .u64 y.df.n, .string (strB2 y.df.b)] 59) Z
                  have hne := Nat.ne_of_lt (lt_of_block Z)
                  clear Z
                  have Z := Z2
                  clear Z2
                  generalize wc.alloc (.cells #[.int .u16 y.idx, .int .u8 y.sub, .int .i64 y.acc, .bool y.mp, .bool y.lim, .int .i64 y.mn.ty, .int .u64 y.mn.n, .string (strB2 y.mn.b), .int .i64 y.mx.ty, .int .u64 y.mx.n, .string (strB2 y.mx.b), .int .i64 y.df.ty, .int .u64 y.df.n, .string (strB2 y.df.b)] 59) = wn at *
                  generalize wc.heap.size = gx at *
                  clear hx wc
                  generalize wn = wc at *
                  refine wpAnyH_ready (rs := [7]) (by kernel_rfl) (by simp) ?_
                  refine AllReadyH.cons rfl (fun K hK => ?_) AllReadyH.nil
                  try simp only [getElem_toArray, getElem_cons_zero, getElem_cons_succ]
                  refine wp_app_src el_EntryL (.tmp 53) (.tmp 59) rfl rfl rfl (B := g0) (xs := []) (news := cellsOf cellsE (es.take j)) (ownE 14 Z) HLF.out (fun h => (HN1'.out h).grow (HFQ.out.trans' hHeld)) (oneEs _) hm1 hm2 (Nat.le_of_lt (lt_of_block Z)) ?_
                  intro A5 c5 w5 hown5 hfr5
                  have hOld := hHeld
                  clear hHeld
                  refine hK.out _ _ (hOld.trans hfr5 (fun i hi e => by cases e; exact absurd hi (Nat.not_lt.2 hZL))) (fun hHeld => ?_)
                  clear hK K
                  try simp only [Act.put, setIfInBounds_toArray, set_cons_zero, set_cons_succ]
                  rw [Nat.zero_add, List.nil_append] at hown5
                  try simp only [Nat.zero_add]
                  have hg0 : g0 ≤ w5.heap.size := Nat.le_of_lt (Nat.lt_of_lt_of_le (lt_of_block Z) hfr5.size)
                  have X2 := hfr5.heap X (fun e => by cases e; exact hne rfl)
                  clear X
                  have X := X2
                  clear X2
                  clear hOld hfr5 Z wc
                  generalize w5 = wc at *
                  refine wpAnyH_ready (rs := [10]) (by kernel_rfl) (by simp) ?_
                  refine AllReadyH.cons rfl (fun K hK => ?_) AllReadyH.nil
                  try simp only [getElem_toArray, getElem_cons_zero, getElem_cons_succ]
                  refine wp_app el_EntryL (.tmp 60) (.tmp 62) rfl rfl rfl (B := g0) (e2 := 59) (fr := (0, 0)) (m := 1) (arr := (cellsE y).toArray) hown5 X rfl (by simp [cellsE, Value.oneCell']) (by decide) hm3 hm4 (by omega) ?_
                  intro g5 cap5 w7 hown7 hfr7 hat7 hlt7
                  have hOld := hHeld
                  clear hHeld
                  refine hK.out _ _ (hOld.trans hfr7 (fun i hi e => by have := (row_block hown5 e).1; omega)) (fun hHeld => ?_)
                  clear hK K hOld
                  try simp only [Act.put, setIfInBounds_toArray, set_cons_zero, set_cons_succ]
                  refine wpAnyH_take (i := 11) (v := ?_) rfl (by kernel_rfl) (by kernel_rfl) (by kernel_rfl) (fun _ _ _ h => h) (Or.inl ⟨by rfl, ?_⟩) (by assumption) ?_; rotate_left; · (intro wq hSq; (try dsimp only at hSq); go_split_ands; go_simp; (try with_reducible rfl))
                  try simp only [Act.put, getElem_toArray, getElem_cons_zero, getElem_cons_succ, setIfInBounds_toArray, set_cons_zero, set_cons_succ]
                  refine wpAnyH_done (by kernel_rfl) ?_ _
                  have hres : w7.ownsRow w3.heap.size 59 14 (.slice (some ⟨g5, 0, none⟩) (j + 1) cap5) (j + 1) (cellsOf cellsE (es.take j ++ [y])) := by
                    have := row_base hown7 (base' := w3.heap.size) (by omega)
                    unfold cellsOf at this ⊢
                    rw [List.flatMap_append]
                    simpa using this
                  have HRES := Lib.hid hres
                  have HHE := Lib.hid hHeld
                  clear hres hown7 hfr7 hHeld hown5
                  go_wp2_with fail
                  go_meet
                  exact ⟨_, _, rfl, HRES.out, HHE.out⟩
              · skip
                try simp only [getElem_toArray, getElem_cons_zero, getElem_cons_succ]
                go_simp
                have hx : Frm (fun _ => False) wc (wc.alloc (.cells #[.int .u16 y.idx, .int .u8 y.sub, .int .i64 y.acc, .bool y.mp, .bool y.lim, .int .i64 y.mn.ty, .int .u64 y.mn.n, .string (strB2 y.mn.b), .int .i64 y.mx.ty, .int .u64 y.mx.n, .string (strB2 y.mx.b), .int .i64 y.df.ty, .int .u64 y.df.n, .string (strB2 y.df.b)] 59)) := (Frm.refl _ _).alloc _
                have X := heap_new wc (.cells #[.int .u16 y.idx, .int .u8 y.sub, .int .i64 y.acc, .bool y.mp, .bool y.lim, .int .i64 y.mn.ty, .int .u64 y.mn.n, .string (strB2 y.mn.b), .int .i64 y.mx.ty, .int .u64 y.mx.n, .string (strB2 y.mx.b), .int .i64 y.df.ty, .int .u64 y.df.n, .string (strB2 y.df.b)] 59)
                have hOld := hHeld
                clear hHeld
                refine hK.out _ _ (hOld.alloc _) (fun hHeld => ?_)
                clear hK K hOld
                try simp only [Act.put, setIfInBounds_toArray, set_cons_zero, set_cons_succ]
                generalize wc.alloc (.cells #[.int .u16 y.idx, .int .u8 y.sub, .int .i64 y.acc, .bool y.mp, .bool y.lim, .int .i64 y.mn.ty, .int .u64 y.mn.n, .string (strB2 y.mn.b), .int .i64 y.mx.ty, .int .u64 y.mx.n, .string (strB2 y.mx.b), .int .i64 y.df.ty, .int .u64 y.df.n, .string (strB2 y.df.b)] 59) = wn at *
                generalize wc.heap.size = gx at *
                clear hx wc
                generalize wn = wc at *
                refine wpAnyH_ready (rs := [0]) (by kernel_rfl) (by simp) ?_
                refine AllReadyH.cons rfl (fun K hK => ?_) AllReadyH.nil
                try simp only [getElem_toArray, getElem_cons_zero, getElem_cons_succ]
                go_simp
                have hx : Frm (fun _ => False) wc (wc.alloc (.cells #[] 59)) := (Frm.refl _ _).alloc _
                have Z := heap_new wc (.cells #[] 59)
                have hZL := hHeld.size
                have hOld := hHeld
                clear hHeld
                refine hK.out _ _ (hOld.alloc _) (fun hHeld => ?_)
                clear hK K hOld
                try simp only [Act.put, setIfInBounds_toArray, set_cons_zero, set_cons_succ]
                have X2 := heap_alloc_old (o := .cells #[] 59) X
                have hne := Nat.ne_of_lt (lt_of_block X)
                clear X
                have X := X2
                clear X2
                generalize wc.alloc (.cells #[] 59) = wn at *
                generalize wc.heap.size = g0 at *
                clear hx wc
                generalize wn = wc at *
                refine wpAnyH_ready (rs := [7]) (by kernel_rfl) (by simp) ?_
                refine AllReadyH.cons rfl (fun K hK => ?_) AllReadyH.nil
                try simp only [getElem_toArray, getElem_cons_zero, getElem_cons_succ]
                refine wp_app_src el_EntryL (.tmp 53) (.tmp 59) rfl rfl rfl (B := g0) (xs := []) (news := cellsOf cellsE (es.take j)) (ownE 14 Z) HLF.out (fun h => (HN1'.out h).grow (HFQ.out.trans' hHeld)) (oneEs _) hm1 hm2 (Nat.le_of_lt (lt_of_block Z)) ?_
                intro A5 c5 w5 hown5 hfr5
                have hOld := hHeld
                clear hHeld
                refine hK.out _ _ (hOld.trans hfr5 (fun i hi e => by cases e; exact absurd hi (Nat.not_lt.2 hZL))) (fun hHeld => ?_)
                clear hK K
                try simp only [Act.put, setIfInBounds_toArray, set_cons_zero, set_cons_succ]
                rw [Nat.zero_add, List.nil_append] at hown5
                try simp only [Nat.zero_add]
                have hg0 : g0 ≤ w5.heap.size := Nat.le_of_lt (Nat.lt_of_lt_of_le (lt_of_block Z) hfr5.size)
                have X2 := hfr5.heap X (fun e => by cases e; exact hne rfl)
                clear X
                have X := X2
                clear X2
                clear hOld hfr5 Z wc
                generalize w5 = wc at *
                refine wpAnyH_ready (rs := [10]) (by kernel_rfl) (by simp) ?_
                refine AllReadyH.cons rfl (fun K hK => ?_) AllReadyH.nil
                try simp only [getElem_toArray, getElem_cons_zero, getElem_cons_succ]
                refine wp_app el_EntryL (.tmp 60) (.tmp 62) rfl rfl rfl (B := g0) (e2 := 59) (fr := (0, 0)) (m := 1) (arr := (cellsE y).toArray) hown5 X rfl (by simp [cellsE, Value.oneCell']) (by decide) hm3 hm4 (by omega) ?_
                intro g5 cap5 w7 hown7 hfr7 hat7 hlt7
                have hOld := hHeld
                clear hHeld
                refine hK.out _ _ (hOld.trans hfr7 (fun i hi e => by have := (row_block hown5 e).1; omega)) (fun hHeld => ?_)
                clear hK K hOld
                try simp only [Act.put, setIfInBounds_toArray, set_cons_zero, set_cons_succ]
                refine wpAnyH_take (i := 11) (v := ?_) rfl (by kernel_rfl) (by kernel_rfl) (by kernel_rfl) (fun _ _ _ h => h) (Or.inl ⟨by rfl, ?_⟩) (by assumption) ?_; rotate_left; · (intro wq hSq; (try dsimp only at hSq); go_split_ands; go_simp; (try with_reducible rfl))
                try simp only [Act.put, getElem_toArray, getElem_cons_zero, getElem_cons_succ, setIfInBounds_toArray, set_cons_zero, set_cons_succ]
                refine wpAnyH_done (by kernel_rfl) ?_ _
                have hres : w7.ownsRow w3.heap.size 59 14 (.slice (some ⟨g5, 0, none⟩) (j + 1) cap5) (j + 1) (cellsOf cellsE (es.take j ++ [y])) := by
                  have := row_base hown7 (base' := w3.heap.size) (by omega)
                  unfold cellsOf at this ⊢
                  rw [List.flatMap_append]
                  simpa using this
                have HRES := Lib.hid hres
                have HHE := Lib.hid hHeld
                clear hres hown7 hfr7 hHeld hown5
                go_wp2_with fail
                go_meet
                exact ⟨_, _, rfl, HRES.out, HHE.out⟩
            case rest =>
              obtain ⟨A9, c9, rfl, hr9, hF9⟩ := hcut
              have HFC := Lib.hid (HFQ.out.trans' hF9)
              have hs2 := HS2.out
              have HR9 := Lib.hid hr9
              have hO9 := HFC.out.heap HO0.out (fun h => h)
              have hcd9 : wc.cell? ⟨w3.heap.size, 0, none⟩ = some (.slice (some ⟨ge, 0, none⟩) es.length cap) := cell_at hO9
              have hz9 := free_at (o := 0) hO9
              have HO9 := Lib.hid hO9
              have h39 : w3.heap.size < wc.heap.size := lt_of_block hO9
              have hjb : j + 1 + (es.length - j) ≤ 1025 := by have := HJ.out; have := HLK.out; omega
              have hm5 : j + 1 + (es.length - j) ≤ maxLen := by unfold maxLen; omega
              have hm6 : (j + 1 + (es.length - j)) * 120 ≤ 140737488355328 := by omega
              have HLB : Hid ((cellsOf cellsE (es.drop j)).length = (es.length - j) * 14) := by unfold Hid; rw [cellsOf_length cellsE_len, List.length_drop]
              have HNUM : Hid (j + 1 + (es.length - j) = es.length + 1) := by have := HJ.out; unfold Hid; omega
              clear hr9 hF9 hO9 hjb
              go_wp2_with (at_builtin; refine wpl_app_src rfl el_EntryL (.tmp 65) (.tmp 71) rfl (B := w3.heap.size) (xs := cellsOf cellsE (es.take j ++ [y])) (news := cellsOf cellsE (es.drop j)) rfl rfl HR9.out HLB.out (fun h => (HN2'.out h).grow HFC.out) (oneEs _) hm5 hm6 (Nat.le_of_lt h39) ?_; intro A8 c8 w8 hown8 hfr8; have hO8 := hfr8.heap HO9.out (fun h => block_ne (row_block HR9.out h).2.choose_spec HO9.out (by decide) rfl); have hc8 : w8.cell? ⟨w3.heap.size, 0, none⟩ = some (.slice (some ⟨ge, 0, none⟩) es.length cap) := cell_at hO8; have hz8 := free_at (o := 0) hO8; have HO8 := Lib.hid hO8; have HR8 := Lib.hid hown8; have HF8 := Lib.hid hfr8; clear hO8 hown8 hfr8)
              have hklt := HKL.out
              go_roundw
              case rel =>
                refine ⟨k + 1, hklt, by go_num, ⟨_, heap_set_at HO8.out rfl, ?_⟩, ?_, ?_⟩
                · rw [← HP1.out, HPUT.out, HIN.out]
                  exact Frm.row (S := One w3.heap.size) ((Frm.refl _ _).set1 _) (join_row HR8.out (by rw [HNUM.out]; simp; have := HJ.out; omega)) (fun j hj e => by cases e; exact block_ne (row_block HR8.out hj).2.choose_spec HO8.out (by decide) rfl)
                · refine Frm.setCell ?_ (fun h => absurd h (Nat.not_lt.2 HF3.out.size)) _
                  exact ((HF.out.trans' HF1.out).trans' HFC.out).trans HF8.out (fun i hi h => absurd (Nat.lt_of_lt_of_le hi HF3.out.size) (Nat.not_lt.2 (row_block HR9.out h).1))
                · have := HF8.out.size
                  simp
                  omega
              case measure => simp [intOf]; omega
        · have HIN : Hid (insE y es = es.take j ++ y :: es.drop j) := insE_at y es j hj (fun m hm h => HLOW.out m hm h) (fun h => absurd h hjl)
          have hb1 : decide ((j : Int) < (es.length : Int)) = false := by simp; omega
          have hcc : ∀ W, Frm (fun _ => False) wr W → W.cell? ⟨w3.heap.size, 0, none⟩ = some (.slice A es.length cap) := fun W h => (HCD.out W (hF.trans' h)).1
          have HCC := Lib.hid hcc
          have hHeld := hF
          clear hcc hF
          go_upto_region 10 with fail
          refine wp_region_held_drew (S := fun W => Frm (fun _ => False) wr W) (by kernel_rfl) ((Frm.refl _ _).drew) (fun hHeld => ?_)
          refine wpAnyH_take (i := 0) (v := ?_) rfl (by kernel_rfl) (by kernel_rfl) (by kernel_rfl) (fun _ _ _ h => h) (Or.inl ⟨by rfl, ?_⟩) (by assumption) ?_; rotate_left; · (intro wq hSq; have hq := HCC.out wq hSq; go_split_ands; go_simp; (try with_reducible rfl))
          try simp only [Act.put, getElem_toArray, getElem_cons_zero, getElem_cons_succ, setIfInBounds_toArray, set_cons_zero, set_cons_succ]
          refine wpAnyH_take (i := 1) (v := ?_) rfl (by kernel_rfl) (by kernel_rfl) (by kernel_rfl) (fun _ _ _ h => h) (Or.inl ⟨by rfl, ?_⟩) (by assumption) ?_; rotate_left; · (intro wq hSq; have hq := HCC.out wq hSq; go_split_ands; go_simp; (try with_reducible rfl))
          try simp only [Act.put, getElem_toArray, getElem_cons_zero, getElem_cons_succ, setIfInBounds_toArray, set_cons_zero, set_cons_succ]
          refine wpAnyH_take (i := 2) (v := ?_) rfl (by kernel_rfl) (by kernel_rfl) (by kernel_rfl) (fun _ _ _ h => h) (Or.inl ⟨by rfl, ?_⟩) (by assumption) ?_; rotate_left; · (intro wq hSq; have hq := HCC.out wq hSq; go_split_ands; go_simp; (try with_reducible rfl))
          try simp only [Act.put, getElem_toArray, getElem_cons_zero, getElem_cons_succ, setIfInBounds_toArray, set_cons_zero, set_cons_succ]
          refine wpAnyH_take (i := 3) (v := ?_) rfl (by kernel_rfl) (by kernel_rfl) (by kernel_rfl) (fun _ _ _ h => h) (Or.inl ⟨by rfl, ?_⟩) (by assumption) ?_; rotate_left; · (intro wq hSq; have hq := HCC.out wq hSq; go_split_ands; go_simp; (try with_reducible rfl))
          try simp only [Act.put, getElem_toArray, getElem_cons_zero, getElem_cons_succ, setIfInBounds_toArray, set_cons_zero, set_cons_succ]
          refine wpAnyH_take (i := 4) (v := ?_) rfl (by kernel_rfl) (by kernel_rfl) (by kernel_rfl) (fun _ _ _ h => h) (Or.inl ⟨by rfl, ?_⟩) (by assumption) ?_; rotate_left; · (intro wq hSq; have hq := HCC.out wq hSq; go_split_ands; go_simp; (try with_reducible rfl))
          try simp only [Act.put, getElem_toArray, getElem_cons_zero, getElem_cons_succ, setIfInBounds_toArray, set_cons_zero, set_cons_succ]
          refine wpAnyH_take (i := 5) (v := ?_) rfl (by kernel_rfl) (by kernel_rfl) (by kernel_rfl) (fun _ _ _ h => h) (Or.inl ⟨by rfl, ?_⟩) (by assumption) ?_; rotate_left; · (intro wq hSq; have hq := HCC.out wq hSq; go_split_ands; go_simp; (try with_reducible rfl))
          try simp only [Act.put, getElem_toArray, getElem_cons_zero, getElem_cons_succ, setIfInBounds_toArray, set_cons_zero, set_cons_succ]
          refine wpAnyH_take (i := 6) (v := ?_) rfl (by kernel_rfl) (by kernel_rfl) (by kernel_rfl) (fun _ _ _ h => h) (Or.inl ⟨by rfl, ?_⟩) (by assumption) ?_; rotate_left; · (intro wq hSq; have hq := HCC.out wq hSq; go_split_ands; go_simp; (try with_reducible rfl))
          try simp only [Act.put, getElem_toArray, getElem_cons_zero, getElem_cons_succ, setIfInBounds_toArray, set_cons_zero, set_cons_succ]
          refine wpAnyH_take (i := 7) (v := ?_) rfl (by kernel_rfl) (by kernel_rfl) (by kernel_rfl) (fun _ _ _ h => h) (Or.inl ⟨by rfl, ?_⟩) (by assumption) ?_; rotate_left; · (intro wq hSq; have hq := HCC.out wq hSq; go_split_ands; go_simp; (try with_reducible rfl))
          try simp only [Act.put, getElem_toArray, getElem_cons_zero, getElem_cons_succ, setIfInBounds_toArray, set_cons_zero, set_cons_succ]
          refine wpAnyH_take (i := 8) (v := undef) rfl (by kernel_rfl) (by kernel_rfl) (by kernel_rfl) (fun _ _ _ h => h) (Or.inr ⟨by rfl, rfl⟩) (by assumption) ?_
          try simp only [Act.put, getElem_toArray, getElem_cons_zero, getElem_cons_succ, setIfInBounds_toArray, set_cons_zero, set_cons_succ]
          refine wpAnyH_take (i := 9) (v := undef) rfl (by kernel_rfl) (by kernel_rfl) (by kernel_rfl) (fun _ _ _ h => h) (Or.inr ⟨by rfl, rfl⟩) (by assumption) ?_
          try simp only [Act.put, getElem_toArray, getElem_cons_zero, getElem_cons_succ, setIfInBounds_toArray, set_cons_zero, set_cons_succ]
          refine wpAnyH_take (i := 10) (v := undef) rfl (by kernel_rfl) (by kernel_rfl) (by kernel_rfl) (fun _ _ _ h => h) (Or.inr ⟨by rfl, rfl⟩) (by assumption) ?_
          try simp only [Act.put, getElem_toArray, getElem_cons_zero, getElem_cons_succ, setIfInBounds_toArray, set_cons_zero, set_cons_succ]
          refine wpAnyH_take (i := 11) (v := undef) rfl (by kernel_rfl) (by kernel_rfl) (by kernel_rfl) (fun _ _ _ h => h) (Or.inr ⟨by rfl, rfl⟩) (by assumption) ?_
          try simp only [Act.put, getElem_toArray, getElem_cons_zero, getElem_cons_succ, setIfInBounds_toArray, set_cons_zero, set_cons_succ]
          refine wpAnyH_take (i := 12) (v := undef) rfl (by kernel_rfl) (by kernel_rfl) (by kernel_rfl) (fun _ _ _ h => h) (Or.inr ⟨by rfl, rfl⟩) (by assumption) ?_
          try simp only [Act.put, getElem_toArray, getElem_cons_zero, getElem_cons_succ, setIfInBounds_toArray, set_cons_zero, set_cons_succ]
          refine wpAnyH_take (i := 13) (v := undef) rfl (by kernel_rfl) (by kernel_rfl) (by kernel_rfl) (fun _ _ _ h => h) (Or.inr ⟨by rfl, rfl⟩) (by assumption) ?_
          try simp only [Act.put, getElem_toArray, getElem_cons_zero, getElem_cons_succ, setIfInBounds_toArray, set_cons_zero, set_cons_succ]
          refine wpAnyH_take (i := 14) (v := undef) rfl (by kernel_rfl) (by kernel_rfl) (by kernel_rfl) (fun _ _ _ h => h) (Or.inr ⟨by rfl, rfl⟩) (by assumption) ?_
          try simp only [Act.put, getElem_toArray, getElem_cons_zero, getElem_cons_succ, setIfInBounds_toArray, set_cons_zero, set_cons_succ]
          refine wpAnyH_take (i := 15) (v := undef) rfl (by kernel_rfl) (by kernel_rfl) (by kernel_rfl) (fun _ _ _ h => h) (Or.inr ⟨by rfl, rfl⟩) (by assumption) ?_
          try simp only [Act.put, getElem_toArray, getElem_cons_zero, getElem_cons_succ, setIfInBounds_toArray, set_cons_zero, set_cons_succ]
          refine wpAnyH_take (i := 16) (v := undef) rfl (by kernel_rfl) (by kernel_rfl) (by kernel_rfl) (fun _ _ _ h => h) (Or.inr ⟨by rfl, rfl⟩) (by assumption) ?_
          try simp only [Act.put, getElem_toArray, getElem_cons_zero, getElem_cons_succ, setIfInBounds_toArray, set_cons_zero, set_cons_succ]
          refine wpAnyH_take (i := 17) (v := undef) rfl (by kernel_rfl) (by kernel_rfl) (by kernel_rfl) (fun _ _ _ h => h) (Or.inr ⟨by rfl, rfl⟩) (by assumption) ?_
          try simp only [Act.put, getElem_toArray, getElem_cons_zero, getElem_cons_succ, setIfInBounds_toArray, set_cons_zero, set_cons_succ]
          refine wpAnyH_take (i := 18) (v := undef) rfl (by kernel_rfl) (by kernel_rfl) (by kernel_rfl) (fun _ _ _ h => h) (Or.inr ⟨by rfl, rfl⟩) (by assumption) ?_
          try simp only [Act.put, getElem_toArray, getElem_cons_zero, getElem_cons_succ, setIfInBounds_toArray, set_cons_zero, set_cons_succ]
          refine wpAnyH_take (i := 19) (v := ?_) rfl (by kernel_rfl) (by kernel_rfl) (by kernel_rfl) (fun _ _ _ h => h) (Or.inl ⟨by rfl, ?_⟩) (by assumption) ?_; rotate_left; · (intro wq hSq; have hq := HCC.out wq hSq; go_split_ands; go_simp; (try with_reducible rfl))
          try simp only [Act.put, getElem_toArray, getElem_cons_zero, getElem_cons_succ, setIfInBounds_toArray, set_cons_zero, set_cons_succ]
          refine wpAnyH_done (by kernel_rfl) ?_ _
          generalize wr.drew = w7 at *
          have HFQ := Lib.hid (HFJ.out.trans' hHeld)
          have HCQ := Lib.hid (fun W hh => HCD.out W (HFQ.out.trans' hh))
          have hs1 := HS1.out
          have hcd0 := (HCQ.out w7 (Frm.refl _ _)).1
          clear hHeld HCC HCD HFJ
          go_upto_region 12 with fail
          go_cut [9] (fun v wz => AppC w3.heap.size (j + 1) (es.take j ++ [y]) w7 v wz)
          case first =>
            have HLF : Hid ((cellsOf cellsE (es.take j)).length = j * 14) := by unfold Hid; rw [cellsOf_length cellsE_len, List.length_take, Nat.min_eq_left HJ.out]
            have hjb : j ≤ 1024 := by have := HJ.out; have := HLK.out; omega
            have hm1 : 0 + j ≤ maxLen := by unfold maxLen; omega
            have hm2 : (0 + j) * 120 ≤ 140737488355328 := by omega
            have hm3 : j + 1 ≤ maxLen := by unfold maxLen; omega
            have hm4 : (j + 1) * 120 ≤ 140737488355328 := by omega
            clear hjb
            have hB0 : w3.heap.size ≤ w7.heap.size := by have := HFQ.out.size; omega
            have hoq : wo.heap.size < w7.heap.size := by have := HFQ.out.size; omega
            have h3q : w3.heap.size < w7.heap.size := by have := HFQ.out.size; omega
            clear hcd0
            refine wp_region_held_drew (S := fun W => Frm (fun _ => False) w7 W) (by kernel_rfl) ((Frm.refl _ _).drew) (fun hHeld => ?_)
            refine wpAnyH_take (i := 1) (v := ?_) rfl (by kernel_rfl) (by kernel_rfl) (by kernel_rfl) (fun _ _ _ h => h) (Or.inl ⟨by rfl, ?_⟩) (by assumption) ?_; rotate_left; · (intro wq hSq; have hq := HCQ.out wq hSq; go_split_ands; go_simp; (try with_reducible rfl))
            try simp only [Act.put, getElem_toArray, getElem_cons_zero, getElem_cons_succ, setIfInBounds_toArray, set_cons_zero, set_cons_succ]
            refine wpAnyH_take (i := 2) (v := ?_) rfl (by kernel_rfl) (by kernel_rfl) (by kernel_rfl) (fun _ _ _ h => h) (Or.inl ⟨by rfl, ?_⟩) (by assumption) ?_; rotate_left; · (intro wq hSq; have hq := HCQ.out wq hSq; go_split_ands; go_simp; (try with_reducible rfl))
            try simp only [Act.put, getElem_toArray, getElem_cons_zero, getElem_cons_succ, setIfInBounds_toArray, set_cons_zero, set_cons_succ]
            refine wpAnyH_take (i := 3) (v := ?_) rfl (by kernel_rfl) (by kernel_rfl) (by kernel_rfl) (fun _ _ _ h => h) (Or.inl ⟨by rfl, ?_⟩) (by assumption) ?_; rotate_left; · (intro wq hSq; have hq := HCQ.out wq hSq; go_split_ands; go_simp; (try with_reducible rfl))
            try simp only [Act.put, getElem_toArray, getElem_cons_zero, getElem_cons_succ, setIfInBounds_toArray, set_cons_zero, set_cons_succ]
            refine wpAnyH_take (i := 4) (v := ?_) rfl (by kernel_rfl) (by kernel_rfl) (by kernel_rfl) (fun _ _ _ h => h) (Or.inl ⟨by rfl, ?_⟩) (by assumption) ?_; rotate_left; · (intro wq hSq; have hq := HCQ.out wq hSq; go_split_ands; go_simp; (try with_reducible rfl))
            try simp only [Act.put, getElem_toArray, getElem_cons_zero, getElem_cons_succ, setIfInBounds_toArray, set_cons_zero, set_cons_succ]
            refine wpAnyH_take (i := 5) (v := ?_) rfl (by kernel_rfl) (by kernel_rfl) (by kernel_rfl) (fun _ _ _ h => h) (Or.inl ⟨by rfl, ?_⟩) (by assumption) ?_; rotate_left; · (intro wq hSq; have hq := HCQ.out wq hSq; go_split_ands; go_simp; (try with_reducible rfl))
            try simp only [Act.put, getElem_toArray, getElem_cons_zero, getElem_cons_succ, setIfInBounds_toArray, set_cons_zero, set_cons_succ]
            refine wpAnyH_take (i := 6) (v := ?_) rfl (by kernel_rfl) (by kernel_rfl) (by kernel_rfl) (fun _ _ _ h => h) (Or.inl ⟨by rfl, ?_⟩) (by assumption) ?_; rotate_left; · (intro wq hSq; have hq := HCQ.out wq hSq; go_split_ands; go_simp; (try with_reducible rfl))
            try simp only [Act.put, getElem_toArray, getElem_cons_zero, getElem_cons_succ, setIfInBounds_toArray, set_cons_zero, set_cons_succ]
            refine wpAnyH_take (i := 8) (v := ?_) rfl (by kernel_rfl) (by kernel_rfl) (by kernel_rfl) (fun _ _ _ h => h) (Or.inl ⟨by rfl, ?_⟩) (by assumption) ?_; rotate_left; · (intro wq hSq; have hq := HCQ.out wq hSq; go_split_ands; go_simp; (try with_reducible rfl))
            try simp only [Act.put, getElem_toArray, getElem_cons_zero, getElem_cons_succ, setIfInBounds_toArray, set_cons_zero, set_cons_succ]
            generalize w7.drew = wc at *
            refine wpAnyH_ready (rs := [0, 9]) (by kernel_rfl) (by simp) ?_
            refine AllReadyH.cons rfl (fun K hK => ?_) (AllReadyH.cons rfl (fun K hK => ?_) AllReadyH.nil)
            · skip
              try simp only [getElem_toArray, getElem_cons_zero, getElem_cons_succ]
              go_simp
              have hx : Frm (fun _ => False) wc (wc.alloc (.cells #[] 59)) := (Frm.refl _ _).alloc _
              have Z := heap_new wc (.cells #[] 59)
              have hZL := hHeld.size
              have hOld := hHeld
              clear hHeld
              refine hK.out _ _ (hOld.alloc _) (fun hHeld => ?_)
              clear hK K hOld
              try simp only [Act.put, setIfInBounds_toArray, set_cons_zero, set_cons_succ]
              generalize wc.alloc (.cells #[] 59) = wn at *
              generalize wc.heap.size = g0 at *
              clear hx wc
              generalize wn = wc at *
              refine wpAnyH_ready (rs := [7, 9]) (by kernel_rfl) (by simp) ?_
              refine AllReadyH.cons rfl (fun K hK => ?_) (AllReadyH.cons rfl (fun K hK => ?_) AllReadyH.nil)
              · skip
                try simp only [getElem_toArray, getElem_cons_zero, getElem_cons_succ]
                refine wp_app_src el_EntryL (.tmp 53) (.tmp 59) rfl rfl rfl (B := g0) (xs := []) (news := cellsOf cellsE (es.take j)) (ownE 14 Z) HLF.out (fun h => (HN1'.out h).grow (HFQ.out.trans' hHeld)) (oneEs _) hm1 hm2 (Nat.le_of_lt (lt_of_block Z)) ?_
                intro A5 c5 w5 hown5 hfr5
                have hOld := hHeld
                clear hHeld
                refine hK.out _ _ (hOld.trans hfr5 (fun i hi e => by cases e; exact absurd hi (Nat.not_lt.2 hZL))) (fun hHeld => ?_)
                clear hK K
                try simp only [Act.put, setIfInBounds_toArray, set_cons_zero, set_cons_succ]
                rw [Nat.zero_add, List.nil_append] at hown5
                try simp only [Nat.zero_add]
                have hg0 : g0 ≤ w5.heap.size := Nat.le_of_lt (Nat.lt_of_lt_of_le (lt_of_block Z) hfr5.size)
                clear hOld hfr5 Z wc
                generalize w5 = wc at *
                refine wpAnyH_ready (rs := [9]) (by kernel_rfl) (by simp) ?_
                refine AllReadyH.cons rfl (fun K hK => ?_) AllReadyH.nil
                try simp only [getElem_toArray, getElem_cons_zero, getElem_cons_succ]
                go_simp
                have hx : Frm (fun _ => False) wc (wc.alloc (.cells #[.int .u16 y.idx, .int .u8 y.sub, .int .i64 y.acc, .bool y.mp, .bool y.lim, .int .i64 y.mn.ty, .int .u64 y.mn.n, .string (strB2 y.mn.b), .int .i64 y.mx.ty, .int .u64 y.mx.n, .string (strB2 y.mx.b), .int .i64 y.df.ty, .int .u64 y.df.n, .string (strB2 y.df.b)] 59)) := (Frm.refl _ _).alloc _
                have X := heap_new wc (.cells #[.int .u16 y.idx, .int .u8 y.sub, .int .i64 y.acc, .bool y.mp, .bool y.lim, .int .i64 y.mn.ty, .int .u64 y.mn.n, .string (strB2 y.mn.b), .int .i64 y.mx.ty, .int .u64 y.mx.n, .string (strB2 y.mx.b), .int .i64 y.df.ty, .int .u64 y.df.n, .string (strB2 y.df.b)] 59)
                have hOld := hHeld
                clear hHeld
                refine hK.out _ _ (hOld.alloc _) (fun hHeld => ?_)
                clear hK K hOld
                try simp only [Act.put, setIfInBounds_toArray, set_cons_zero, set_cons_succ]
                have ho2 := Frm.row hx hown5 (fun _ _ h => h)
                have hg2 := Nat.le_trans hg0 hx.size
                clear hown5 hg0
                have hown5 := ho2
                have hg0 := hg2
                clear ho2 hg2
                generalize wc.alloc (.cells #[.int .u16 y.idx, .int .u8 y.sub, .int .i64 y.acc, .bool y.mp, .bool y.lim, .int .i64 y.mn.ty, .int .u64 y.mn.n, .string (strB2 y.mn.b), .int .i64 y.mx.ty, .int .u64 y.mx.n, .string (strB2 y.mx.b), .int .i64 y.df.ty, .int .u64 y.df.n, .string (strB2 y.df.b)] 59) = wn at *
                generalize wc.heap.size = gx at *
                clear hx wc
                generalize wn = wc at *
                refine wpAnyH_ready (rs := [10]) (by kernel_rfl) (by simp) ?_
                refine AllReadyH.cons rfl (fun K hK => ?_) AllReadyH.nil
                try simp only [getElem_toArray, getElem_cons_zero, getElem_cons_succ]
                refine wp_app el_EntryL (.tmp 60) (.tmp 62) rfl rfl rfl (B := g0) (e2 := 59) (fr := (0, 0)) (m := 1) (arr := (cellsE y).toArray) hown5 X rfl (by simp [cellsE, Value.oneCell']) (by decide) hm3 hm4 (by omega) ?_
                intro g5 cap5 w7 hown7 hfr7 hat7 hlt7
                have hOld := hHeld
                clear hHeld
                refine hK.out _ _ (hOld.trans hfr7 (fun i hi e => by have := (row_block hown5 e).1; omega)) (fun hHeld => ?_)
                clear hK K hOld
                try simp only [Act.put, setIfInBounds_toArray, set_cons_zero, set_cons_succ]
                refine wpAnyH_take (i := 11) (v := ?_) rfl (by kernel_rfl) (by kernel_rfl) (by kernel_rfl) (fun _ _ _ h => h) (Or.inl ⟨by rfl, ?_⟩) (by assumption) ?_; rotate_left; · (intro wq hSq; (try dsimp only at hSq); go_split_ands; go_simp; (try with_reducible rfl))
                try simp only [Act.put, getElem_toArray, getElem_cons_zero, getElem_cons_succ, setIfInBounds_toArray, set_cons_zero, set_cons_succ]
                refine wpAnyH_done (by kernel_rfl) ?_ _
                have hres : w7.ownsRow w3.heap.size 59 14 (.slice (some ⟨g5, 0, none⟩) (j + 1) cap5) (j + 1) (cellsOf cellsE (es.take j ++ [y])) := by
                  have := row_base hown7 (base' := w3.heap.size) (by omega)
                  unfold cellsOf at this ⊢
                  rw [List.flatMap_append]
                  simpa using this
                have HRES := Lib.hid hres
                have HHE := Lib.hid hHeld
                clear hres hown7 hfr7 hHeld hown5
                go_wp2_with fail
                go_meet
                exact ⟨_, _, rfl, HRES.out, HHE.out⟩
              · skip
                try simp only [getElem_toArray, getElem_cons_zero, getElem_cons_succ]
                go_simp
                have hx : Frm (fun _ => False) wc (wc.alloc (.cells #[.int .u16 y.idx, .int .u8 y.sub, .int .i64 y.acc, .bool y.mp, .bool y.lim, .int .i64 y.mn.ty, .int .u64 y.mn.n, .string (strB2 y.mn.b), .int .i64 y.mx.ty, .int .u64 y.mx.n, .string (strB2 y.mx.b), .int .i64 y.df.ty, .int .u64 y.df.n, .string (strB2 y.df.b)] 59)) := (Frm.refl _ _).alloc _
                have X := heap_new wc (.cells #[.int .u16 y.idx, .int .u8 y.sub, .int .i64 y.acc, .bool y.mp, .bool y.lim, .int .i64 y.mn.ty, .int .u64 y.mn.n, .string (strB2 y.mn.b), .int .i64 y.mx.ty, .int .u64 y.mx.n, .string (strB2 y.mx.b), .int .i64 y.df.ty, .int .u64 y.df.n, .string (strB2 y.df.b)] 59)
                have hOld := hHeld
                clear hHeld
                refine hK.out _ _ (hOld.alloc _) (fun hHeld => ?_)
                clear hK K hOld
                try simp only [Act.put, setIfInBounds_toArray, set_cons_zero, set_cons_succ]
                have Z2 := heap_alloc_old (o := .cells #[.int .u16 y.idx, .int .u8 y.sub, .int .i64 y.acc, .bool y.mp, .bool y.lim, .int .i64 y.mn.ty, .int .u64 y.mn.n, .string (strB2 y.mn.b), .int .i64 y.mx.ty, .int .u64 y.mx.n, .string (strB2 y.mx.b), .int .i64 y.df.ty, .int .u64 y.df.n, .string (strB2 y.df.b)] 59) Z
                have hne := Nat.ne_of_lt (lt_of_block Z)
                clear Z
                have Z := Z2
                clear Z2
                generalize wc.alloc (.cells #[.int .u16 y.idx, .int .u8 y.sub, .int .i64 y.acc, .bool y.mp, .bool y.lim, .int .i64 y.mn.ty, .int .u64 y.mn.n, .string (strB2 y.mn.b), .int .i64 y.mx.ty, .int .u64 y.mx.n, .string (strB2 y.mx.b), .int .i64 y.df.ty, .int .u64 y.df.n, .string (strB2 y.df.b)] 59) = wn at *
                generalize wc.heap.size = gx at *
                clear hx wc
                generalize wn = wc at *
                refine wpAnyH_ready (rs := [7]) (by kernel_rfl) (by simp) ?_
                refine AllReadyH.cons rfl (fun K hK => ?_) AllReadyH.nil
                try simp only [getElem_toArray, getElem_cons_zero, getElem_cons_succ]
                refine wp_app_src el_EntryL (.tmp 53) (.tmp 59) rfl rfl rfl (B := g0) (xs := []) (news := cellsOf cellsE (es.take j)) (ownE 14 Z) HLF.out (fun h => (HN1'.out h).grow (HFQ.out.trans' hHeld)) (oneEs _) hm1 hm2 (Nat.le_of_lt (lt_of_block Z)) ?_
                intro A5 c5 w5 hown5 hfr5
                have hOld := hHeld
                clear hHeld
                refine hK.out _ _ (hOld.trans hfr5 (fun i hi e => by cases e; exact absurd hi (Nat.not_lt.2 hZL))) (fun hHeld => ?_)
                clear hK K
                try simp only [Act.put, setIfInBounds_toArray, set_cons_zero, set_cons_succ]
                rw [Nat.zero_add, List.nil_append] at hown5
                try simp only [Nat.zero_add]
                have hg0 : g0 ≤ w5.heap.size := Nat.le_of_lt (Nat.lt_of_lt_of_le (lt_of_block Z) hfr5.size)
                have X2 := hfr5.heap X (fun e => by cases e; exact hne rfl)
                clear X
                have X := X2
                clear X2
                clear hOld hfr5 Z wc
                generalize w5 = wc at *
                refine wpAnyH_ready (rs := [10]) (by kernel_rfl) (by simp) ?_
                refine AllReadyH.cons rfl (fun K hK => ?_) AllReadyH.nil
                try simp only [getElem_toArray, getElem_cons_zero, getElem_cons_succ]
                refine wp_app el_EntryL (.tmp 60) (.tmp 62) rfl rfl rfl (B := g0) (e2 := 59) (fr := (0, 0)) (m := 1) (arr := (cellsE y).toArray) hown5 X rfl (by simp [cellsE, Value.oneCell']) (by decide) hm3 hm4 (by omega) ?_
                intro g5 cap5 w7 hown7 hfr7 hat7 hlt7
                have hOld := hHeld
                clear hHeld
                refine hK.out _ _ (hOld.trans hfr7 (fun i hi e => by have := (row_block hown5 e).1; omega)) (fun hHeld => ?_)
                clear hK K hOld
                try simp only [Act.put, setIfInBounds_toArray, set_cons_zero, set_cons_succ]
                refine wpAnyH_take (i := 11) (v := ?_) rfl (by kernel_rfl) (by kernel_rfl) (by kernel_rfl) (fun _ _ _ h => h) (Or.inl ⟨by rfl, ?_⟩) (by assumption) ?_; rotate_left; · (intro wq hSq; (try dsimp only at hSq); go_split_ands; go_simp; (try with_reducible rfl))
                try simp only [Act.put, getElem_toArray, getElem_cons_zero, getElem_cons_succ, setIfInBounds_toArray, set_cons_zero, set_cons_succ]
                refine wpAnyH_done (by kernel_rfl) ?_ _
                have hres : w7.ownsRow w3.heap.size 59 14 (.slice (some ⟨g5, 0, none⟩) (j + 1) cap5) (j + 1) (cellsOf cellsE (es.take j ++ [y])) := by
                  have := row_base hown7 (base' := w3.heap.size) (by omega)
                  unfold cellsOf at this ⊢
                  rw [List.flatMap_append]
                  simpa using this
                have HRES := Lib.hid hres
                have HHE := Lib.hid hHeld
                clear hres hown7 hfr7 hHeld hown5
                go_wp2_with fail
                go_meet
                exact ⟨_, _, rfl, HRES.out, HHE.out⟩
            · skip
              try simp only [getElem_toArray, getElem_cons_zero, getElem_cons_succ]
              go_simp
              have hx : Frm (fun _ => False) wc (wc.alloc (.cells #[.int .u16 y.idx, .int .u8 y.sub, .int .i64 y.acc, .bool y.mp, .bool y.lim, .int .i64 y.mn.ty, .int .u64 y.mn.n, .string (strB2 y.mn.b), .int .i64 y.mx.ty, .int .u64 y.mx.n, .string (strB2 y.mx.b), .int .i64 y.df.ty, .int .u64 y.df.n, .string (strB2 y.df.b)] 59)) := (Frm.refl _ _).alloc _
              have X := heap_new wc (.cells #[.int .u16 y.idx, .int .u8 y.sub, .int .i64 y.acc, .bool y.mp, .bool y.lim, .int .i64 y.mn.ty, .int .u64 y.mn.n, .string (strB2 y.mn.b), .int .i64 y.mx.ty, .int .u64 y.mx.n, .string (strB2 y.mx.b), .int .i64 y.df.ty, .int .u64 y.df.n, .string (strB2 y.df.b)] 59)
              have hOld := hHeld
              clear hHeld
              refine hK.out _ _ (hOld.alloc _) (fun hHeld => ?_)
              clear hK K hOld
              try simp only [Act.put, setIfInBounds_toArray, set_cons_zero, set_cons_succ]
              generalize wc.alloc (.cells #[.int .u16 y.idx, .int .u8 y.sub, .int .i64 y.acc, .bool y.mp, .bool y.lim, .int .i64 y.mn.ty, .int .u64 y.mn.n, .string (strB2 y.mn.b), .int .i64 y.mx.ty, .int .u64 y.mx.n, .string (strB2 y.mx.b), .int .i64 y.df.ty, .int .u64 y.df.n, .string (strB2 y.df.b)] 59) = wn at *
              generalize wc.heap.size = gx at *
              clear hx wc
              generalize wn = wc at *
              refine wpAnyH_ready (rs := [0]) (by kernel_rfl) (by simp) ?_
              refine AllReadyH.cons rfl (fun K hK => ?_) AllReadyH.nil
              try simp only [getElem_toArray, getElem_cons_zero, getElem_cons_succ]
              go_simp
              have hx : Frm (fun _ => False) wc (wc.alloc (.cells #[] 59)) := (Frm.refl _ _).alloc _
              have Z := heap_new wc (.cells #[] 59)
              have hZL := hHeld.size
              have hOld := hHeld
              clear hHeld
              refine hK.out _ _ (hOld.alloc _) (fun hHeld => ?_)
              clear hK K hOld
              try simp only [Act.put, setIfInBounds_toArray, set_cons_zero, set_cons_succ]
              have X2 := heap_alloc_old (o := .cells #[] 59) X
              have hne := Nat.ne_of_lt (lt_of_block X)
              clear X
              have X := X2
              clear X2
              generalize wc.alloc (.cells #[] 59) = wn at *
              generalize wc.heap.size = g0 at *
              clear hx wc
              generalize wn = wc at *
              refine wpAnyH_ready (rs := [7]) (by kernel_rfl) (by simp) ?_
              refine AllReadyH.cons rfl (fun K hK => ?_) AllReadyH.nil
              try simp only [getElem_toArray, getElem_cons_zero, getElem_cons_succ]
              refine wp_app_src el_EntryL (.tmp 53) (.tmp 59) rfl rfl rfl (B := g0) (xs := []) (news := cellsOf cellsE (es.take j)) (ownE 14 Z) HLF.out (fun h => (HN1'.out h).grow (HFQ.out.trans' hHeld)) (oneEs _) hm1 hm2 (Nat.le_of_lt (lt_of_block Z)) ?_
              intro A5 c5 w5 hown5 hfr5
              have hOld := hHeld
              clear hHeld
              refine hK.out _ _ (hOld.trans hfr5 (fun i hi e => by cases e; exact absurd hi (Nat.not_lt.2 hZL))) (fun hHeld => ?_)
              clear hK K
              try simp only [Act.put, setIfInBounds_toArray, set_cons_zero, set_cons_succ]
              rw [Nat.zero_add, List.nil_append] at hown5
              try simp only [Nat.zero_add]
              have hg0 : g0 ≤ w5.heap.size := Nat.le_of_lt (Nat.lt_of_lt_of_le (lt_of_block Z) hfr5.size)
              have X2 := hfr5.heap X (fun e => by cases e; exact hne rfl)
              clear X
              have X := X2
              clear X2
              clear hOld hfr5 Z wc
              generalize w5 = wc at *
              refine wpAnyH_ready (rs := [10]) (by kernel_rfl) (by simp) ?_
              refine AllReadyH.cons rfl (fun K hK => ?_) AllReadyH.nil
              try simp only [getElem_toArray, getElem_cons_zero, getElem_cons_succ]
              refine wp_app el_EntryL (.tmp 60) (.tmp 62) rfl rfl rfl (B := g0) (e2 := 59) (fr := (0, 0)) (m := 1) (arr := (cellsE y).toArray) hown5 X rfl (by simp [cellsE, Value.oneCell']) (by decide) hm3 hm4 (by omega) ?_
              intro g5 cap5 w7 hown7 hfr7 hat7 hlt7
              have hOld := hHeld
              clear hHeld
              refine hK.out _ _ (hOld.trans hfr7 (fun i hi e => by have := (row_block hown5 e).1; omega)) (fun hHeld => ?_)
              clear hK K hOld
              try simp only [Act.put, setIfInBounds_toArray, set_cons_zero, set_cons_succ]
              refine wpAnyH_take (i := 11) (v := ?_) rfl (by kernel_rfl) (by kernel_rfl) (by kernel_rfl) (fun _ _ _ h => h) (Or.inl ⟨by rfl, ?_⟩) (by assumption) ?_; rotate_left; · (intro wq hSq; (try dsimp only at hSq); go_split_ands; go_simp; (try with_reducible rfl))
              try simp only [Act.put, getElem_toArray, getElem_cons_zero, getElem_cons_succ, setIfInBounds_toArray, set_cons_zero, set_cons_succ]
              refine wpAnyH_done (by kernel_rfl) ?_ _
              have hres : w7.ownsRow w3.heap.size 59 14 (.slice (some ⟨g5, 0, none⟩) (j + 1) cap5) (j + 1) (cellsOf cellsE (es.take j ++ [y])) := by
                have := row_base hown7 (base' := w3.heap.size) (by omega)
                unfold cellsOf at this ⊢
                rw [List.flatMap_append]
                simpa using this
              have HRES := Lib.hid hres
              have HHE := Lib.hid hHeld
              clear hres hown7 hfr7 hHeld hown5
              go_wp2_with fail
              go_meet
              exact ⟨_, _, rfl, HRES.out, HHE.out⟩
          case rest =>
            obtain ⟨A9, c9, rfl, hr9, hF9⟩ := hcut
            have HFC := Lib.hid (HFQ.out.trans' hF9)
            have hs2 := HS2.out
            have HR9 := Lib.hid hr9
            have hO9 := HFC.out.heap HO0.out (fun h => h)
            have hcd9 : wc.cell? ⟨w3.heap.size, 0, none⟩ = some (.slice A es.length cap) := cell_at hO9
            have hz9 := free_at (o := 0) hO9
            have HO9 := Lib.hid hO9
            have h39 : w3.heap.size < wc.heap.size := lt_of_block hO9
            have hjb : j + 1 + (es.length - j) ≤ 1025 := by have := HJ.out; have := HLK.out; omega
            have hm5 : j + 1 + (es.length - j) ≤ maxLen := by unfold maxLen; omega
            have hm6 : (j + 1 + (es.length - j)) * 120 ≤ 140737488355328 := by omega
            have HLB : Hid ((cellsOf cellsE (es.drop j)).length = (es.length - j) * 14) := by unfold Hid; rw [cellsOf_length cellsE_len, List.length_drop]
            have HNUM : Hid (j + 1 + (es.length - j) = es.length + 1) := by have := HJ.out; unfold Hid; omega
            clear hr9 hF9 hO9 hjb
            go_wp2_with (at_builtin; refine wpl_app_src rfl el_EntryL (.tmp 65) (.tmp 71) rfl (B := w3.heap.size) (xs := cellsOf cellsE (es.take j ++ [y])) (news := cellsOf cellsE (es.drop j)) rfl rfl HR9.out HLB.out (fun h => (HN2'.out h).grow HFC.out) (oneEs _) hm5 hm6 (Nat.le_of_lt h39) ?_; intro A8 c8 w8 hown8 hfr8; have hO8 := hfr8.heap HO9.out (fun h => block_ne (row_block HR9.out h).2.choose_spec HO9.out (by decide) rfl); have hc8 : w8.cell? ⟨w3.heap.size, 0, none⟩ = some (.slice A es.length cap) := cell_at hO8; have hz8 := free_at (o := 0) hO8; have HO8 := Lib.hid hO8; have HR8 := Lib.hid hown8; have HF8 := Lib.hid hfr8; clear hO8 hown8 hfr8)
            have hklt := HKL.out
            go_roundw
            case rel =>
              refine ⟨k + 1, hklt, by go_num, ⟨_, heap_set_at HO8.out rfl, ?_⟩, ?_, ?_⟩
              · rw [← HP1.out, HPUT.out, HIN.out]
                exact Frm.row (S := One w3.heap.size) ((Frm.refl _ _).set1 _) (join_row HR8.out (by rw [HNUM.out]; simp; have := HJ.out; omega)) (fun j hj e => by cases e; exact block_ne (row_block HR8.out hj).2.choose_spec HO8.out (by decide) rfl)
              · refine Frm.setCell ?_ (fun h => absurd h (Nat.not_lt.2 HF3.out.size)) _
                exact ((HF.out.trans' HF1.out).trans' HFC.out).trans HF8.out (fun i hi h => absurd (Nat.lt_of_lt_of_le hi HF3.out.size) (Nat.not_lt.2 (row_block HR9.out h).1))
              · have := HF8.out.size
                simp
                omega
            case measure => simp [intOf]; omega
    · have hkn : k = xs.length := by omega
      subst hkn
      obtain ⟨sL, g1, g2⟩ := hRL
      have HRS := Lib.hid (rDReset_any w3.heap.size w3.heap.size _ sL _ wr g1 g2 (by rw [putE_len _ _ (Nat.le_refl _)]; exact hlen) (Nat.le_of_lt hsz))
      rw [HND.out] at HRS
      have HF := Lib.hid hfr
      unfold ptr at HRS
      clear g1 g2 hfr
      go_wp2_with (go_at_call 62; refine HRS.out.mono ?_; rintro e w5 ⟨rfl, hD5, hF5⟩)
      go_ret2
      exact ⟨HF.out.trans hF5 (fun i hi e => by have e : i = _ := e; have := HF3.out.size; omega), .inr ⟨HC.out, _, rfl, hD5.base HF3.out.size, HF3.out.size⟩⟩
end Go.Proofs.YtemjdmgfilbfaaaGreat
