/-
  Encode's walk: the whole. slices.Backward over items: its contract, for whatever loop body. A map of the call's own, as a list of keys and values in the order in which they came. No Go function is named here.
-/
import Derived.RangeFuncNested
import Derived.RangeFuncBound
import Derived.RangeFuncCalls
import Derived.RangeFuncLeaves
import Derived.Shelf.Abstract
import Derived.Shelf.RegionOpen
import Derived.OwnWalkIn
import Derived.TacticsInMore
import Derived.LoopNIn
import Derived.LoopIn
import Derived.Maps.AppendAt
import Derived.Maps.OwnOps
import Derived.Maps.OwnSet
import Derived.Test.YtmkkeglcjbogcaaMd99ed25a
set_option linter.unusedVariables false
set_option linter.unusedSimpArgs false
namespace Go.Proofs.Ytmkkeglcjbogcaa
open Go.RowKit
set_option linter.unusedVariables false

/-- A place that can be. -/
def Rng (x : It) : Prop := 0 ≤ x.1 ∧ x.1 ≤ 65535 ∧ 0 ≤ x.2.1 ∧ x.2.1 ≤ 255
theorem leOf_succD (n : Int) (k : Nat) : leOf n (k + 1) = UInt8.ofNat (n % 256).toNat :: leOf (n / 256) k := rfl
theorem enc8_length (x : It) : (encIt8 x).length = 7 + x.2.2.length := by simp [encIt8, leOf_length]; omega
theorem enc8s_length (l : List It) (h : ∀ x ∈ l, x.2.2.length ≤ 65536) : (l.flatMap encIt8).length ≤ l.length * 65543 := by
  induction l with
  | nil => simp
  | cons x r ih =>
    have h1 := ih (fun y hy => h y (List.mem_cons_of_mem _ hy))
    have h2 := h x (by simp)
    rw [List.flatMap_cons, List.length_append, enc8_length, List.length_cons]
    omega
theorem encB_ofD (n : Int) (h0 : 0 ≤ n) (h1 : n ≤ 255) : encB (UInt8.ofNat n.toNat) = .int .u8 n := by
  have := encB_mod n
  rwa [Int.emod_eq_of_lt h0 (by omega)] at this
theorem enc8_cells (x : It) (h : Rng x) : (encIt8 x).map encB = #[.int .u8 (x.1 % 256), .int .u8 (x.1 / 256), .int .u8 x.2.1].toList ++ (((leOf x.2.2.length 4).map encB).toArray.toList ++ x.2.2.map encB) := by
  obtain ⟨h0, h1, h2, h3⟩ := h
  have e : x.1 / 256 % 256 = x.1 / 256 := by omega
  simp [e, encIt8, leOf_succD, encB_mod, encB_ofD _ h2 h3, leOf]
  exact encB_ofD _ (by omega) (by omega)

def EncOk (bs : List UInt8) (w : World) (e : Ending) (w' : World) : Prop := Frm (fun _ => False) w w' ∧ ∃ v, e = .returned (.tuple #[v, .int .i64 0]) ∧ Own8 w.heap.size w' v bs
def EncBad (w : World) (e : Ending) (w' : World) : Prop := Frm (fun _ => False) w w' ∧ e = .returned (.tuple #[.slice none 0 0, .int .i64 2])

set_option maxHeartbeats 1000000 in
theorem encode_long (v : Value) (xs : List Itm) (w : World) (h : ItemsAt w v xs) (hb : 1024 < xs.length ∨ ∃ x ∈ xs, 65536 < x.2.2.2.length) : Calls Try.prog 18 #[v] w (EncBad w) := by
  by_cases h1 : 1024 < xs.length
  · obtain ⟨A, cap, rfl, _⟩ := h.open_
    clear h hb
    go_enter Try.func18, Try.ntmps18
    go_wp2_with fail
    go_ret2
    exact ⟨Frm.refl _ _, rfl⟩
  · have H := Lib.hid (contI_yes v xs w h (hb.resolve_left h1))
    have h1' : xs.length ≤ 1024 := by omega
    obtain ⟨A, cap, rfl, _⟩ := h.open_
    clear h hb h1
    go_enter Try.func18, Try.ntmps18
    go_wp2_with (go_at_call 58; refine H.out.mono ?_; rintro e w' ⟨rfl, hF'⟩)
    go_ret2
    exact ⟨hF', rfl⟩

def EncRow (xs : List Itm) (k : Nat) : List UInt8 := leOf xs.length 4 ++ ((xs.take k).map bare).flatMap encIt8

set_option maxRecDepth 100000 in
set_option maxHeartbeats 2000000 in
theorem encode_any (v : Value) (xs : List Itm) (w : World) (h : ItemsAt w v xs) (hn : xs.length ≤ 1024) (hb : ∀ x ∈ xs, x.2.2.2.length ≤ 65536) (hr : ∀ x ∈ xs, Rng (bare x)) :
    Calls Try.prog 18 #[v] w (EncOk (encOf (xs.map bare)) w) := by
  have H := Lib.hid (contI_no v xs w h hb)
  have HI := Lib.hid h
  obtain ⟨A, cap, rfl, _, ho⟩ := h.open_
  have HO := Lib.hid ho
  have HB := Lib.hid hb
  have HR := Lib.hid hr
  have HL := Lib.hid (fun W => low32_any (xs.length : Int) W (by omega) (by omega))
  clear h ho hb hr
  go_enter Try.func18, Try.ntmps18
  go_wp2_with (first | (go_at_call 58; refine H.out.mono ?_; rintro e w1 ⟨rfl, hF1⟩) | (go_at_call 60; refine (HL.out _).mono ?_; rintro e w2 ⟨rfl, hw2⟩; subst w2))
  go_loopw [4, 19] (fun bv i wr => ∃ k : Nat, k ≤ xs.length ∧ i = .int .i64 k ∧ Own8 w.heap.size wr bv (EncRow xs k) ∧ Frm (fun _ => False) w wr) (fun _ i _ => xs.length - (intOf i).toNat)
  case atStart =>
    refine ⟨0, Nat.zero_le _, rfl, ?_, hF1.trans' (by (repeat' (first | (with_reducible exact Frm.refl _ _) | (with_reducible assumption) | (with_reducible refine Frm.alloc ?_ _) | (with_reducible refine Frm.drew ?_) | (with_reducible refine Frm.drewN ?_ _) | (with_reducible refine Frm.set1 ?_ _) | (with_reducible refine Frm.setCell ?_ ?_ _) | (exact fun h => absurd h (Nat.lt_irrefl _)) | (intro hlt; simp [World.size_alloc, One] at hlt ⊢; omega))))⟩
    have hl : EncRow xs 0 = leOf xs.length 4 := by simp [EncRow]
    rw [hl]
    unfold Own8
    rw [leOf_length]
    exact row_new rfl (by simp [leOf_length]) rfl (by decide) hF1.size
  case round =>
    clear hF1
    obtain ⟨k, hk, rfl, hO, hF⟩ := hrel
    by_cases hlt : k < xs.length
    · obtain ⟨g, off, Ab, cb, rfl, hxv, hml, c0, c1, c2⟩ := HO.out k hlt
      have d0 := hF.cell c0 (fun h => h)
      have d1 := hF.cell c1 (fun h => h)
      have d2 := hF.cell c2 (fun h => h)
      have hbk := HB.out _ (List.getElem_mem hlt)
      have hrk := HR.out _ (List.getElem_mem hlt)
      have hBA := HI.out.2 _ (List.getElem_mem hlt)
      rw [hxv] at hBA
      have hek : EncRow xs (k + 1) = EncRow xs k ++ encIt8 (bare xs[k]) := by
        unfold EncRow
        rw [List.take_succ_eq_append_getElem hlt, List.map_append, List.flatMap_append]
        simp
      have hel : (EncRow xs k).length ≤ 67117060 := by
        unfold EncRow
        rw [List.length_append, leOf_length]
        have := enc8s_length ((xs.take k).map bare) (fun y hy => by
          obtain ⟨z, hz, rfl⟩ := List.mem_map.1 hy
          exact HB.out z (List.mem_of_mem_take hz))
        rw [List.length_map, List.length_take] at this
        omega
      have HEK := Lib.hid hek
      clear c0 c1 c2 hxv hek
      generalize xs[k] = x at *
      obtain ⟨x0, x1, xv, xb⟩ := x
      simp only at d0 d1 d2 hml hbk hBA
      obtain ⟨A9, c9, e9, _, _, hnews⟩ := hBA.open_
      simp only [Value.slice.injEq] at e9
      obtain ⟨rfl, _, rfl⟩ := e9
      have HNEWS := Lib.hid hnews
      have hrk' := hrk
      obtain ⟨r0, r1, r2, r3⟩ := hrk'
      simp only [bare] at r0 r1 r2 r3
      have HRK := Lib.hid hrk
      obtain ⟨Al, cl, rfl, g3, g4, _⟩ := row_open hO
      have HROW := Lib.hid hO
      have HF := Lib.hid hF
      have hsz := hF.size
      have HL4 := Lib.hid (fun W => low32_any (xb.length : Int) W (by omega) (by omega))
      obtain ⟨m, hm⟩ : ∃ m, (EncRow xs k).length = m := ⟨_, rfl⟩
      unfold Own8 at HROW
      rw [hm] at HROW hel g3
      simp only [hm]
      have HM := Lib.hid hm
      have hm3 : m + 3 ≤ maxLen := by unfold maxLen; omega
      have hm4 : (m + 3) * 1 ≤ 140737488355328 := by omega
      have hm5 : m + 3 + 4 ≤ maxLen := by unfold maxLen; omega
      have hm6 : (m + 3 + 4) * 1 ≤ 140737488355328 := by omega
      have hm7 : m + 3 + 4 + xb.length ≤ maxLen := by unfold maxLen; omega
      have hm8 : (m + 3 + 4 + xb.length) * 1 ≤ 140737488355328 := by omega
      have HLEN : Hid ((xb.map encB).length = xb.length * 1) := by unfold Hid; simp
      have HONEB := Lib.hid (oneB xb)
      clear hF hO hBA hnews hm hrk hml
      go_upto_region 8 with (at_builtin; refine wpl_app rfl el_u8 (.tmp 23) (.tmp 33) rfl (B := w.heap.size) (e2 := 5) (fr := (0, 0)) (arr := #[.int .u8 (x0 % 256), .int .u8 (x0 / 256), .int .u8 x1]) rfl rfl (Frm.row (S := fun _ => False) (by (repeat' (first | (with_reducible exact Frm.refl _ _) | (with_reducible assumption) | (with_reducible refine Frm.alloc ?_ _) | (with_reducible refine Frm.drew ?_) | (with_reducible refine Frm.drewN ?_ _) | (with_reducible refine Frm.set1 ?_ _) | (with_reducible refine Frm.setCell ?_ ?_ _) | (exact fun h => absurd h (Nat.lt_irrefl _)) | (intro hlt; simp [World.size_alloc, One] at hlt ⊢; omega)))) HROW.out (fun _ _ h => h)) (heap_new_at (by simp)) rfl (by simp [Value.oneCell']) (by decide) hm3 hm4 (by simp; omega) ?_; intro g5 cap5 w5 hown5 hfr5 hat5 hlt5)
      have ht6 : w5.heap[wr.heap.size]? = some (.cells #[.int .u16 x0, .int .u8 x1, .slice Ab xb.length cb] 121 (0, 0)) := hfr5.heap (heap_alloc_old (heap_new _ _)) (fun hs => by
        obtain ⟨_, cur, hc⟩ := row_block HROW.out hs
        exact absurd (lt_of_block hc) (Nat.lt_irrefl _))
      have hF5 : Frm (fun j => (Value.slice Al m cl).ownBlock = some j) wr w5 := Frm.trans (b := _) (by (repeat' (first | (with_reducible exact Frm.refl _ _) | (with_reducible assumption) | (with_reducible refine Frm.alloc ?_ _) | (with_reducible refine Frm.drew ?_) | (with_reducible refine Frm.drewN ?_ _) | (with_reducible refine Frm.set1 ?_ _) | (with_reducible refine Frm.setCell ?_ ?_ _) | (exact fun h => absurd h (Nat.lt_irrefl _)) | (intro hlt; simp [World.size_alloc, One] at hlt ⊢; omega)))) hfr5 (fun _ _ h => h)
      have hF05 : Frm (fun _ => False) w w5 := HF.out.trans hF5 (fun i hi hs => absurd (row_block HROW.out hs).1 (by omega))
      have e2 : w5.cell? ⟨wr.heap.size, 2, none⟩ = some (.slice Ab xb.length cb) := cell_at ht6
      obtain ⟨hg5, cur5, hc5⟩ := row_block hown5 rfl
      have hne5 : g5 ≠ wr.heap.size := block_ne hc5 ht6 (by decide)
      have hsz5 := hF05.size
      have hlt6 := lt_of_block ht6
      have HT6 := Lib.hid ht6
      have HO5 := Lib.hid hown5
      have HF05 := Lib.hid hF05
      have HNE5 := Lib.hid hne5
      have HG5 := Lib.hid hg5
      clear ht6 hF5 hF05 hfr5 hown5 hc5 hne5 hat5 hg5
      go_region_law (first | (refine step_call 60 (by rfl) (by rfl) Try.func60 (by rfl) (by rfl) (by rfl) ((HL4.out _).mono ?_); rintro e w6 ⟨rfl, hw6⟩; subst w6; refine CallK.ret ?_) | (refine step_app (by rfl) el_u8 (.tmp 35) (.tmp 39) (by rfl) (by rfl) (by rfl) (B := w.heap.size) (arr := ((leOf (xb.length : Int) 4).map encB).toArray) (e2 := 5) (fr := (0, 0)) (Frm.row (S := fun _ => False) (w := w5) (by (repeat' (first | (with_reducible exact Frm.refl _ _) | (with_reducible assumption) | (with_reducible refine Frm.alloc ?_ _) | (with_reducible refine Frm.drew ?_) | (with_reducible refine Frm.drewN ?_ _) | (with_reducible refine Frm.set1 ?_ _) | (with_reducible refine Frm.setCell ?_ ?_ _) | (exact fun h => absurd h (Nat.lt_irrefl _)) | (intro hlt; simp [World.size_alloc, One] at hlt ⊢; omega)))) HO5.out (fun _ _ h => h)) (heap_new_at (by simp)) (by simp [leOf_length]) (by simpa using oneB _) (by decide) hm5 hm6 (by simp; omega) ?_; intro g6 cap6 w6 hown6 hfr6 hat6 hlt6; have HT66 := Lib.hid (hfr6.heap (heap_alloc_old HT6.out) (fun hs => HNE5.out (by cases hs; rfl))); have hlt66 := lt_of_block HT66.out; have e62 : w6.cell? ⟨wr.heap.size, 2, none⟩ = some (.slice Ab xb.length cb) := cell_at HT66.out; have HF06 : Hid (Frm (fun _ => False) w w6) := HF05.out.trans (Frm.trans (b := _) (by (repeat' (first | (with_reducible exact Frm.refl _ _) | (with_reducible assumption) | (with_reducible refine Frm.alloc ?_ _) | (with_reducible refine Frm.drew ?_) | (with_reducible refine Frm.drewN ?_ _) | (with_reducible refine Frm.set1 ?_ _) | (with_reducible refine Frm.setCell ?_ ?_ _) | (exact fun h => absurd h (Nat.lt_irrefl _)) | (intro hlt; simp [World.size_alloc, One] at hlt ⊢; omega)))) hfr6 (fun _ _ h => h)) (fun i hi hs => absurd HG5.out (by cases hs; omega)); have HO6 := Lib.hid hown6; have hsz6 := HF06.out.size; clear hown6 hfr6 hat6) | (refine step_app_src (by rfl) el_u8 (.tmp 40) (.tmp 42) (by rfl) (by rfl) (by rfl) (B := w.heap.size) (news := xb.map encB) HO6.out HLEN.out (fun h0 => (HNEWS.out h0).grow HF06.out) HONEB.out hm7 hm8 (by omega) ?_; intro A7 cap7 w7 hown7 hfr7))
      all_goals
        go_wp2_with fail
        go_roundw
        case rel =>
          refine ⟨k + 1, by omega, by go_num, ?_, HF06.out.trans hfr7 (fun i hi hs => ?_)⟩
          · unfold Own8
            rw [HEK.out, List.length_append, HM.out, enc8_length, List.map_append, enc8_cells _ HRK.out]
            simp only [bare]
            rw [show m + (7 + xb.length) = m + 3 + 4 + xb.length by omega]
            simpa only [List.append_assoc] using hown7
          · have := (row_block HO6.out hs).1
            omega
        case measure => simp [intOf]; omega
    · go_wp2_with fail
      go_ret2
      refine ⟨hF, _, rfl, ?_⟩
      obtain rfl : k = xs.length := by omega
      have : EncRow xs xs.length = encOf (xs.map bare) := by simp [EncRow, encOf]
      rw [← this]
      exact hO
end Go.Proofs.Ytmkkeglcjbogcaa
namespace Go.Proofs.Ytmkkeglcjbogcaa
open Go.RowKit Go.Shelf
set_option linter.unusedVariables false
set_option linter.unusedSimpArgs false
attribute [local go_sem] Oper.semAt_some

/-- What an item's cells can be. -/
def RngS (x : Itm) : Prop := (0 ≤ x.1 ∧ x.1 ≤ 65535) ∧ (0 ≤ x.2.1 ∧ x.2.1 ≤ 255) ∧ ∃ A k c, x.2.2.1 = .slice A k c
/-- An item and its place in the list, as a round is handed it. -/
abbrev Bk := { x : Int × Itm // RngS x.2 }
def encsBk (x : Bk) : Array Value := #[.int .i64 x.1.1, .agg #[.int .u16 x.1.2.1, .int .u8 x.1.2.2.1, x.1.2.2.2.1]]
/-- Items from the last to the first, each with its place. -/
def backI (xs : List Itm) : List (Int × Itm) := (xs.zipIdx.map fun p => ((p.2 : Int), p.1)).reverse
theorem backI_len (xs : List Itm) : (backI xs).length = xs.length := by simp [backI]
theorem backI_get (xs : List Itm) (k : Nat) (hk : k < xs.length) (hm : xs.length - 1 - k < xs.length) : (backI xs)[k]? = some (((xs.length - 1 - k : Nat) : Int), xs[xs.length - 1 - k]) := by
  unfold backI
  rw [List.getElem?_reverse (by simpa using hk)]
  simp only [List.length_map, List.length_zipIdx, List.getElem?_map, List.getElem?_zipIdx, List.getElem?_eq_getElem hm, Option.map_some, Nat.zero_add]
/-- What a round leaves as it was: what lay below n, and the box. -/
def KbB (n B : Nat) (W W' : World) : Prop := Below n W W' ∧ W'.heap[B]? = W.heap[B]?
theorem KbB.trans {n B : Nat} {X Y Z : World} (h : KbB n B X Y) (k : KbB n B Y Z) : KbB n B X Z := ⟨h.1.trans k.1, k.2.trans h.2⟩

set_option maxRecDepth 100000 in
set_option maxHeartbeats 1000000 in
theorem bk1_in (F : Fence) (n : Nat) (hf : F.fn 113) (hro : F.round = none) (hn : 1 ≤ n) (l Bn n₀ : Nat) (v : Value) (xs : List Itm) (J Jx : List Bk → World → Prop)
    (hY : ∀ pre x W, J pre W → pre.length < xs.length → YieldAt F (n - 1) Try.prog l (encsBk x) W fun e W' =>
      (e = .returned (.bool true) ∧ J (pre ++ [x]) W' ∧ KbB n₀ Bn W W') ∨ (e = .returned (.bool false) ∧ Jx (pre ++ [x]) W'))
    (W : World) (hBn : Boxed W Bn 23 v) (hL : SlAt encIt 3 W v xs) (hlo : ∀ g o c, 0 < xs.length → v = .slice (some ⟨g, o, none⟩) xs.length c → g < n₀) (hr : ∀ x ∈ xs, RngS x) (h0 : J [] W) :
    CallsIn F n Try.prog 113 #[.func (.yield l) #[] #[], .pointer (some ⟨Bn, 0, none⟩)] W fun e W' => (∃ v, e = .returned v) ∧
      ((∃ ys : List Bk, ys.map (·.1) = backI xs ∧ J ys W') ∨ (∃ pre : List Bk, pre.map (·.1) <+: backI xs ∧ Jx pre W')) := by
  obtain ⟨A, cap, rfl, hc1, hc2, hcell⟩ := hL
  have hm : xs.length ≤ 9223372036854775807 := Nat.le_trans hc1 hc2
  have hB0 := hBn.cell
  have HR := Lib.hid hr
  have HY := Lib.hid hY
  have HLO := Lib.hid hlo
  have HC := Lib.hid hcell
  have HBN := Lib.hid hBn
  have H0 := Lib.hid h0
  clear hc1 hc2 hcell hr hY hlo h0 hBn
  refine callsIn_of_wp Try.func113 rfl hf ?_ hro
  simp only [Try.ntmps113, List.size_toArray, List.length_cons, List.length_nil, Nat.reduceAdd, Nat.reduceSub, Array.replicate_succ, Array.replicate_zero, List.push_toArray, List.append_toArray, List.nil_append, List.cons_append]
  gi_wp2
  gi_loopw [3] (fun p wr => ∃ (k : Nat) (pre : List Bk), k ≤ xs.length ∧ p = .int .i64 ((xs.length : Int) - 1 - k) ∧ pre.map (·.1) = (backI xs).take k ∧ J pre wr ∧ KbB n₀ Bn W wr)
    (fun p _ => (intOf p + 1).toNat)
  case atStart =>
    exact ⟨0, [], Nat.zero_le _, by go_num, rfl, H0.out, Below.refl _ _, rfl⟩
  case round =>
    obtain ⟨k, pre, hk, rfl, hpre, hJ, hKb⟩ := hrel
    have hbox : Boxed wr Bn 23 (.slice A xs.length cap) := hKb.2.trans HBN.out
    have hb := hbox.cell
    have HBX := Lib.hid hbox
    have HKB := Lib.hid hKb
    have HPRE := Lib.hid hpre
    have HJ := Lib.hid hJ
    have hpl : pre.length = k := by
      have := congrArg List.length hpre
      rw [List.length_map, List.length_take, backI_len] at this
      omega
    clear hbox hKb hpre hJ
    by_cases hlt : k < xs.length
    · have hm2 : xs.length - 1 - k < xs.length := by omega
      obtain ⟨i, hi⟩ : ∃ i : Nat, i = xs.length - 1 - k := ⟨_, rfl⟩
      have hge := backI_get xs k hlt hm2
      have hei : (xs.length : Int) - 1 - (k : Int) = (i : Int) := by omega
      have hil : i < xs.length := by omega
      obtain ⟨g, off, rfl, hgl, hcc⟩ := HC.out (by omega)
      have hgn : g < n₀ := HLO.out g off _ (by omega) rfl
      have q := fun j hj => (HKB.out.1.cell (p := ⟨g, off + i * 3 + j, none⟩) hgn).trans ((hcc i hil j hj).trans (List.getElem?_eq_getElem (by simpa [encIt] using hj)))
      have hxr := HR.out xs[i] (List.getElem_mem hil)
      have hge' : (backI xs)[k]? = some ((i : Int), xs[i]) := by subst hi; exact hge
      have HGE := Lib.hid hge'
      have hglw : g < wr.heap.size := Nat.lt_of_lt_of_le hgl HKB.out.1.size
      rw [hei]
      generalize xs[i] = x at *
      have q0 := q 0 (by decide)
      have q1 := q 1 (by decide)
      have q2 := q 2 (by decide)
      simp only [encIt, List.getElem_cons_succ, List.getElem_cons_zero, Nat.add_zero] at q0 q1 q2
      obtain ⟨fn, tmps, assign, body, hy, hR⟩ := HY.out pre ⟨((i : Int), x), hxr⟩ wr HJ.out (by omega)
      obtain ⟨Ab, kb, cb, hxe⟩ := hxr.2.2
      simp only [encsBk] at hy
      rw [hxe] at hy q2
      clear q hcc hge hge' hm2
      have hi0 : (0 : Int) ≤ (i : Int) := by omega
      have hil2 : (i : Int) < (xs.length : Int) := by omega
      clear hxe
      have HFIN : Hid ((pre ++ [(⟨((i : Int), x), hxr⟩ : Bk)]).map (·.1) = (backI xs).take (k + 1)) := by
        unfold Hid
        rw [List.map_append, HPRE.out, List.take_add_one, HGE.out]
        rfl
      have hk1 : k + 1 ≤ xs.length := hlt
      have hkr : ∃ s, backI xs = (backI xs).take (k + 1) ++ s := ⟨(backI xs).drop (k + 1), (List.take_append_drop _ _).symm⟩
      have HKR := Lib.hid hkr
      have HEI := Lib.hid hei
      clear hkr hi hei
      gi_wp2
      refine hR.mono ?_
      rintro e W3 (⟨rfl, hJ3, hk3⟩ | ⟨rfl, hJx3⟩)
      · have HJ3 := Lib.hid hJ3
        have HK3 := Lib.hid (HKB.out.trans hk3)
        clear hJ3 hk3 hR hy
        gi_wp2
        go_roundw
        case rel => exact ⟨k + 1, _, hk1, by have := HEI.out; go_num, HFIN.out, HJ3.out, HK3.out⟩
        case measure => have := HEI.out; simp [intOf] <;> omega
      · have HJ3 := Lib.hid hJx3
        clear hJx3 hR hy
        gi_wp2
        refine bodyPost_ret (results_none rfl _ _ _) rfl ?_
        refine ⟨⟨_, rfl⟩, .inr ⟨_, ?_, HJ3.out⟩⟩
        rw [HFIN.out]
        obtain ⟨s, hs⟩ := HKR.out
        exact ⟨s, hs.symm⟩
    · have hke : k = xs.length := by omega
      have HFIN : Hid (pre.map (·.1) = backI xs) := by
        unfold Hid
        rw [HPRE.out, hke, ← backI_len xs, List.take_length]
      have hneg : (xs.length : Int) - 1 - (k : Int) = -1 := by omega
      rw [hneg]
      gi_wp2
      go_end0
      exact ⟨⟨_, rfl⟩, .inl ⟨pre, HFIN.out, HJ.out⟩⟩

/-- slices.Backward: the slice is boxed, the function value captures the box. -/
theorem back_in (F : Fence) (n : Nat) (hf : F.fn 92) (hro : F.round = none) (v : Value) (w : World) (hv : ∃ A k c, v = .slice A k c) :
    CallsIn F n Try.prog 92 #[v] w fun e w' => e = .returned (.func (.func 113) #[] #[.pointer (some ⟨w.heap.size, 0, none⟩)]) ∧ w' = w.alloc (.cells #[v] 23) := by
  obtain ⟨A, k, c, rfl⟩ := hv
  refine callsIn_of_wp Try.func92 rfl hf ?_ hro
  simp only [Try.ntmps92, List.size_toArray, List.length_cons, List.length_nil, Nat.reduceAdd, Nat.reduceSub, Array.replicate_succ, Array.replicate_zero, List.push_toArray, List.append_toArray, List.nil_append, List.cons_append]
  gi_wp2
  go_ret
  exact ⟨rfl, rfl⟩
theorem SlAt.belowN {w W : World} {v : Value} {xs : List Itm} (h : SlAt encIt 3 w v xs) (hb : Below w.heap.size w W) : SlAt encIt 3 W v xs := by
  obtain ⟨A, cap, rfl, h1, h2, hc⟩ := h
  refine ⟨A, cap, rfl, h1, h2, fun h0 => ?_⟩
  obtain ⟨g, off, rfl, hg, hcc⟩ := hc h0
  refine ⟨g, off, rfl, Nat.lt_of_lt_of_le hg hb.size, fun i hi j hj => ?_⟩
  exact (hb.cell (p := ⟨g, off + i * 3 + j, none⟩) hg).trans (hcc i hi j hj)
/-- What Backward hands back. -/
theorem back_stops (F : Fence) (n : Nat) (hf : F.fn 113) (hro : F.round = none) (hn : 1 ≤ n) (Bn n₀ : Nat) (v : Value) (xs : List Itm) (w0 w : World) (hBn : Boxed w Bn 23 v) (h0 : SlAt encIt 3 w0 v xs) (hn₀ : n₀ = w0.heap.size) (hw : Below n₀ w0 w) (hr : ∀ x ∈ xs, RngS x) :
    SeqStopsK F n Try.prog 113 #[.pointer (some ⟨Bn, 0, none⟩)] encsBk (KbB n₀ Bn) (fun ys => ys.map (·.1) = backI xs) (fun pre => pre.map (·.1) <+: backI xs) xs.length w := by
  intro l J Jx W hW _ _ hY hJ0
  subst hn₀
  have hbl := hBn.lt
  have hwW : Below w0.heap.size w0 W := hw.trans (hW.mono hw.size)
  refine bk1_in F n hf hro hn l Bn w0.heap.size v xs J Jx hY W ((hW.block Bn hbl).trans hBn) (h0.belowN hwW) (fun g o c h9 e => ?_) hr hJ0
  obtain ⟨A, cap, rfl, _, _, hc⟩ := h0
  obtain ⟨g', off, rfl, hg, _⟩ := hc h9
  simp only [Value.slice.injEq, Option.some.injEq, Addr.mk.injEq, and_true] at e
  rw [← e.1.1]
  exact hg
end Go.Proofs.Ytmkkeglcjbogcaa
namespace Go.Proofs.Ytmkkeglcjbogcaa
open Go.RowKit Go.ChangeMaps Go.MapKept
set_option linter.unusedVariables false

/-- Keys of a type that the model compares as they stand. -/
structure KeyOk (P : Program) (k : TypeId) (S : Value → Prop) : Prop where
  check : ∀ (w : World) (em : Bool) {v : Value}, S v → (Instr.checkKey em 10000 k v).run P w = .ok () w
  find : ∀ (w : World) {x : Value}, S x → ∀ es : List MapEntry, (∀ e ∈ es, S e.key) →
    ((Instr.findKey k x es).run P w = .ok none w ∧ ∀ e ∈ es, e.key ≠ x) ∨ ∃ j e, (Instr.findKey k x es).run P w = .ok (some (j, e.val)) w ∧ es[j]? = some e ∧ e.key = x
  stays : ∀ (w : World) {v : Value}, S v → (Instr.keyThatStays v v).run P w = .ok v w

theorem KeyOk.of_keyed {P : Program} {k : TypeId} (K : Maps.Keyed P k) : KeyOk P k (fun v => ∃ l, keyOf P k v = some l) where
  check w em _ h := by obtain ⟨l, h⟩ := h; exact K.check w em h
  find w _ h es hes := by obtain ⟨l, h⟩ := h; exact K.find w h es hes
  stays w _ h := by obtain ⟨l, h⟩ := h; exact K.stays w h

/-- Block b is a map that holds m: keys and values, as they came. -/
def MapAt (S : Value → Prop) (w : World) (b : Nat) (m : List (Value × Value)) : Prop :=
  ∃ es clock, w.heap[b]? = some (.map es clock) ∧ es.toList.map (fun e => (e.key, e.val)) = m ∧ (∀ p ∈ m, S p.1) ∧ (m.map (·.1)).Nodup

theorem MapAt.lt {S : Value → Prop} {w : World} {b : Nat} {m : List (Value × Value)} (h : MapAt S w b m) : b < w.heap.size := by
  obtain ⟨es, c, hb, _⟩ := h
  exact (Array.getElem?_eq_some_iff.1 hb).1
theorem MapAt.made (S : Value → Prop) (w : World) : MapAt S (w.alloc (.map #[] 0)) w.heap.size [] :=
  ⟨#[], 0, heap_new w _, rfl, (fun p hp => by cases hp), List.nodup_nil⟩
theorem MapAt.frm {S : Value → Prop} {T : Nat → Prop} {w w' : World} {b : Nat} {m : List (Value × Value)} (h : MapAt S w b m) (hF : Frm T w w') (hn : ¬ T b) : MapAt S w' b m := by
  obtain ⟨es, c, hb, r⟩ := h
  exact ⟨es, c, hF.heap hb hn, r⟩

section
variable {P : Program} {k e t : TypeId} {S : Value → Prop} {w : World} {b : Nat} {m : List (Value × Value)}

theorem MapAt.entries (h : MapAt S w b m) : ∃ es clock, w.heap[b]? = some (.map es clock) ∧ es.toList.map (fun e => (e.key, e.val)) = m ∧ ∀ e ∈ es.toList, S e.key := by
  obtain ⟨es, c, hb, hm, hs, _⟩ := h
  exact ⟨es, c, hb, hm, fun e he => hs (e.key, e.val) (by rw [← hm]; exact List.mem_map_of_mem (f := fun e : MapEntry => (e.key, e.val)) he)⟩

/-- 'm[k]' of a key that is not there. -/
theorem MapAt.miss (h : MapAt S w b m) (K : KeyOk P k S) (ht : P.underlying t = some (.map k e)) {z : Value} (hz : (zeroValue e).run P w = .ok z w) {key : Value} (hk : S key) (hno : ∀ p ∈ m, p.1 ≠ key) (c : Bool) :
    (Instr.lookup t (.map (some b)) key c).run P w = .ok (if c then .tuple #[z, .bool false] else z) w := by
  obtain ⟨es, cl, hb, hm, hs⟩ := h.entries
  rcases K.find w hk es.toList hs with ⟨h1, _⟩ | ⟨j, e0, h1, h2, h3⟩
  · simp [Instr.lookup, run_underlying ht, MapKept.run_getObj_map hb, K.check w _ hk, h1, hz, Result.andThen]
  · exact absurd h3 (hno (e0.key, e0.val) (by rw [← hm]; exact List.mem_map_of_mem (f := fun e : MapEntry => (e.key, e.val)) (List.mem_of_getElem? h2)))

/-- 'm[k]' of a key that is there. -/
theorem MapAt.hit (h : MapAt S w b m) (K : KeyOk P k S) (ht : P.underlying t = some (.map k e)) {key v : Value} (hk : S key) (hin : (key, v) ∈ m) (c : Bool) :
    (Instr.lookup t (.map (some b)) key c).run P w = .ok (if c then .tuple #[v, .bool true] else v) w := by
  obtain ⟨es, cl, hb, hm, hs⟩ := h.entries
  obtain ⟨_, _, _, _, _, hnd⟩ := h
  rcases K.find w hk es.toList hs with ⟨_, h2⟩ | ⟨j, e0, h1, h2, h3⟩
  · rw [← hm] at hin
    obtain ⟨e0, he, h3⟩ := List.mem_map.1 hin
    cases h3
    exact absurd rfl (h2 e0 he)
  · have hv : e0.val = v := by
      have h4 : (e0.key, e0.val) ∈ m := by rw [← hm]; exact List.mem_map_of_mem (f := fun e : MapEntry => (e.key, e.val)) (List.mem_of_getElem? h2)
      rw [h3] at h4
      obtain ⟨i, hi, hie⟩ := List.getElem_of_mem h4
      obtain ⟨i', hi', hie'⟩ := List.getElem_of_mem hin
      have : i = i' := nodup_at hnd (i := i) (k := i') (by simpa using hi) (by simpa using hi') (by simp [hie, hie'])
      subst this
      rw [hie] at hie'
      simpa using hie'
    subst hv
    simp [Instr.lookup, run_underlying ht, MapKept.run_getObj_map hb, K.check w _ hk, h1, Result.andThen]

/-- 'm[k] = v' of a key that is not there. -/
theorem MapAt.push (h : MapAt S w b m) (K : KeyOk P k S) (ht : P.underlying t = some (.map k e)) {key : Value} (hk : S key) (hno : ∀ p ∈ m, p.1 ≠ key) (v : Value) :
    ∃ w', (Instr.mapUpdate t (.map (some b)) key v).run P w = .ok () w' ∧ MapAt S w' b (m ++ [(key, v)]) ∧ Frm (One b) w w' := by
  obtain ⟨es, cl, hb, hm, hs⟩ := h.entries
  obtain ⟨_, _, _, _, hS, hnd⟩ := h
  rcases K.find w hk es.toList hs with ⟨h1, _⟩ | ⟨j, e0, h1, h2, h3⟩
  · refine ⟨setBlock w b (.map (es.push ⟨key, v, cl⟩) (cl + 1)), ?_, ⟨_, _, heap_setBlock_same hb _, by simp [hm], ?_, ?_⟩, ⟨rfl, rfl, rfl, by simp [setBlock], fun i _ hi => heap_setBlock_other hb _ (fun e => hi e)⟩⟩
    · simp [Instr.mapUpdate, run_underlying ht, MapKept.run_getObj_map hb, K.check w false hk, h1, MapKept.run_setObj_map _ hb, Result.andThen, setBlock]
    · intro p hp
      rcases List.mem_append.1 hp with hp | hp
      · exact hS p hp
      · simp at hp; subst hp; exact hk
    · rw [List.map_append, List.nodup_append]
      refine ⟨hnd, by simp, fun a ha b hb => ?_⟩
      simp at hb
      subst hb
      obtain ⟨p, hp, rfl⟩ := List.mem_map.1 ha
      exact hno p hp
  · exact absurd h3 (hno (e0.key, e0.val) (by rw [← hm]; exact List.mem_map_of_mem (f := fun e : MapEntry => (e.key, e.val)) (List.mem_of_getElem? h2)))

/-- 'm[k] = v' of a key that is there. -/
theorem MapAt.put (h : MapAt S w b m) (K : KeyOk P k S) (ht : P.underlying t = some (.map k e)) {key v0 : Value} (hk : S key) {j : Nat} (hj : m[j]? = some (key, v0)) (v : Value) :
    ∃ w', (Instr.mapUpdate t (.map (some b)) key v).run P w = .ok () w' ∧ MapAt S w' b (m.set j (key, v)) ∧ Frm (One b) w w' := by
  obtain ⟨es, cl, hb, hm, hs⟩ := h.entries
  obtain ⟨_, _, _, _, hS, hnd⟩ := h
  rcases K.find w hk es.toList hs with ⟨_, h2⟩ | ⟨i, e0, h1, h2, h3⟩
  · have hin := List.mem_of_getElem? hj
    rw [← hm] at hin
    obtain ⟨e0, he, h3⟩ := List.mem_map.1 hin
    cases h3
    exact absurd rfl (h2 e0 he)
  · have hi : i < es.toList.length := (List.getElem?_eq_some_iff.1 h2).1
    have hje : es[i]? = some e0 := by simpa using h2
    have hmi : m[i]? = some (e0.key, e0.val) := by rw [← hm, List.getElem?_map, h2]; rfl
    have hij : i = j := by
      obtain ⟨a1, a2⟩ := List.getElem?_eq_some_iff.1 hmi
      obtain ⟨b1, b2⟩ := List.getElem?_eq_some_iff.1 hj
      exact nodup_at hnd (i := i) (k := j) (by simpa using a1) (by simpa using b1) (by simp [a2, b2, h3])
    subst hij
    have hlist : (es.modify i (fun e' => { e' with key := key, val := v })).toList = es.toList.set i { e0 with key := key, val := v } := by rw [Array.toList_modify, modify_eq_set _ _ _ _ h2]
    have hmap : (es.modify i (fun e' => { e' with key := key, val := v })).toList.map (fun e => (e.key, e.val)) = m.set i (key, v) := by
      rw [hlist, List.map_set, hm]
    refine ⟨setBlock w b (.map (es.modify i (fun e' => { e' with key := key, val := v })) cl), ?_, ⟨_, _, heap_setBlock_same hb _, hmap, ?_, ?_⟩, ⟨rfl, rfl, rfl, by simp [setBlock], fun i _ hi => heap_setBlock_other hb _ (fun e => hi e)⟩⟩
    · simp [Instr.mapUpdate, run_underlying ht, MapKept.run_getObj_map hb, K.check w false hk, h1, hje, h3, K.stays w hk, MapKept.run_setObj_map _ hb, Result.andThen, setBlock]
    · intro p hp
      rcases List.mem_or_eq_of_mem_set hp with hp | rfl
      · exact hS p hp
      · exact hk
    · have : (m.set i (key, v)).map (·.1) = m.map (·.1) := by
        rw [List.map_set]
        apply List.ext_getElem?
        intro q
        rw [List.getElem?_set]
        split
        · subst q
          rw [List.getElem?_map, hj]
          simp [(List.getElem?_eq_some_iff.1 hj).1]
        · rfl
      rw [this]
      exact hnd
end

/-- 'm[k] = v' at the operation. -/
theorem wpl_push {P : Program} {w : World} {ops : Array Oper} {rest : List Oper} {o : Oper} {a : Act} {Q : Exit → Act → World → Prop} {k e t : TypeId} {S : Value → Prop} {b : Nat} {m : List (Value × Value)} (hg : o.guard = none) (mo x v : Operand) (hop : o.op = Op.mapUpdate t mo x v)
    (K : KeyOk P k S) (ht : P.underlying t = some (.map k e)) (h : MapAt S w b m) (hm : a.eval mo = .map (some b)) {key val : Value} (hx : a.eval x = key) (hv : a.eval v = val) (hk : S key) (hno : ∀ p ∈ m, p.1 ≠ key)
    (hK : ∀ w', MapAt S w' b (m ++ [(key, val)]) → Frm (One b) w w' → wpList P ops Q rest (a.put o.dst undef) w') : wpList P ops Q (o :: rest) a w := by
  refine wpList_plain hg fun K' hK' => ?_
  obtain ⟨w', hrun, r1, r2⟩ := h.push K ht hk hno val
  unfold Oper.wp
  simp [execOp, hop, hm, hx, hv, hrun, Result.andThen]
  exact hK' _ _ (hK w' r1 r2)
theorem wpl_put {P : Program} {w : World} {ops : Array Oper} {rest : List Oper} {o : Oper} {a : Act} {Q : Exit → Act → World → Prop} {k e t : TypeId} {S : Value → Prop} {b : Nat} {m : List (Value × Value)} (hg : o.guard = none) (mo x v : Operand) (hop : o.op = Op.mapUpdate t mo x v)
    (K : KeyOk P k S) (ht : P.underlying t = some (.map k e)) (h : MapAt S w b m) (hm : a.eval mo = .map (some b)) {key val v0 : Value} (hx : a.eval x = key) (hv : a.eval v = val) (hk : S key) {j : Nat} (hj : m[j]? = some (key, v0))
    (hK : ∀ w', MapAt S w' b (m.set j (key, val)) → Frm (One b) w w' → wpList P ops Q rest (a.put o.dst undef) w') : wpList P ops Q (o :: rest) a w := by
  refine wpList_plain hg fun K' hK' => ?_
  obtain ⟨w', hrun, r1, r2⟩ := h.put K ht hk hj val
  unfold Oper.wp
  simp [execOp, hop, hm, hx, hv, hrun, Result.andThen]
  exact hK' _ _ (hK w' r1 r2)
end Go.Proofs.Ytmkkeglcjbogcaa
