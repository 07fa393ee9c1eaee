/-
  Items written: low32, Encode. Encode's walk. Encode's walk: the whole. Items in memory of their own; whether an item is written again.
-/
import Derived.Test.YtemjdmgfilbfaaaItB
import Derived.Deep.RegionLaw
import Derived.Deep.DeepCutAuto
namespace Go.Proofs.Ytemjdmgfilbfaaa
open Go.RowKit
set_option linter.unusedVariables false

set_option maxHeartbeats 1000000 in
theorem low32_any (n : Int) (w : World) (h0 : 0 ≤ n) (h1 : n ≤ 140737488351232) :
    Calls Try.prog 96 #[.int .i64 n] w fun e w' => e = .returned (.slice (some ⟨w.heap.size, 0, none⟩) 4 4) ∧ w' = w.alloc (.cells ((leOf n 4).map encB).toArray 5) := by
  go_enter Try.func96, Try.ntmps96
  go_wp2
  go_ret
  refine ⟨rfl, ?_⟩
  have e2 : n / 256 / 256 = n / 65536 := by omega
  have e3 : n / 65536 / 256 = n / 16777216 := by omega
  simp only [leOf, List.map_cons, List.map_nil, encB_mod, e2, e3]
end Go.Proofs.Ytemjdmgfilbfaaa
namespace Go.Proofs.Ytemjdmgfilbfaaa
open Go.RowKit
set_option linter.unusedVariables false

set_option maxHeartbeats 1000000 in
theorem enc1_any (i s : Int) (A : Option Addr) (n c : Nat) (w : World) (hn : n ≤ maxLen) :
    Calls Try.prog 95 #[.agg #[.int .u16 i, .int .u8 s, .slice A n c]] w fun e w' => e = .returned (.bool (decide (65536 < (n : Int)))) ∧ Frm (fun _ => False) w w' := by
  unfold maxLen at hn
  go_enter Try.func95, Try.ntmps95
  go_wp2_with fail
  go_ret
  exact ⟨rfl, by (repeat' (first | (with_reducible exact Frm.refl _ _) | (with_reducible assumption) | (with_reducible refine Frm.alloc ?_ _) | (with_reducible refine Frm.drew ?_) | (with_reducible refine Frm.drewN ?_ _) | (with_reducible refine Frm.set1 ?_ _) | (with_reducible refine Frm.setCell ?_ ?_ _) | (exact fun h => absurd h (Nat.lt_irrefl _)) | (intro hlt; simp [World.size_alloc, One] at hlt ⊢; omega)))⟩

def IdxNo (w : World) (e : Ending) (w' : World) : Prop := e = .returned (.int .i64 (-1)) ∧ Frm (fun _ => False) w w'
def IdxYes (w : World) (e : Ending) (w' : World) : Prop := (∃ k : Nat, k ≤ 9223372036854775807 ∧ e = .returned (.int .i64 k)) ∧ Frm (fun _ => False) w w'

set_option maxRecDepth 100000 in
set_option maxHeartbeats 1000000 in
theorem idxI_no (v : Value) (xs : List Itm) (w : World) (h : ItemsAt w v xs) (hb : ∀ x ∈ xs, x.2.2.2.length ≤ 65536) :
    Calls Try.prog 119 #[v, .func (.func 95) #[] #[]] w (IdxNo w) := by
  obtain ⟨A, cap, rfl, hm, ho⟩ := h.open_
  have HO := Lib.hid ho
  have HB := Lib.hid hb
  unfold maxLen at hm
  clear h ho hb
  go_enter Try.func119, Try.ntmps119
  go_wp2
  go_loopw [5, 8] (fun _ i wr => ∃ k : Nat, k ≤ xs.length ∧ i = .int .i64 k ∧ Frm (fun _ => False) w wr) (fun _ i _ => xs.length - (intOf i).toNat)
  case atStart => exact ⟨0, Nat.zero_le _, rfl, Frm.refl _ _⟩
  case round =>
    obtain ⟨k, hk, rfl, hF⟩ := hrel
    by_cases hlt : k < xs.length
    · obtain ⟨g, off, Ab, cb, rfl, _, hml, c0, c1, c2⟩ := HO.out k hlt
      have d0 := hF.cell c0 (fun h => h)
      have d1 := hF.cell c1 (fun h => h)
      have d2 := hF.cell c2 (fun h => h)
      have hbk := HB.out _ (List.getElem_mem hlt)
      clear c0 c1 c2
      generalize xs[k] = x at *
      obtain ⟨x0, x1, xv, xb⟩ := x
      simp only at d0 d1 d2 hml hbk
      have HF := Lib.hid hF
      have hdec : decide (65536 < (xb.length : Int)) = false := by simp; omega
      have H1 := Lib.hid (fun W => enc1_any x0 x1 Ab xb.length cb W hml)
      rw [hdec] at H1
      clear hF hdec
      go_wp2_with (go_at_call 95; refine (H1.out _).mono ?_; rintro e w' ⟨rfl, hF'⟩)
      go_roundw
      case rel => exact ⟨k + 1, by omega, by go_num, HF.out.trans' hF'⟩
      case measure => simp [intOf]; omega
    · go_wp2
      go_ret
      exact ⟨rfl, hF⟩
set_option maxRecDepth 100000 in
set_option maxHeartbeats 1000000 in
theorem idxI_yes (v : Value) (xs : List Itm) (w : World) (h : ItemsAt w v xs) (hb : ∃ x ∈ xs, 65536 < x.2.2.2.length) :
    Calls Try.prog 119 #[v, .func (.func 95) #[] #[]] w (IdxYes w) := by
  obtain ⟨A, cap, rfl, hm, ho⟩ := h.open_
  obtain ⟨x, hx, hx2⟩ := hb
  obtain ⟨q, hq, rfl⟩ := List.getElem_of_mem hx
  have HO := Lib.hid ho
  have HX := Lib.hid hx2
  unfold maxLen at hm
  clear h ho hx hx2
  go_enter Try.func119, Try.ntmps119
  go_wp2
  go_loopw [5, 8] (fun _ i wr => ∃ k : Nat, k ≤ q ∧ i = .int .i64 k ∧ Frm (fun _ => False) w wr) (fun _ i _ => xs.length - (intOf i).toNat)
  case atStart => exact ⟨0, Nat.zero_le _, rfl, Frm.refl _ _⟩
  case round =>
    obtain ⟨k, hk, rfl, hF⟩ := hrel
    have hlt : k < xs.length := by omega
    obtain ⟨g, off, Ab, cb, rfl, _, hml, c0, c1, c2⟩ := HO.out k hlt
    have d0 := hF.cell c0 (fun h => h)
    have d1 := hF.cell c1 (fun h => h)
    have d2 := hF.cell c2 (fun h => h)
    have hkq : k < q ∨ 65536 < xs[k].2.2.2.length := by
      rcases Nat.lt_or_ge k q with h | h
      · exact .inl h
      · obtain rfl : k = q := by omega
        exact .inr HX.out
    clear c0 c1 c2
    generalize xs[k] = x at *
    obtain ⟨x0, x1, xv, xb⟩ := x
    simp only at d0 d1 d2 hml hkq
    have HF := Lib.hid hF
    have H1 := Lib.hid (fun W => enc1_any x0 x1 Ab xb.length cb W hml)
    clear hF
    by_cases hl : 65536 < xb.length
    · have hdec : decide (65536 < (xb.length : Int)) = true := by simp; omega
      rw [hdec] at H1
      clear hdec hkq
      go_wp2_with (go_at_call 95; refine (H1.out _).mono ?_; rintro e w' ⟨rfl, hF'⟩)
      go_ret
      exact ⟨⟨k, by omega, rfl⟩, HF.out.trans' hF'⟩
    · have hdec : decide (65536 < (xb.length : Int)) = false := by simp; omega
      rw [hdec] at H1
      clear hdec
      have hkq' : k < q := by omega
      clear hkq
      go_wp2_with (go_at_call 95; refine (H1.out _).mono ?_; rintro e w' ⟨rfl, hF'⟩)
      go_roundw
      case rel => exact ⟨k + 1, by omega, by go_num, HF.out.trans' hF'⟩
      case measure => simp [intOf]; omega

set_option maxHeartbeats 1000000 in
theorem contI_no (v : Value) (xs : List Itm) (w : World) (h : ItemsAt w v xs) (hb : ∀ x ∈ xs, x.2.2.2.length ≤ 65536) :
    Calls Try.prog 94 #[v, .func (.func 95) #[] #[]] w fun e w' => e = .returned (.bool false) ∧ Frm (fun _ => False) w w' := by
  have H := Lib.hid (idxI_no v xs w h hb)
  obtain ⟨A, cap, rfl, _⟩ := h.open_
  clear h hb
  go_enter Try.func94, Try.ntmps94
  go_wp2_with (go_at_call 119; refine H.out.mono ?_; rintro e w' ⟨rfl, hF'⟩)
  go_ret
  exact ⟨rfl, hF'⟩
set_option maxHeartbeats 1000000 in
theorem contI_yes (v : Value) (xs : List Itm) (w : World) (h : ItemsAt w v xs) (hb : ∃ x ∈ xs, 65536 < x.2.2.2.length) :
    Calls Try.prog 94 #[v, .func (.func 95) #[] #[]] w fun e w' => e = .returned (.bool true) ∧ Frm (fun _ => False) w w' := by
  have H := Lib.hid (idxI_yes v xs w h hb)
  obtain ⟨A, cap, rfl, _⟩ := h.open_
  clear h hb
  go_enter Try.func94, Try.ntmps94
  go_wp2_with (go_at_call 119; refine H.out.mono ?_; rintro e w' ⟨⟨k, hk, rfl⟩, hF'⟩)
  go_ret
  exact ⟨rfl, hF'⟩

end Go.Proofs.Ytemjdmgfilbfaaa
namespace Go.Proofs.Ytemjdmgfilbfaaa
open Go.RowKit
set_option linter.unusedVariables false

/-- A place that can be. -/
def Rng (x : It) : Prop := 0 ≤ x.1 ∧ x.1 ≤ 65535 ∧ 0 ≤ x.2.1 ∧ x.2.1 ≤ 255
theorem leOf_succD (n : Int) (k : Nat) : leOf n (k + 1) = UInt8.ofNat (n % 256).toNat :: leOf (n / 256) k := rfl
theorem enc8_length (x : It) : (encIt8 x).length = 7 + x.2.2.length := by simp [encIt8, leOf_length]; omega
theorem enc8s_length (l : List It) (h : ∀ x ∈ l, x.2.2.length ≤ 65536) : (l.flatMap encIt8).length ≤ l.length * 65543 := by
  induction l with
  | nil => simp
  | cons x r ih =>
    have h1 := ih (fun y hy => h y (List.mem_cons_of_mem _ hy))
    have h2 := h x (by simp)
    rw [List.flatMap_cons, List.length_append, enc8_length, List.length_cons]
    omega
theorem encB_ofD (n : Int) (h0 : 0 ≤ n) (h1 : n ≤ 255) : encB (UInt8.ofNat n.toNat) = .int .u8 n := by
  have := encB_mod n
  rwa [Int.emod_eq_of_lt h0 (by omega)] at this
theorem enc8_cells (x : It) (h : Rng x) : (encIt8 x).map encB = #[.int .u8 (x.1 % 256), .int .u8 (x.1 / 256), .int .u8 x.2.1].toList ++ (((leOf x.2.2.length 4).map encB).toArray.toList ++ x.2.2.map encB) := by
  obtain ⟨h0, h1, h2, h3⟩ := h
  have e : x.1 / 256 % 256 = x.1 / 256 := by omega
  simp [e, encIt8, leOf_succD, encB_mod, encB_ofD _ h2 h3, leOf]
  exact encB_ofD _ (by omega) (by omega)

def EncOk (bs : List UInt8) (w : World) (e : Ending) (w' : World) : Prop := Frm (fun _ => False) w w' ∧ ∃ v, e = .returned (.tuple #[v, .int .i64 0]) ∧ Own8 w.heap.size w' v bs
def EncBad (w : World) (e : Ending) (w' : World) : Prop := Frm (fun _ => False) w w' ∧ e = .returned (.tuple #[.slice none 0 0, .int .i64 2])

set_option maxHeartbeats 1000000 in
theorem encode_long (v : Value) (xs : List Itm) (w : World) (h : ItemsAt w v xs) (hb : 1024 < xs.length ∨ ∃ x ∈ xs, 65536 < x.2.2.2.length) : Calls Try.prog 70 #[v] w (EncBad w) := by
  by_cases h1 : 1024 < xs.length
  · obtain ⟨A, cap, rfl, _⟩ := h.open_
    clear h hb
    go_enter Try.func70, Try.ntmps70
    go_wp2_with fail
    go_ret2
    exact ⟨Frm.refl _ _, rfl⟩
  · have H := Lib.hid (contI_yes v xs w h (hb.resolve_left h1))
    have h1' : xs.length ≤ 1024 := by omega
    obtain ⟨A, cap, rfl, _⟩ := h.open_
    clear h hb h1
    go_enter Try.func70, Try.ntmps70
    go_wp2_with (go_at_call 94; refine H.out.mono ?_; rintro e w' ⟨rfl, hF'⟩)
    go_ret2
    exact ⟨hF', rfl⟩

def EncRow (xs : List Itm) (k : Nat) : List UInt8 := leOf xs.length 4 ++ ((xs.take k).map bare).flatMap encIt8

set_option maxRecDepth 100000 in
set_option maxHeartbeats 2000000 in
theorem encode_any (v : Value) (xs : List Itm) (w : World) (h : ItemsAt w v xs) (hn : xs.length ≤ 1024) (hb : ∀ x ∈ xs, x.2.2.2.length ≤ 65536) (hr : ∀ x ∈ xs, Rng (bare x)) :
    Calls Try.prog 70 #[v] w (EncOk (encOf (xs.map bare)) w) := by
  have H := Lib.hid (contI_no v xs w h hb)
  have HI := Lib.hid h
  obtain ⟨A, cap, rfl, _, ho⟩ := h.open_
  have HO := Lib.hid ho
  have HB := Lib.hid hb
  have HR := Lib.hid hr
  have HL := Lib.hid (fun W => low32_any (xs.length : Int) W (by omega) (by omega))
  clear h ho hb hr
  go_enter Try.func70, Try.ntmps70
  go_wp2_with (first | (go_at_call 94; refine H.out.mono ?_; rintro e w1 ⟨rfl, hF1⟩) | (go_at_call 96; refine (HL.out _).mono ?_; rintro e w2 ⟨rfl, hw2⟩; subst w2))
  go_loopw [4, 19] (fun bv i wr => ∃ k : Nat, k ≤ xs.length ∧ i = .int .i64 k ∧ Own8 w.heap.size wr bv (EncRow xs k) ∧ Frm (fun _ => False) w wr) (fun _ i _ => xs.length - (intOf i).toNat)
  case atStart =>
    refine ⟨0, Nat.zero_le _, rfl, ?_, hF1.trans' (by (repeat' (first | (with_reducible exact Frm.refl _ _) | (with_reducible assumption) | (with_reducible refine Frm.alloc ?_ _) | (with_reducible refine Frm.drew ?_) | (with_reducible refine Frm.drewN ?_ _) | (with_reducible refine Frm.set1 ?_ _) | (with_reducible refine Frm.setCell ?_ ?_ _) | (exact fun h => absurd h (Nat.lt_irrefl _)) | (intro hlt; simp [World.size_alloc, One] at hlt ⊢; omega))))⟩
    have hl : EncRow xs 0 = leOf xs.length 4 := by simp [EncRow]
    rw [hl]
    unfold Own8
    rw [leOf_length]
    exact row_new rfl (by simp [leOf_length]) rfl (by decide) hF1.size
  case round =>
    clear hF1
    obtain ⟨k, hk, rfl, hO, hF⟩ := hrel
    by_cases hlt : k < xs.length
    · obtain ⟨g, off, Ab, cb, rfl, hxv, hml, c0, c1, c2⟩ := HO.out k hlt
      have d0 := hF.cell c0 (fun h => h)
      have d1 := hF.cell c1 (fun h => h)
      have d2 := hF.cell c2 (fun h => h)
      have hbk := HB.out _ (List.getElem_mem hlt)
      have hrk := HR.out _ (List.getElem_mem hlt)
      have hBA := HI.out.2 _ (List.getElem_mem hlt)
      rw [hxv] at hBA
      have hek : EncRow xs (k + 1) = EncRow xs k ++ encIt8 (bare xs[k]) := by
        unfold EncRow
        rw [List.take_succ_eq_append_getElem hlt, List.map_append, List.flatMap_append]
        simp
      have hel : (EncRow xs k).length ≤ 67117060 := by
        unfold EncRow
        rw [List.length_append, leOf_length]
        have := enc8s_length ((xs.take k).map bare) (fun y hy => by
          obtain ⟨z, hz, rfl⟩ := List.mem_map.1 hy
          exact HB.out z (List.mem_of_mem_take hz))
        rw [List.length_map, List.length_take] at this
        omega
      have HEK := Lib.hid hek
      clear c0 c1 c2 hxv hek
      generalize xs[k] = x at *
      obtain ⟨x0, x1, xv, xb⟩ := x
      simp only at d0 d1 d2 hml hbk hBA
      obtain ⟨A9, c9, e9, _, _, hnews⟩ := hBA.open_
      simp only [Value.slice.injEq] at e9
      obtain ⟨rfl, _, rfl⟩ := e9
      have HNEWS := Lib.hid hnews
      have hrk' := hrk
      obtain ⟨r0, r1, r2, r3⟩ := hrk'
      simp only [bare] at r0 r1 r2 r3
      have HRK := Lib.hid hrk
      obtain ⟨Al, cl, rfl, g3, g4, _⟩ := row_open hO
      have HROW := Lib.hid hO
      have HF := Lib.hid hF
      have hsz := hF.size
      have HL4 := Lib.hid (fun W => low32_any (xb.length : Int) W (by omega) (by omega))
      obtain ⟨m, hm⟩ : ∃ m, (EncRow xs k).length = m := ⟨_, rfl⟩
      unfold Own8 at HROW
      rw [hm] at HROW hel g3
      simp only [hm]
      have HM := Lib.hid hm
      have hm3 : m + 3 ≤ maxLen := by unfold maxLen; omega
      have hm4 : (m + 3) * 1 ≤ 140737488355328 := by omega
      have hm5 : m + 3 + 4 ≤ maxLen := by unfold maxLen; omega
      have hm6 : (m + 3 + 4) * 1 ≤ 140737488355328 := by omega
      have hm7 : m + 3 + 4 + xb.length ≤ maxLen := by unfold maxLen; omega
      have hm8 : (m + 3 + 4 + xb.length) * 1 ≤ 140737488355328 := by omega
      have HLEN : Hid ((xb.map encB).length = xb.length * 1) := by unfold Hid; simp
      have HONEB := Lib.hid (oneB xb)
      clear hF hO hBA hnews hm hrk hml
      go_upto_region 8 with (at_builtin; refine wpl_app rfl el_u8 (.tmp 23) (.tmp 33) rfl (B := w.heap.size) (e2 := 5) (fr := (0, 0)) (arr := #[.int .u8 (x0 % 256), .int .u8 (x0 / 256), .int .u8 x1]) rfl rfl (Frm.row (S := fun _ => False) (by (repeat' (first | (with_reducible exact Frm.refl _ _) | (with_reducible assumption) | (with_reducible refine Frm.alloc ?_ _) | (with_reducible refine Frm.drew ?_) | (with_reducible refine Frm.drewN ?_ _) | (with_reducible refine Frm.set1 ?_ _) | (with_reducible refine Frm.setCell ?_ ?_ _) | (exact fun h => absurd h (Nat.lt_irrefl _)) | (intro hlt; simp [World.size_alloc, One] at hlt ⊢; omega)))) HROW.out (fun _ _ h => h)) (heap_new_at (by simp)) rfl (by simp [Value.oneCell']) (by decide) hm3 hm4 (by simp; omega) ?_; intro g5 cap5 w5 hown5 hfr5 hat5 hlt5)
      have ht6 : w5.heap[wr.heap.size]? = some (.cells #[.int .u16 x0, .int .u8 x1, .slice Ab xb.length cb] 126 (0, 0)) := hfr5.heap (heap_alloc_old (heap_new _ _)) (fun hs => by
        obtain ⟨_, cur, hc⟩ := row_block HROW.out hs
        exact absurd (lt_of_block hc) (Nat.lt_irrefl _))
      have hF5 : Frm (fun j => (Value.slice Al m cl).ownBlock = some j) wr w5 := Frm.trans (b := _) (by (repeat' (first | (with_reducible exact Frm.refl _ _) | (with_reducible assumption) | (with_reducible refine Frm.alloc ?_ _) | (with_reducible refine Frm.drew ?_) | (with_reducible refine Frm.drewN ?_ _) | (with_reducible refine Frm.set1 ?_ _) | (with_reducible refine Frm.setCell ?_ ?_ _) | (exact fun h => absurd h (Nat.lt_irrefl _)) | (intro hlt; simp [World.size_alloc, One] at hlt ⊢; omega)))) hfr5 (fun _ _ h => h)
      have hF05 : Frm (fun _ => False) w w5 := HF.out.trans hF5 (fun i hi hs => absurd (row_block HROW.out hs).1 (by omega))
      have e2 : w5.cell? ⟨wr.heap.size, 2, none⟩ = some (.slice Ab xb.length cb) := cell_at ht6
      obtain ⟨hg5, cur5, hc5⟩ := row_block hown5 rfl
      have hne5 : g5 ≠ wr.heap.size := block_ne hc5 ht6 (by decide)
      have hsz5 := hF05.size
      have hlt6 := lt_of_block ht6
      have HT6 := Lib.hid ht6
      have HO5 := Lib.hid hown5
      have HF05 := Lib.hid hF05
      have HNE5 := Lib.hid hne5
      have HG5 := Lib.hid hg5
      clear ht6 hF5 hF05 hfr5 hown5 hc5 hne5 hat5 hg5
      go_region_law (first | (refine step_call 96 (by rfl) (by rfl) Try.func96 (by rfl) (by rfl) (by rfl) ((HL4.out _).mono ?_); rintro e w6 ⟨rfl, hw6⟩; subst w6; refine CallK.ret ?_) | (refine step_app (by rfl) el_u8 (.tmp 35) (.tmp 39) (by rfl) (by rfl) (by rfl) (B := w.heap.size) (arr := ((leOf (xb.length : Int) 4).map encB).toArray) (e2 := 5) (fr := (0, 0)) (Frm.row (S := fun _ => False) (w := w5) (by (repeat' (first | (with_reducible exact Frm.refl _ _) | (with_reducible assumption) | (with_reducible refine Frm.alloc ?_ _) | (with_reducible refine Frm.drew ?_) | (with_reducible refine Frm.drewN ?_ _) | (with_reducible refine Frm.set1 ?_ _) | (with_reducible refine Frm.setCell ?_ ?_ _) | (exact fun h => absurd h (Nat.lt_irrefl _)) | (intro hlt; simp [World.size_alloc, One] at hlt ⊢; omega)))) HO5.out (fun _ _ h => h)) (heap_new_at (by simp)) (by simp [leOf_length]) (by simpa using oneB _) (by decide) hm5 hm6 (by simp; omega) ?_; intro g6 cap6 w6 hown6 hfr6 hat6 hlt6; have HT66 := Lib.hid (hfr6.heap (heap_alloc_old HT6.out) (fun hs => HNE5.out (by cases hs; rfl))); have hlt66 := lt_of_block HT66.out; have e62 : w6.cell? ⟨wr.heap.size, 2, none⟩ = some (.slice Ab xb.length cb) := cell_at HT66.out; have HF06 : Hid (Frm (fun _ => False) w w6) := HF05.out.trans (Frm.trans (b := _) (by (repeat' (first | (with_reducible exact Frm.refl _ _) | (with_reducible assumption) | (with_reducible refine Frm.alloc ?_ _) | (with_reducible refine Frm.drew ?_) | (with_reducible refine Frm.drewN ?_ _) | (with_reducible refine Frm.set1 ?_ _) | (with_reducible refine Frm.setCell ?_ ?_ _) | (exact fun h => absurd h (Nat.lt_irrefl _)) | (intro hlt; simp [World.size_alloc, One] at hlt ⊢; omega)))) hfr6 (fun _ _ h => h)) (fun i hi hs => absurd HG5.out (by cases hs; omega)); have HO6 := Lib.hid hown6; have hsz6 := HF06.out.size; clear hown6 hfr6 hat6) | (refine step_app_src (by rfl) el_u8 (.tmp 40) (.tmp 42) (by rfl) (by rfl) (by rfl) (B := w.heap.size) (news := xb.map encB) HO6.out HLEN.out (fun h0 => (HNEWS.out h0).grow HF06.out) HONEB.out hm7 hm8 (by omega) ?_; intro A7 cap7 w7 hown7 hfr7))
      all_goals
        go_wp2_with fail
        go_roundw
        case rel =>
          refine ⟨k + 1, by omega, by go_num, ?_, HF06.out.trans hfr7 (fun i hi hs => ?_)⟩
          · unfold Own8
            rw [HEK.out, List.length_append, HM.out, enc8_length, List.map_append, enc8_cells _ HRK.out]
            simp only [bare]
            rw [show m + (7 + xb.length) = m + 3 + 4 + xb.length by omega]
            simpa only [List.append_assoc] using hown7
          · have := (row_block HO6.out hs).1
            omega
        case measure => simp [intOf]; omega
    · go_wp2_with fail
      go_ret2
      refine ⟨hF, _, rfl, ?_⟩
      obtain rfl : k = xs.length := by omega
      have : EncRow xs xs.length = encOf (xs.map bare) := by simp [EncRow, encOf]
      rw [← this]
      exact hO
end Go.Proofs.Ytemjdmgfilbfaaa
namespace Go.Proofs.Ytemjdmgfilbfaaa
open Go.RowKit
set_option linter.unusedVariables false

def OwnPost (xs : List Itm) (w : World) (e : Ending) (w' : World) : Prop := Frm (fun _ => False) w w' ∧ ∃ v ys, e = .returned v ∧ ys.map bare = xs.map bare ∧ ItemsRow w.heap.size w' v ys

set_option maxRecDepth 100000 in
set_option maxHeartbeats 2000000 in
theorem own_any (v : Value) (xs : List Itm) (w : World) (h : ItemsAt w v xs) (hl : xs.length * 32 ≤ 140737488351232) (hb : ∀ x ∈ xs, x.2.2.2.length ≤ 140737488351232) :
    Calls Try.prog 35 #[v] w (OwnPost xs w) := by
  have HI := Lib.hid h
  obtain ⟨A, cap, rfl, _, ho⟩ := h.open_
  have HO := Lib.hid ho
  have HB := Lib.hid hb
  clear h ho hb
  go_enter Try.func35, Try.ntmps35
  go_wp2_with fail
  go_loopw [3, 4] (fun bv i wr => ∃ (k : Nat) (ys : List Itm), k ≤ xs.length ∧ i = .int .i64 k ∧ ys.length = k ∧ ys.map bare = (xs.take k).map bare ∧ ItemsRow w.heap.size wr bv ys ∧ Frm (fun _ => False) w wr) (fun _ i _ => xs.length - (intOf i).toNat)
  case atStart => exact ⟨0, [], Nat.zero_le _, rfl, rfl, by simp, ⟨row_new rfl rfl rfl (by decide) (Nat.le_refl _), fun x hx => by cases hx⟩, by (repeat' (first | (with_reducible exact Frm.refl _ _) | (with_reducible assumption) | (with_reducible refine Frm.alloc ?_ _) | (with_reducible refine Frm.drew ?_) | (with_reducible refine Frm.drewN ?_ _) | (with_reducible refine Frm.set1 ?_ _) | (with_reducible refine Frm.setCell ?_ ?_ _) | (exact fun h => absurd h (Nat.lt_irrefl _)) | (intro hlt; simp [World.size_alloc, One] at hlt ⊢; omega)))⟩
  case round =>
    obtain ⟨k, ys, hk, rfl, hyl, hyb, hY, hF⟩ := hrel
    by_cases hlt : k < xs.length
    · obtain ⟨g, off, Ab, cb, rfl, hxv, hml, c0, c1, c2⟩ := HO.out k hlt
      have d0 := hF.cell c0 (fun h => h)
      have d1 := hF.cell c1 (fun h => h)
      have d2 := hF.cell c2 (fun h => h)
      have hbk := HB.out _ (List.getElem_mem hlt)
      have hBA := HI.out.2 _ (List.getElem_mem hlt)
      rw [hxv] at hBA
      have hek := List.take_succ_eq_append_getElem hlt
      have HEK := Lib.hid hek
      clear c0 c1 c2 hxv hek
      generalize xs[k] = x at *
      obtain ⟨x0, x1, xv, xb⟩ := x
      simp only at d0 d1 d2 hml hbk hBA
      obtain ⟨A9, c9, e9, _, _, hnews⟩ := hBA.open_
      simp only [Value.slice.injEq] at e9
      obtain ⟨rfl, _, rfl⟩ := e9
      have HNEWS := Lib.hid hnews
      obtain ⟨Al, cl, rfl, g3, g4, _⟩ := row_open hY.1
      have HY := Lib.hid hY
      have HYB := Lib.hid hyb
      have HYL := Lib.hid hyl
      have HROW := Lib.hid hY.1
      have HF := Lib.hid hF
      have hsz := hF.size
      have hm1 : xb.length ≤ maxLen := by unfold maxLen; omega
      have hm2 : xb.length * 1 ≤ 140737488355328 := by omega
      have hm3 : ys.length + 1 ≤ maxLen := by unfold maxLen; omega
      have hm4 : (ys.length + 1) * 32 ≤ 140737488355328 := by omega
      have HLEN : Hid ((xb.map encB).length = xb.length * 1) := by unfold Hid; simp
      have HONEB := Lib.hid (oneB xb)
      have hempty : Hid (((wr.alloc (.cells #[.int .u16 x0, .int .u8 x1, .slice Ab xb.length cb] 126)).alloc (.cells #[] 5)).ownsRow w.heap.size 5 1 (.slice (some ⟨wr.heap.size + 1, 0, none⟩) 0 0) 0 []) := row_new (by simp) rfl rfl (by decide) (by simp; omega)
      clear hF hY hBA hnews hyb hyl hml
      go_upto_region 7 with (at_builtin; go_loud (refine wpl_clone rfl el_u8 (.tmp 17) (.tmp 19) rfl (B := w.heap.size) (news := xb.map encB) rfl rfl hempty.out HLEN.out (fun h0 => (HNEWS.out h0).grow (HF.out.trans' (by (repeat' (first | (with_reducible exact Frm.refl _ _) | (with_reducible assumption) | (with_reducible refine Frm.alloc ?_ _) | (with_reducible refine Frm.drew ?_) | (with_reducible refine Frm.drewN ?_ _) | (with_reducible refine Frm.set1 ?_ _) | (with_reducible refine Frm.setCell ?_ ?_ _) | (exact fun h => absurd h (Nat.lt_irrefl _)) | (intro hlt; simp [World.size_alloc, One] at hlt ⊢; omega)))))) HONEB.out hm1 hm2 (by simp; omega) ?_; intro A3 cap3 w3 hown3 hfr3; have hF3 : Frm (fun _ => False) wr w3 := (Frm.trans (b := _) (by (repeat' (first | (with_reducible exact Frm.refl _ _) | (with_reducible assumption) | (with_reducible refine Frm.alloc ?_ _) | (with_reducible refine Frm.drew ?_) | (with_reducible refine Frm.drewN ?_ _) | (with_reducible refine Frm.set1 ?_ _) | (with_reducible refine Frm.setCell ?_ ?_ _) | (exact fun h => absurd h (Nat.lt_irrefl _)) | (intro hlt; simp [World.size_alloc, One] at hlt ⊢; omega)))) hfr3 (fun i hi h => absurd (Option.some.inj h) (by simp only; omega))); have ht5 : w3.heap[wr.heap.size]? = some (.cells #[.int .u16 x0, .int .u8 x1, .slice Ab xb.length cb] 126 (0, 0)) := (hfr3.heap (heap_alloc_old (heap_new _ _)) (fun h => absurd (Option.some.inj h) (by simp only; omega))); have hft5 := frees ht5; have e0 := cell_at (o := 0) ht5; have e1 := cell_at (o := 1) ht5; have e2 := cell_at (o := 2) ht5))
      have HF3 := Lib.hid hF3
      have HO3 := Lib.hid hown3
      have hz3 := hF3.size
      have hlt5 := lt_of_block ht5
      have HT5 := Lib.hid ht5
      clear hfr3 hF3 hown3 ht5
      go_wp2_with (at_builtin; go_loud (refine wpl_app rfl el_Item (.tmp 22) (.tmp 24) rfl (B := w.heap.size) (e2 := 126) (fr := (0, 0)) (arr := #[.int .u16 x0, .int .u8 x1, .slice A3 xb.length cap3]) rfl rfl (Frm.row (S := fun _ => False) (w := wr) (by have hF3 := HF3.out; (repeat' (first | (with_reducible exact Frm.refl _ _) | (with_reducible assumption) | (with_reducible refine Frm.alloc ?_ _) | (with_reducible refine Frm.drew ?_) | (with_reducible refine Frm.drewN ?_ _) | (with_reducible refine Frm.set1 ?_ _) | (with_reducible refine Frm.setCell ?_ ?_ _) | (exact fun h => absurd h (Nat.lt_irrefl _)) | (intro hlt; simp [World.size_alloc, One] at hlt ⊢; omega)))) HROW.out (fun _ _ h => h)) (heap_new_at (by simp)) rfl (by simp [Value.oneCell']) (by decide) hm3 hm4 (by simp; omega) ?_; intro g5 cap5 w5 hown5 hfr5 hat5 hlt5))
      go_roundw
      case rel =>
        have hF3 := HF3.out
        have hno : ∀ q, q < w.heap.size → ¬ (Value.slice Al ys.length cl).ownBlock = some q := fun q hq hs => by
          have := (row_block HROW.out hs).1
          omega
        have hF3x : Frm (fun j => j = wr.heap.size) w3 (w3.setCell ⟨wr.heap.size, 2, none⟩ (.slice A3 xb.length cap3)) := (Frm.refl (fun j => j = wr.heap.size) w3).setCell (p := ⟨wr.heap.size, 2, none⟩) (fun _ => rfl) _
        have hO3x := Frm.row hF3x HO3.out (fun j hj e => by
          obtain ⟨_, cur, hc⟩ := row_block HO3.out hj
          rw [e] at hc
          exact block_ne hc HT5.out (by decide) rfl)
        refine ⟨k + 1, ys ++ [(x0, x1, .slice A3 xb.length cap3, xb)], by omega, by go_num, by simp [HYL.out], ?_, ?_, ?_⟩
        · rw [HEK.out, List.map_append, List.map_append, HYB.out]; rfl
        · refine ItemsRow.push (w := w3.setCell ⟨wr.heap.size, 2, none⟩ (.slice A3 xb.length cap3)) (HY.out.grow (by (repeat' (first | (with_reducible exact Frm.refl _ _) | (with_reducible assumption) | (with_reducible refine Frm.alloc ?_ _) | (with_reducible refine Frm.drew ?_) | (with_reducible refine Frm.drewN ?_ _) | (with_reducible refine Frm.set1 ?_ _) | (with_reducible refine Frm.setCell ?_ ?_ _) | (exact fun h => absurd h (Nat.lt_irrefl _)) | (intro hlt; simp [World.size_alloc, One] at hlt ⊢; omega))))) _ hO3x (Frm.trans (b := _) (by (repeat' (first | (with_reducible exact Frm.refl _ _) | (with_reducible assumption) | (with_reducible refine Frm.alloc ?_ _) | (with_reducible refine Frm.drew ?_) | (with_reducible refine Frm.drewN ?_ _) | (with_reducible refine Frm.set1 ?_ _) | (with_reducible refine Frm.setCell ?_ ?_ _) | (exact fun h => absurd h (Nat.lt_irrefl _)) | (intro hlt; simp [World.size_alloc, One] at hlt ⊢; omega)))) hfr5 (fun _ _ h => h)) rfl hown5
        · exact (HF.out.trans' (by (repeat' (first | (with_reducible exact Frm.refl _ _) | (with_reducible assumption) | (with_reducible refine Frm.alloc ?_ _) | (with_reducible refine Frm.drew ?_) | (with_reducible refine Frm.drewN ?_ _) | (with_reducible refine Frm.set1 ?_ _) | (with_reducible refine Frm.setCell ?_ ?_ _) | (exact fun h => absurd h (Nat.lt_irrefl _)) | (intro hlt; simp [World.size_alloc, One] at hlt ⊢; omega))))).trans hfr5 (fun i hi hs => hno i hi hs)
      case measure => simp [intOf]; omega
    · go_wp2_with fail
      go_ret
      refine ⟨hF, _, ys, rfl, ?_, hY⟩
      rw [hyb, List.take_of_length_le (by omega)]
end Go.Proofs.Ytemjdmgfilbfaaa
