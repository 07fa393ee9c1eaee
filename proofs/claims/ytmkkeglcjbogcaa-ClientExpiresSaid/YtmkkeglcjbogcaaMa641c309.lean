/-
  Encode's walk: the whole.
-/
import Derived.Test.YtmkkeglcjbogcaaMbff6bff6
set_option linter.unusedVariables false
set_option linter.unusedSimpArgs false
namespace Go.Proofs.Ytmkkeglcjbogcaa
open Go.RowKit
set_option linter.unusedVariables false

/-- A place that can be. -/
def Rng (x : It) : Prop := 0 ≤ x.1 ∧ x.1 ≤ 65535 ∧ 0 ≤ x.2.1 ∧ x.2.1 ≤ 255
theorem leOf_succD (n : Int) (k : Nat) : leOf n (k + 1) = UInt8.ofNat (n % 256).toNat :: leOf (n / 256) k := rfl
theorem enc8_length (x : It) : (encIt8 x).length = 7 + x.2.2.length := by simp [encIt8, leOf_length]; omega
theorem enc8s_length (l : List It) (h : ∀ x ∈ l, x.2.2.length ≤ 65536) : (l.flatMap encIt8).length ≤ l.length * 65543 := by
  induction l with
  | nil => simp
  | cons x r ih =>
    have h1 := ih (fun y hy => h y (List.mem_cons_of_mem _ hy))
    have h2 := h x (by simp)
    rw [List.flatMap_cons, List.length_append, enc8_length, List.length_cons]
    omega
theorem encB_ofD (n : Int) (h0 : 0 ≤ n) (h1 : n ≤ 255) : encB (UInt8.ofNat n.toNat) = .int .u8 n := by
  have := encB_mod n
  rwa [Int.emod_eq_of_lt h0 (by omega)] at this
theorem enc8_cells (x : It) (h : Rng x) : (encIt8 x).map encB = #[.int .u8 (x.1 % 256), .int .u8 (x.1 / 256), .int .u8 x.2.1].toList ++ (((leOf x.2.2.length 4).map encB).toArray.toList ++ x.2.2.map encB) := by
  obtain ⟨h0, h1, h2, h3⟩ := h
  have e : x.1 / 256 % 256 = x.1 / 256 := by omega
  simp [e, encIt8, leOf_succD, encB_mod, encB_ofD _ h2 h3, leOf]
  exact encB_ofD _ (by omega) (by omega)

def EncOk (bs : List UInt8) (w : World) (e : Ending) (w' : World) : Prop := Frm (fun _ => False) w w' ∧ ∃ v, e = .returned (.tuple #[v, .int .i64 0]) ∧ Own8 w.heap.size w' v bs
def EncBad (w : World) (e : Ending) (w' : World) : Prop := Frm (fun _ => False) w w' ∧ e = .returned (.tuple #[.slice none 0 0, .int .i64 2])

set_option maxHeartbeats 1000000 in
theorem encode_long (v : Value) (xs : List Itm) (w : World) (h : ItemsAt w v xs) (hb : 1024 < xs.length ∨ ∃ x ∈ xs, 65536 < x.2.2.2.length) : Calls Try.prog 18 #[v] w (EncBad w) := by
  by_cases h1 : 1024 < xs.length
  · obtain ⟨A, cap, rfl, _⟩ := h.open_
    clear h hb
    go_enter Try.func18, Try.ntmps18
    go_wp2_with fail
    go_ret2
    exact ⟨Frm.refl _ _, rfl⟩
  · have H := Lib.hid (contI_yes v xs w h (hb.resolve_left h1))
    have h1' : xs.length ≤ 1024 := by omega
    obtain ⟨A, cap, rfl, _⟩ := h.open_
    clear h hb h1
    go_enter Try.func18, Try.ntmps18
    go_wp2_with (go_at_call 58; refine H.out.mono ?_; rintro e w' ⟨rfl, hF'⟩)
    go_ret2
    exact ⟨hF', rfl⟩

def EncRow (xs : List Itm) (k : Nat) : List UInt8 := leOf xs.length 4 ++ ((xs.take k).map bare).flatMap encIt8

set_option maxRecDepth 100000 in
set_option maxHeartbeats 2000000 in
theorem encode_any (v : Value) (xs : List Itm) (w : World) (h : ItemsAt w v xs) (hn : xs.length ≤ 1024) (hb : ∀ x ∈ xs, x.2.2.2.length ≤ 65536) (hr : ∀ x ∈ xs, Rng (bare x)) :
    Calls Try.prog 18 #[v] w (EncOk (encOf (xs.map bare)) w) := by
  have H := Lib.hid (contI_no v xs w h hb)
  have HI := Lib.hid h
  obtain ⟨A, cap, rfl, _, ho⟩ := h.open_
  have HO := Lib.hid ho
  have HB := Lib.hid hb
  have HR := Lib.hid hr
  have HL := Lib.hid (fun W => low32_any (xs.length : Int) W (by omega) (by omega))
  clear h ho hb hr
  go_enter Try.func18, Try.ntmps18
  go_wp2_with (first | (go_at_call 58; refine H.out.mono ?_; rintro e w1 ⟨rfl, hF1⟩) | (go_at_call 60; refine (HL.out _).mono ?_; rintro e w2 ⟨rfl, hw2⟩; subst w2))
  go_loopw [4, 19] (fun bv i wr => ∃ k : Nat, k ≤ xs.length ∧ i = .int .i64 k ∧ Own8 w.heap.size wr bv (EncRow xs k) ∧ Frm (fun _ => False) w wr) (fun _ i _ => xs.length - (intOf i).toNat)
  case atStart =>
    refine ⟨0, Nat.zero_le _, rfl, ?_, hF1.trans' (by (repeat' (first | (with_reducible exact Frm.refl _ _) | (with_reducible assumption) | (with_reducible refine Frm.alloc ?_ _) | (with_reducible refine Frm.drew ?_) | (with_reducible refine Frm.drewN ?_ _) | (with_reducible refine Frm.set1 ?_ _) | (with_reducible refine Frm.setCell ?_ ?_ _) | (exact fun h => absurd h (Nat.lt_irrefl _)) | (intro hlt; simp [World.size_alloc, One] at hlt ⊢; omega))))⟩
    have hl : EncRow xs 0 = leOf xs.length 4 := by simp [EncRow]
    rw [hl]
    unfold Own8
    rw [leOf_length]
    exact row_new rfl (by simp [leOf_length]) rfl (by decide) hF1.size
  case round =>
    clear hF1
    obtain ⟨k, hk, rfl, hO, hF⟩ := hrel
    by_cases hlt : k < xs.length
    · obtain ⟨g, off, Ab, cb, rfl, hxv, hml, c0, c1, c2⟩ := HO.out k hlt
      have d0 := hF.cell c0 (fun h => h)
      have d1 := hF.cell c1 (fun h => h)
      have d2 := hF.cell c2 (fun h => h)
      have hbk := HB.out _ (List.getElem_mem hlt)
      have hrk := HR.out _ (List.getElem_mem hlt)
      have hBA := HI.out.2 _ (List.getElem_mem hlt)
      rw [hxv] at hBA
      have hek : EncRow xs (k + 1) = EncRow xs k ++ encIt8 (bare xs[k]) := by
        unfold EncRow
        rw [List.take_succ_eq_append_getElem hlt, List.map_append, List.flatMap_append]
        simp
      have hel : (EncRow xs k).length ≤ 67117060 := by
        unfold EncRow
        rw [List.length_append, leOf_length]
        have := enc8s_length ((xs.take k).map bare) (fun y hy => by
          obtain ⟨z, hz, rfl⟩ := List.mem_map.1 hy
          exact HB.out z (List.mem_of_mem_take hz))
        rw [List.length_map, List.length_take] at this
        omega
      have HEK := Lib.hid hek
      clear c0 c1 c2 hxv hek
      generalize xs[k] = x at *
      obtain ⟨x0, x1, xv, xb⟩ := x
      simp only at d0 d1 d2 hml hbk hBA
      obtain ⟨A9, c9, e9, _, _, hnews⟩ := hBA.open_
      simp only [Value.slice.injEq] at e9
      obtain ⟨rfl, _, rfl⟩ := e9
      have HNEWS := Lib.hid hnews
      have hrk' := hrk
      obtain ⟨r0, r1, r2, r3⟩ := hrk'
      simp only [bare] at r0 r1 r2 r3
      have HRK := Lib.hid hrk
      obtain ⟨Al, cl, rfl, g3, g4, _⟩ := row_open hO
      have HROW := Lib.hid hO
      have HF := Lib.hid hF
      have hsz := hF.size
      have HL4 := Lib.hid (fun W => low32_any (xb.length : Int) W (by omega) (by omega))
      obtain ⟨m, hm⟩ : ∃ m, (EncRow xs k).length = m := ⟨_, rfl⟩
      unfold Own8 at HROW
      rw [hm] at HROW hel g3
      simp only [hm]
      have HM := Lib.hid hm
      have hm3 : m + 3 ≤ maxLen := by unfold maxLen; omega
      have hm4 : (m + 3) * 1 ≤ 140737488355328 := by omega
      have hm5 : m + 3 + 4 ≤ maxLen := by unfold maxLen; omega
      have hm6 : (m + 3 + 4) * 1 ≤ 140737488355328 := by omega
      have hm7 : m + 3 + 4 + xb.length ≤ maxLen := by unfold maxLen; omega
      have hm8 : (m + 3 + 4 + xb.length) * 1 ≤ 140737488355328 := by omega
      have HLEN : Hid ((xb.map encB).length = xb.length * 1) := by unfold Hid; simp
      have HONEB := Lib.hid (oneB xb)
      clear hF hO hBA hnews hm hrk hml
      go_upto_region 8 with (at_builtin; refine wpl_app rfl el_u8 (.tmp 23) (.tmp 33) rfl (B := w.heap.size) (e2 := 5) (fr := (0, 0)) (arr := #[.int .u8 (x0 % 256), .int .u8 (x0 / 256), .int .u8 x1]) rfl rfl (Frm.row (S := fun _ => False) (by (repeat' (first | (with_reducible exact Frm.refl _ _) | (with_reducible assumption) | (with_reducible refine Frm.alloc ?_ _) | (with_reducible refine Frm.drew ?_) | (with_reducible refine Frm.drewN ?_ _) | (with_reducible refine Frm.set1 ?_ _) | (with_reducible refine Frm.setCell ?_ ?_ _) | (exact fun h => absurd h (Nat.lt_irrefl _)) | (intro hlt; simp [World.size_alloc, One] at hlt ⊢; omega)))) HROW.out (fun _ _ h => h)) (heap_new_at (by simp)) rfl (by simp [Value.oneCell']) (by decide) hm3 hm4 (by simp; omega) ?_; intro g5 cap5 w5 hown5 hfr5 hat5 hlt5)
      have ht6 : w5.heap[wr.heap.size]? = some (.cells #[.int .u16 x0, .int .u8 x1, .slice Ab xb.length cb] 121 (0, 0)) := hfr5.heap (heap_alloc_old (heap_new _ _)) (fun hs => by
        obtain ⟨_, cur, hc⟩ := row_block HROW.out hs
        exact absurd (lt_of_block hc) (Nat.lt_irrefl _))
      have hF5 : Frm (fun j => (Value.slice Al m cl).ownBlock = some j) wr w5 := Frm.trans (b := _) (by (repeat' (first | (with_reducible exact Frm.refl _ _) | (with_reducible assumption) | (with_reducible refine Frm.alloc ?_ _) | (with_reducible refine Frm.drew ?_) | (with_reducible refine Frm.drewN ?_ _) | (with_reducible refine Frm.set1 ?_ _) | (with_reducible refine Frm.setCell ?_ ?_ _) | (exact fun h => absurd h (Nat.lt_irrefl _)) | (intro hlt; simp [World.size_alloc, One] at hlt ⊢; omega)))) hfr5 (fun _ _ h => h)
      have hF05 : Frm (fun _ => False) w w5 := HF.out.trans hF5 (fun i hi hs => absurd (row_block HROW.out hs).1 (by omega))
      have e2 : w5.cell? ⟨wr.heap.size, 2, none⟩ = some (.slice Ab xb.length cb) := cell_at ht6
      obtain ⟨hg5, cur5, hc5⟩ := row_block hown5 rfl
      have hne5 : g5 ≠ wr.heap.size := block_ne hc5 ht6 (by decide)
      have hsz5 := hF05.size
      have hlt6 := lt_of_block ht6
      have HT6 := Lib.hid ht6
      have HO5 := Lib.hid hown5
      have HF05 := Lib.hid hF05
      have HNE5 := Lib.hid hne5
      have HG5 := Lib.hid hg5
      clear ht6 hF5 hF05 hfr5 hown5 hc5 hne5 hat5 hg5
      go_region_law (first | (refine step_call 60 (by rfl) (by rfl) Try.func60 (by rfl) (by rfl) (by rfl) ((HL4.out _).mono ?_); rintro e w6 ⟨rfl, hw6⟩; subst w6; refine CallK.ret ?_) | (refine step_app (by rfl) el_u8 (.tmp 35) (.tmp 39) (by rfl) (by rfl) (by rfl) (B := w.heap.size) (arr := ((leOf (xb.length : Int) 4).map encB).toArray) (e2 := 5) (fr := (0, 0)) (Frm.row (S := fun _ => False) (w := w5) (by (repeat' (first | (with_reducible exact Frm.refl _ _) | (with_reducible assumption) | (with_reducible refine Frm.alloc ?_ _) | (with_reducible refine Frm.drew ?_) | (with_reducible refine Frm.drewN ?_ _) | (with_reducible refine Frm.set1 ?_ _) | (with_reducible refine Frm.setCell ?_ ?_ _) | (exact fun h => absurd h (Nat.lt_irrefl _)) | (intro hlt; simp [World.size_alloc, One] at hlt ⊢; omega)))) HO5.out (fun _ _ h => h)) (heap_new_at (by simp)) (by simp [leOf_length]) (by simpa using oneB _) (by decide) hm5 hm6 (by simp; omega) ?_; intro g6 cap6 w6 hown6 hfr6 hat6 hlt6; have HT66 := Lib.hid (hfr6.heap (heap_alloc_old HT6.out) (fun hs => HNE5.out (by cases hs; rfl))); have hlt66 := lt_of_block HT66.out; have e62 : w6.cell? ⟨wr.heap.size, 2, none⟩ = some (.slice Ab xb.length cb) := cell_at HT66.out; have HF06 : Hid (Frm (fun _ => False) w w6) := HF05.out.trans (Frm.trans (b := _) (by (repeat' (first | (with_reducible exact Frm.refl _ _) | (with_reducible assumption) | (with_reducible refine Frm.alloc ?_ _) | (with_reducible refine Frm.drew ?_) | (with_reducible refine Frm.drewN ?_ _) | (with_reducible refine Frm.set1 ?_ _) | (with_reducible refine Frm.setCell ?_ ?_ _) | (exact fun h => absurd h (Nat.lt_irrefl _)) | (intro hlt; simp [World.size_alloc, One] at hlt ⊢; omega)))) hfr6 (fun _ _ h => h)) (fun i hi hs => absurd HG5.out (by cases hs; omega)); have HO6 := Lib.hid hown6; have hsz6 := HF06.out.size; clear hown6 hfr6 hat6) | (refine step_app_src (by rfl) el_u8 (.tmp 40) (.tmp 42) (by rfl) (by rfl) (by rfl) (B := w.heap.size) (news := xb.map encB) HO6.out HLEN.out (fun h0 => (HNEWS.out h0).grow HF06.out) HONEB.out hm7 hm8 (by omega) ?_; intro A7 cap7 w7 hown7 hfr7))
      all_goals
        go_wp2_with fail
        go_roundw
        case rel =>
          refine ⟨k + 1, by omega, by go_num, ?_, HF06.out.trans hfr7 (fun i hi hs => ?_)⟩
          · unfold Own8
            rw [HEK.out, List.length_append, HM.out, enc8_length, List.map_append, enc8_cells _ HRK.out]
            simp only [bare]
            rw [show m + (7 + xb.length) = m + 3 + 4 + xb.length by omega]
            simpa only [List.append_assoc] using hown7
          · have := (row_block HO6.out hs).1
            omega
        case measure => simp [intOf]; omega
    · go_wp2_with fail
      go_ret2
      refine ⟨hF, _, rfl, ?_⟩
      obtain rfl : k = xs.length := by omega
      have : EncRow xs xs.length = encOf (xs.map bare) := by simp [EncRow, encOf]
      rw [← this]
      exact hO
end Go.Proofs.Ytmkkeglcjbogcaa
