/-
  Encode's walk.
-/
import Derived.Test.YtjjmkpjclhielaaDcfE
import Derived.Deep.RegionLaw
import Derived.Deep.DeepCutAuto
namespace Go.Proofs.Ytjjmkpjclhielaa
open Go.RowKit
set_option linter.unusedVariables false

set_option maxHeartbeats 1000000 in
theorem enc1_any (i s : Int) (A : Option Addr) (n c : Nat) (w : World) (hn : n ≤ maxLen) :
    Calls Try.prog 57 #[.agg #[.int .u16 i, .int .u8 s, .slice A n c]] w fun e w' => e = .returned (.bool (decide (65536 < (n : Int)))) ∧ Frm (fun _ => False) w w' := by
  unfold maxLen at hn
  go_enter Try.func57, Try.ntmps57
  go_wp2_with fail
  go_ret
  exact ⟨rfl, by (repeat' (first | (with_reducible exact Frm.refl _ _) | (with_reducible assumption) | (with_reducible refine Frm.alloc ?_ _) | (with_reducible refine Frm.drew ?_) | (with_reducible refine Frm.drewN ?_ _) | (with_reducible refine Frm.set1 ?_ _) | (with_reducible refine Frm.setCell ?_ ?_ _) | (exact fun h => absurd h (Nat.lt_irrefl _)) | (intro hlt; simp [World.size_alloc, One] at hlt ⊢; omega)))⟩

def IdxNo (w : World) (e : Ending) (w' : World) : Prop := e = .returned (.int .i64 (-1)) ∧ Frm (fun _ => False) w w'
def IdxYes (w : World) (e : Ending) (w' : World) : Prop := (∃ k : Nat, k ≤ 9223372036854775807 ∧ e = .returned (.int .i64 k)) ∧ Frm (fun _ => False) w w'

set_option maxRecDepth 100000 in
set_option maxHeartbeats 1000000 in
theorem idxI_no (v : Value) (xs : List Itm) (w : World) (h : ItemsAt w v xs) (hb : ∀ x ∈ xs, x.2.2.2.length ≤ 65536) :
    Calls Try.prog 65 #[v, .func (.func 57) #[] #[]] w (IdxNo w) := by
  obtain ⟨A, cap, rfl, hm, ho⟩ := h.open_
  have HO := Lib.hid ho
  have HB := Lib.hid hb
  unfold maxLen at hm
  clear h ho hb
  go_enter Try.func65, Try.ntmps65
  go_wp2
  go_loopw [5, 8] (fun _ i wr => ∃ k : Nat, k ≤ xs.length ∧ i = .int .i64 k ∧ Frm (fun _ => False) w wr) (fun _ i _ => xs.length - (intOf i).toNat)
  case atStart => exact ⟨0, Nat.zero_le _, rfl, Frm.refl _ _⟩
  case round =>
    obtain ⟨k, hk, rfl, hF⟩ := hrel
    by_cases hlt : k < xs.length
    · obtain ⟨g, off, Ab, cb, rfl, _, hml, c0, c1, c2⟩ := HO.out k hlt
      have d0 := hF.cell c0 (fun h => h)
      have d1 := hF.cell c1 (fun h => h)
      have d2 := hF.cell c2 (fun h => h)
      have hbk := HB.out _ (List.getElem_mem hlt)
      clear c0 c1 c2
      generalize xs[k] = x at *
      obtain ⟨x0, x1, xv, xb⟩ := x
      simp only at d0 d1 d2 hml hbk
      have HF := Lib.hid hF
      have hdec : decide (65536 < (xb.length : Int)) = false := by simp; omega
      have H1 := Lib.hid (fun W => enc1_any x0 x1 Ab xb.length cb W hml)
      rw [hdec] at H1
      clear hF hdec
      go_wp2_with (go_at_call 57; refine (H1.out _).mono ?_; rintro e w' ⟨rfl, hF'⟩)
      go_roundw
      case rel => exact ⟨k + 1, by omega, by go_num, HF.out.trans' hF'⟩
      case measure => simp [intOf]; omega
    · go_wp2
      go_ret
      exact ⟨rfl, hF⟩
set_option maxRecDepth 100000 in
set_option maxHeartbeats 1000000 in
theorem idxI_yes (v : Value) (xs : List Itm) (w : World) (h : ItemsAt w v xs) (hb : ∃ x ∈ xs, 65536 < x.2.2.2.length) :
    Calls Try.prog 65 #[v, .func (.func 57) #[] #[]] w (IdxYes w) := by
  obtain ⟨A, cap, rfl, hm, ho⟩ := h.open_
  obtain ⟨x, hx, hx2⟩ := hb
  obtain ⟨q, hq, rfl⟩ := List.getElem_of_mem hx
  have HO := Lib.hid ho
  have HX := Lib.hid hx2
  unfold maxLen at hm
  clear h ho hx hx2
  go_enter Try.func65, Try.ntmps65
  go_wp2
  go_loopw [5, 8] (fun _ i wr => ∃ k : Nat, k ≤ q ∧ i = .int .i64 k ∧ Frm (fun _ => False) w wr) (fun _ i _ => xs.length - (intOf i).toNat)
  case atStart => exact ⟨0, Nat.zero_le _, rfl, Frm.refl _ _⟩
  case round =>
    obtain ⟨k, hk, rfl, hF⟩ := hrel
    have hlt : k < xs.length := by omega
    obtain ⟨g, off, Ab, cb, rfl, _, hml, c0, c1, c2⟩ := HO.out k hlt
    have d0 := hF.cell c0 (fun h => h)
    have d1 := hF.cell c1 (fun h => h)
    have d2 := hF.cell c2 (fun h => h)
    have hkq : k < q ∨ 65536 < xs[k].2.2.2.length := by
      rcases Nat.lt_or_ge k q with h | h
      · exact .inl h
      · obtain rfl : k = q := by omega
        exact .inr HX.out
    clear c0 c1 c2
    generalize xs[k] = x at *
    obtain ⟨x0, x1, xv, xb⟩ := x
    simp only at d0 d1 d2 hml hkq
    have HF := Lib.hid hF
    have H1 := Lib.hid (fun W => enc1_any x0 x1 Ab xb.length cb W hml)
    clear hF
    by_cases hl : 65536 < xb.length
    · have hdec : decide (65536 < (xb.length : Int)) = true := by simp; omega
      rw [hdec] at H1
      clear hdec hkq
      go_wp2_with (go_at_call 57; refine (H1.out _).mono ?_; rintro e w' ⟨rfl, hF'⟩)
      go_ret
      exact ⟨⟨k, by omega, rfl⟩, HF.out.trans' hF'⟩
    · have hdec : decide (65536 < (xb.length : Int)) = false := by simp; omega
      rw [hdec] at H1
      clear hdec
      have hkq' : k < q := by omega
      clear hkq
      go_wp2_with (go_at_call 57; refine (H1.out _).mono ?_; rintro e w' ⟨rfl, hF'⟩)
      go_roundw
      case rel => exact ⟨k + 1, by omega, by go_num, HF.out.trans' hF'⟩
      case measure => simp [intOf]; omega

set_option maxHeartbeats 1000000 in
theorem contI_no (v : Value) (xs : List Itm) (w : World) (h : ItemsAt w v xs) (hb : ∀ x ∈ xs, x.2.2.2.length ≤ 65536) :
    Calls Try.prog 56 #[v, .func (.func 57) #[] #[]] w fun e w' => e = .returned (.bool false) ∧ Frm (fun _ => False) w w' := by
  have H := Lib.hid (idxI_no v xs w h hb)
  obtain ⟨A, cap, rfl, _⟩ := h.open_
  clear h hb
  go_enter Try.func56, Try.ntmps56
  go_wp2_with (go_at_call 65; refine H.out.mono ?_; rintro e w' ⟨rfl, hF'⟩)
  go_ret
  exact ⟨rfl, hF'⟩
set_option maxHeartbeats 1000000 in
theorem contI_yes (v : Value) (xs : List Itm) (w : World) (h : ItemsAt w v xs) (hb : ∃ x ∈ xs, 65536 < x.2.2.2.length) :
    Calls Try.prog 56 #[v, .func (.func 57) #[] #[]] w fun e w' => e = .returned (.bool true) ∧ Frm (fun _ => False) w w' := by
  have H := Lib.hid (idxI_yes v xs w h hb)
  obtain ⟨A, cap, rfl, _⟩ := h.open_
  clear h hb
  go_enter Try.func56, Try.ntmps56
  go_wp2_with (go_at_call 65; refine H.out.mono ?_; rintro e w' ⟨⟨k, hk, rfl⟩, hF'⟩)
  go_ret
  exact ⟨rfl, hF'⟩

end Go.Proofs.Ytjjmkpjclhielaa
