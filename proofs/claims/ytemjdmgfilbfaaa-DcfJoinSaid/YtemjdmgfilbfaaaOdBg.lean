/-
  Begins: a dictionary by the program and by the document.
-/
import Derived.Test.YtemjdmgfilbfaaaOdNw
import Derived.Test.YtemjdmgfilbfaaaOdAc
namespace Go.Proofs.Ytemjdmgfilbfaaa
open Go.RowKit
set_option linter.unusedVariables false
set_option linter.unusedSimpArgs false

theorem odCheck_any (v : Value) (xs : List En) (w : World) (h : SlAt cellsE 14 w v xs) (hx : ∀ x ∈ xs, x.ok) : Calls Try.prog 50 #[v] w fun e w' => e = .returned (.int .i64 (checkE xs)) ∧ Frm (fun _ => False) w w' := by
  have HCHK := Lib.hid (odChk_any v xs w h hx)
  go_enter Try.func50, Try.ntmps50
  go_wp2_with (go_at_call 36; refine HCHK.out.mono ?_; rintro e w3 ⟨rfl, hF3⟩)
  go_ret
  exact ⟨rfl, hF3⟩

def BeginP (xs : List En) (W : World) (e : Ending) (w' : World) : Prop :=
  Frm (fun _ => False) W w' ∧ ((checkE xs ≠ 0 ∧ e = .returned (.tuple #[.pointer none, .bool true])) ∨
    (checkE xs = 0 ∧ ∃ a b p l B, e = .returned (.tuple #[ptr a, .bool true]) ∧ w'.heap[a]? = some (.cells #[ptr b, ptr p] 52 (0, 0)) ∧ DAt w' b l ∧ im l = newD xs ∧ DR w' p B (newD xs) ∧ W.heap.size ≤ b ∧ b < B ∧ (∀ q ∈ l, q.1 < B) ∧ B ≤ p ∧ B ≤ a))

set_option maxRecDepth 100000 in
set_option maxHeartbeats 4000000 in
theorem begins_any (v0 : Value) (xs : List En) (W : World) (h0 : SlAt cellsE 14 W v0 xs) (hx : ∀ x ∈ xs, x.ok) (hby : xs.length * 120 ≤ 140737488351232) :
    Calls Try.prog 19 #[v0] W (BeginP xs W) := by
  have H0 := Lib.hid h0
  obtain ⟨A, cap, rfl, hc1, hc2, hnews, hlen⟩ := news_entries h0
  have HNW := Lib.hid hnews
  have HLEN := Lib.hid hlen
  have HONE := Lib.hid (oneE xs)
  have hm1 : 0 + xs.length ≤ maxLen := by omega
  have hm2 : (0 + xs.length) * 120 ≤ 140737488355328 := by omega
  have HNEW := Lib.hid (fun v W h => odNew_any v xs W h hx)
  have HRN := Lib.hid (fun W h => rDNew_any (.slice A xs.length cap) xs W h hx)
  have HCHK := Lib.hid (fun W h => odCheck_any (.slice A xs.length cap) xs W h hx)
  unfold BeginP
  unfold ONewP at HNEW
  unfold RNewP at HRN
  clear h0 hnews hlen hby hx
  by_cases hz : checkE xs = 0
  case neg =>
    have HZ := Lib.hid hz
    clear hz
    go_enter Try.func19, Try.ntmps19
    go_upto_region 3 with (first | (at_builtin; refine wpl_app_src rfl el_Entry (.tmp 9) (.tmp 10) rfl (B := W.heap.size) (xs := []) (news := cellsOf cellsE xs) rfl rfl (row_new (by simp) rfl rfl (by decide) (by simp)) HLEN.out (fun h => (HNW.out h).grow (by (repeat' (first | (with_reducible exact Frm.refl _ _) | (with_reducible assumption) | (with_reducible refine Frm.alloc ?_ _) | (with_reducible refine Frm.drew ?_) | (with_reducible refine Frm.drewN ?_ _) | (with_reducible refine Frm.set1 ?_ _) | (with_reducible refine Frm.setCell ?_ ?_ _) | (exact fun h => absurd h (Nat.lt_irrefl _)) | (intro hlt; simp [World.size_alloc, One] at hlt ⊢; omega))))) HONE.out hm1 hm2 (by simp) ?_; intro A2 cap2 w1 hown1 hfr1) | (go_at_call 12; have hsl1 : SlAt cellsE 14 w1 (.slice A2 xs.length cap2) xs := SlAt.of_row cellsE_len (by simpa using hown1); have hF1 : Frm (fun _ => False) W w1 := (Frm.trans (b := _) (T := fun k => (Value.slice (some ⟨W.heap.size, 0, none⟩) 0 0).ownBlock = some k) (by (repeat' (first | (with_reducible exact Frm.refl _ _) | (with_reducible assumption) | (with_reducible refine Frm.alloc ?_ _) | (with_reducible refine Frm.drew ?_) | (with_reducible refine Frm.drewN ?_ _) | (with_reducible refine Frm.set1 ?_ _) | (with_reducible refine Frm.setCell ?_ ?_ _) | (exact fun h => absurd h (Nat.lt_irrefl _)) | (intro hlt; simp [World.size_alloc, One] at hlt ⊢; omega)))) hfr1 (fun i hi e => absurd hi (by cases e; exact Nat.lt_irrefl _))); refine (HNEW.out _ _ hsl1).mono ?_; rintro e w2 ⟨hF2, ⟨hne, rfl⟩ | h⟩; rotate_left; exact absurd h.1 HZ.out; have HF2 := Lib.hid (hF1.trans' hF2)) | (go_at_call 49; refine (HRN.out _ (SlAt.frm cellsE_len H0.out HF2.out)).mono ?_; rintro e w4 ⟨hF4, ⟨hne4, rfl⟩ | h⟩; rotate_left; exact absurd h.1 HZ.out; have HF4 := Lib.hid (HF2.out.trans' hF4)))
    clear hfr1 hown1 hsl1 hF2 hF4 hF1 HNEW HNW HLEN HONE hm1 hm2 hne hne4
    go_wp2_with (go_at_call 50; refine (HCHK.out _ (SlAt.frm cellsE_len H0.out HF4.out)).mono ?_; rintro e w5 ⟨rfl, hF5⟩)
    go_ret2
    exact ⟨HF4.out.trans' hF5, .inl ⟨HZ.out, rfl⟩⟩
  case pos =>
    have HZ := Lib.hid hz
    clear hz
    go_enter Try.func19, Try.ntmps19
    go_upto_region 3 with (first | (at_builtin; refine wpl_app_src rfl el_Entry (.tmp 9) (.tmp 10) rfl (B := W.heap.size) (xs := []) (news := cellsOf cellsE xs) rfl rfl (row_new (by simp) rfl rfl (by decide) (by simp)) HLEN.out (fun h => (HNW.out h).grow (by (repeat' (first | (with_reducible exact Frm.refl _ _) | (with_reducible assumption) | (with_reducible refine Frm.alloc ?_ _) | (with_reducible refine Frm.drew ?_) | (with_reducible refine Frm.drewN ?_ _) | (with_reducible refine Frm.set1 ?_ _) | (with_reducible refine Frm.setCell ?_ ?_ _) | (exact fun h => absurd h (Nat.lt_irrefl _)) | (intro hlt; simp [World.size_alloc, One] at hlt ⊢; omega))))) HONE.out hm1 hm2 (by simp) ?_; intro A2 cap2 w1 hown1 hfr1) | (go_at_call 12; have hsl1 : SlAt cellsE 14 w1 (.slice A2 xs.length cap2) xs := SlAt.of_row cellsE_len (by simpa using hown1); have hF1 : Frm (fun _ => False) W w1 := (Frm.trans (b := _) (T := fun k => (Value.slice (some ⟨W.heap.size, 0, none⟩) 0 0).ownBlock = some k) (by (repeat' (first | (with_reducible exact Frm.refl _ _) | (with_reducible assumption) | (with_reducible refine Frm.alloc ?_ _) | (with_reducible refine Frm.drew ?_) | (with_reducible refine Frm.drewN ?_ _) | (with_reducible refine Frm.set1 ?_ _) | (with_reducible refine Frm.setCell ?_ ?_ _) | (exact fun h => absurd h (Nat.lt_irrefl _)) | (intro hlt; simp [World.size_alloc, One] at hlt ⊢; omega)))) hfr1 (fun i hi e => absurd hi (by cases e; exact Nat.lt_irrefl _))); refine (HNEW.out _ _ hsl1).mono ?_; rintro e w2 ⟨hF2, h | ⟨-, b, l, rfl, hD, hl, hb⟩⟩; exact absurd HZ.out h.1; have HF2 := Lib.hid (hF1.trans' hF2); have HD := Lib.hid hD; have HL := Lib.hid hl; have HB0 : Hid (W.heap.size ≤ b) := Nat.le_trans hF1.size hb) | (go_at_call 49; refine (HRN.out _ (SlAt.frm cellsE_len H0.out HF2.out)).mono ?_; rintro e w4 ⟨hF4, h | ⟨-, p, rfl, hDR, hp⟩⟩; exact absurd HZ.out h.1; have HF4 := Lib.hid (HF2.out.trans' hF4); have HD4 := Lib.hid (HD.out.grow hF4); have HDR := Lib.hid hDR; have HP := Lib.hid hp; have HS4 := Lib.hid hF4.size))
    clear hfr1 hown1 hsl1 hF2 hF4 hF1 HNEW HNW HLEN HONE hm1 hm2 hD hl hb hDR hp
    rw [HZ.out] at HCHK
    unfold ptr
    go_wp2_with (go_at_call 50; refine (HCHK.out _ (SlAt.frm cellsE_len H0.out HF4.out)).mono ?_; rintro e w5 ⟨rfl, hF5⟩)
    go_ret2
    have hF6 : Frm (fun _ => False) w4 (w5.alloc (.cells #[ptr b, ptr p] 52)) := hF5.alloc _
    refine ⟨HF4.out.trans' hF6, .inr ⟨HZ.out, _, b, p, l, w2.heap.size, rfl, heap_new _ _, HD4.out.grow hF6, HL.out, HDR.out.grow hF6, HB0.out, HD.out.blt, HD.out.lt, HP.out, ?_⟩⟩
    have := hF5.size
    have := HS4.out
    omega
end Go.Proofs.Ytemjdmgfilbfaaa
