/-
  lives.
-/
import Derived.Test.YtemjdmgfilbfaaaOdV
namespace Go.Proofs.Ytemjdmgfilbfaaa
open Go.RowKit
set_option linter.unusedVariables false

def oneV : Va := ⟨5, 1, []⟩
def liveE : En := ⟨8192, 0, 2, false, true, oneV, ⟨5, 5, []⟩, oneV⟩
theorem liveE_ok : liveE.ok := by simp [En.ok, liveE, Va.ok, oneV, two64]
theorem live_chk : checkE [liveE] = 0 := by decide
theorem live_new : newD [liveE] = [(liveE, oneV)] := by decide
theorem live_read : readD (newD [liveE]) 8192 0 = ([1], 0) := by decide
theorem live_may6 : mayD (newD [liveE]) 8192 0 [6] = codeHigh := by decide
theorem live_w6 : writeD (newD [liveE]) 8192 0 [6] = newD [liveE] := by decide
theorem live_may5 : mayD (newD [liveE]) 8192 0 [5] = 0 := by decide
theorem live_save : (saveD (writeD (newD [liveE]) 8192 0 [5])).length = 8 := by decide
theorem live_ok : DOk (newD [liveE]) := by
  rw [live_new]
  exact ⟨by simp, fun x hx => by simp at hx; subst hx; exact ⟨liveE_ok, by simp [Va.ok, oneV, two64]⟩, by simp⟩

theorem bytes6 (w : World) (g : Nat) (hg : g = w.heap.size) : BytesAt (w.alloc (.cells #[.int .u8 6] 5)) (.slice (some ⟨g, 0, none⟩) 1 1) [6] := by
  subst hg
  exact BytesAt.of_row (B := 0) (row_new rfl (by simp) rfl (by decide) (Nat.zero_le _))
theorem bytes5 (w : World) (g : Nat) (hg : g = w.heap.size) : BytesAt (w.alloc (.cells #[.int .u8 5] 5)) (.slice (some ⟨g, 0, none⟩) 1 1) [5] := by
  subst hg
  exact BytesAt.of_row (B := 0) (row_new rfl (by simp) rfl (by decide) (Nat.zero_le _))
theorem entries1 (w : World) (g : Nat) (hg : g = w.heap.size) (x : En) : SlAt cellsE 14 (w.alloc (.cells (cellsE x).toArray 42)) (.slice (some ⟨g, 0, none⟩) 1 1) [x] := by
  subst hg
  exact SlAt.of_row (B := 0) (e := 42) (fun x => cellsE_len x) (row_new rfl (by simp [cellsE_len]) (by simp [cellsOf]) (by decide) (Nat.zero_le _))

/-- What a call of Write does here. -/
theorem write_at (b : Nat) (l : List (Nat × Im)) (d : List Im) (v : Value) (bs : List UInt8) (c : Int) (w : World) (h : DAt w b l) (hl : im l = d) (hd : DOk d) (hv : BytesAt w v bs) (hb : bs.length = 1) (hc : mayD d 8192 0 bs = c) :
    Calls Try.prog 15 #[ptr b, .int .u16 8192, .int .u8 0, v] w fun e w' => e = .returned (.int .u32 c) ∧ ∃ l', DAt w' b l' ∧ im l' = writeD d 8192 0 bs ∧ l'.map (·.1) = l.map (·.1) ∧ Frm (fun j => ∃ q ∈ l, j = q.1) w w' := by
  subst hl hc
  exact odWrite_any b l 8192 0 v bs w h hd ⟨by decide, by decide⟩ hv (by omega)
theorem str1 : ((strB2 [1]).toList == ([1] : List UInt8)) = true := by simp [strB2]

set_option maxRecDepth 100000 in
set_option maxHeartbeats 1000000 in
theorem livesO_any (w : World) : Calls Try.prog 14 #[] w fun e w' => e = .returned (.bool true) ∧ Frm (fun _ => False) w w' := by
  have HNEW := Lib.hid (fun v W h => odNew_any v [liveE] W h (fun x hx => by simp at hx; subst hx; exact liveE_ok))
  unfold ONewP at HNEW
  rw [live_chk] at HNEW
  go_enter Try.func14, Try.ntmps14
  go_upto_region 5 with (go_at_call 12; refine (HNEW.out _ _ (entries1 _ _ (by simp) liveE)).mono ?_; rintro e w1 ⟨hF1, h | ⟨-, b, l, rfl, hD, hl, hb⟩⟩; exact absurd rfl h.1)
  have HF1 : Hid (Frm (fun _ => False) w w1) := Frm.trans' (b := _) (by (repeat' (first | (with_reducible exact Frm.refl _ _) | (with_reducible assumption) | (with_reducible refine Frm.alloc ?_ _) | (with_reducible refine Frm.drew ?_) | (with_reducible refine Frm.drewN ?_ _) | (with_reducible refine Frm.set1 ?_ _) | (with_reducible refine Frm.setCell ?_ ?_ _) | (exact fun h => absurd h (Nat.lt_irrefl _)) | (intro hlt; simp [World.size_alloc, One] at hlt ⊢; omega)))) hF1
  have hb0 : Hid (w.heap.size ≤ b) := by unfold Hid; simp at hb; omega
  have HRD := Lib.hid (odRead_any b l 8192 0 w1 hD (by rw [show im l = newD [liveE] from hl]; exact live_ok) ⟨by decide, by decide⟩)
  unfold ReadP at HRD
  rw [show im l = newD [liveE] from hl, live_read] at HRD
  have HD := Lib.hid hD
  have HL := Lib.hid hl
  clear hF1 hD hl hb HNEW
  unfold ptr at HRD
  go_upto_region 6 with (go_at_call 43; refine HRD.out.mono ?_; rintro e w2 ⟨v, rfl, hfr, hF2⟩; obtain ⟨A2, c2, rfl, -⟩ := hfr.1.open_)
  have hcv := conv_b2s hfr.1
  simp only [List.length_cons, List.length_nil] at hcv ⊢
  have HF2 := Lib.hid (HF1.out.trans' hF2)
  have HD2 := Lib.hid (HD.out.grow hF2)
  have hs1 := str1
  clear hfr hF2
  have hw6 : ∀ (W : World) (g : Nat), Frm (fun _ => False) w2 W → g = W.heap.size → _ := fun W g hF hg => write_at b l (newD [liveE]) _ [6] codeHigh (W.alloc (.cells #[.int .u8 6] 5)) (HD2.out.grow (hF.alloc _)) HL.out live_ok (bytes6 W g hg) rfl live_may6
  have HW6 := Lib.hid hw6
  clear hw6
  unfold ptr codeHigh at HW6
  rw [live_w6] at HW6
  go_wp2_with (first
    | (go_at_call 15; refine (HW6.out _ _ (by (repeat' (first | (with_reducible exact Frm.refl _ _) | (with_reducible assumption) | (with_reducible refine Frm.alloc ?_ _) | (with_reducible refine Frm.drew ?_) | (with_reducible refine Frm.drewN ?_ _) | (with_reducible refine Frm.set1 ?_ _) | (with_reducible refine Frm.setCell ?_ ?_ _) | (exact fun h => absurd h (Nat.lt_irrefl _)) | (intro hlt; simp [World.size_alloc, One] at hlt ⊢; omega)))) (by first | rfl | simp)).mono ?_; rintro e w3 ⟨rfl, l3, hD3, hl3, hf3, hF3⟩; have HF3 : Hid (Frm (fun _ => False) w w3) := (HF2.out.alloc _).trans hF3 (fun i hi ⟨q, hq, e⟩ => by have := HD.out.lo q hq; have := hb0.out; omega); have hlo3 := hD3.lo; have HLO3 := Lib.hid hlo3; have hw5 : ∀ (W : World) (g : Nat), Frm (fun _ => False) w3 W → g = W.heap.size → _ := fun W g hF hg => write_at b l3 (newD [liveE]) _ [5] 0 (W.alloc (.cells #[.int .u8 5] 5)) (hD3.grow (hF.alloc _)) hl3 live_ok (bytes5 W g hg) rfl live_may5; have HW5 := Lib.hid hw5; unfold ptr at HW5; clear hw5 hD3 hl3 hf3 hF3 HW6 hlo3)
    | (go_at_call 15; refine (HW5.out _ _ (by (repeat' (first | (with_reducible exact Frm.refl _ _) | (with_reducible assumption) | (with_reducible refine Frm.alloc ?_ _) | (with_reducible refine Frm.drew ?_) | (with_reducible refine Frm.drewN ?_ _) | (with_reducible refine Frm.set1 ?_ _) | (with_reducible refine Frm.setCell ?_ ?_ _) | (exact fun h => absurd h (Nat.lt_irrefl _)) | (intro hlt; simp [World.size_alloc, One] at hlt ⊢; omega)))) (by first | rfl | simp)).mono ?_; rintro e w4 ⟨rfl, l4, hD4, hl4, hf4, hF4⟩; have HF4 : Hid (Frm (fun _ => False) w w4) := (HF3.out.alloc _).trans hF4 (fun i hi ⟨q, hq, e⟩ => by have := HLO3.out q hq; have := hb0.out; omega); have hsv := odSave_any b l4 w4 hD4 (by rw [hl4]; exact live_ok.write _ _ _); unfold SaveP at hsv; rw [hl4, live_save] at hsv; have HSV := Lib.hid hsv; unfold ptr at HSV; clear hsv hD4 hl4 hf4 hF4 HW5)
    | (go_at_call 21; refine HSV.out.mono ?_; rintro e w5 ⟨v5, rfl, hr5, hF5⟩; obtain ⟨A5, c5, rfl, -⟩ := row_open hr5))
  go_ret
  exact ⟨rfl, HF4.out.trans' hF5⟩
end Go.Proofs.Ytemjdmgfilbfaaa
