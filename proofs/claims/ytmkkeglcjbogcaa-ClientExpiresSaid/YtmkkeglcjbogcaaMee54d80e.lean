/-
  The client is fed an answer.
-/
import Derived.Test.YtmkkeglcjbogcaaMe28b4a6f
set_option linter.unusedVariables false
set_option linter.unusedSimpArgs false
namespace Go.Proofs.Ytmkkeglcjbogcaa
open Go.RowKit
open List (getElem_toArray getElem_cons_zero getElem_cons_succ setIfInBounds_toArray set_cons_zero set_cons_succ)
set_option linter.unusedVariables false
set_option linter.unusedSimpArgs false

def FdPost (M : Nat → Prop) (c : Nat) (s : Cl) (f : F8) (w : World) (e : Ending) (w' : World) : Prop := e = .returned (.tuple #[(s.feed f).2.1.v, .bool (s.feed f).2.2]) ∧ ClPost M w c (s.feed f).1 w'
set_option maxRecDepth 100000 in
set_option maxHeartbeats 8000000 in
theorem cfeed_any (M : Nat → Prop) (c : Nat) (s : Cl) (f : F8) (w : World) (h : ClHas M w c s) (hf : f.ok) : Calls Try.prog 69 #[ptr c, f.v] w (FdPost M c s f w) := by
  have H := Lib.hid h
  obtain ⟨hok, hM, hlt, vb, vr, hc, hb, hr, hvb, hvr, ho, hnn⟩ := h
  have HC := Lib.hid hc
  have hclt := lt_of_block hc
  have HLT := Lib.hid hlt
  have HF := Lib.hid hf
  have HOK := Lib.hid hok
  have hw6 := hok.hw
  have hf0 := hf.h0
  obtain ⟨hf00, hf01⟩ := hf0
  obtain ⟨a0, ha0⟩ : ∃ a0, a0 = f.a0 := ⟨_, rfl⟩
  have HA0 := Lib.hid ha0
  rw [← ha0] at hf00 hf01
  have hnum : 0 ≤ f.num ∧ f.num ≤ 4294967295 := by
    have := hf.h4; have := hf.h5; have := hf.h6; have := hf.h7
    unfold byteI at *
    unfold F8.num
    omega
  have HNUM := Lib.hid hnum
  have b16 := u8_and16 a0 hf00 hf01
  clear hb hr hvb hvr ho hok hnn hM hlt hf ha0 hnum
  by_cases hw0 : s.waits = 0
  · have HE : Hid (s.feed f = (s, F8.zero, false)) := by unfold Hid Cl.feed; rw [if_pos hw0]
    have HW4 := Lib.hid hw0
    unfold ptr F8.v
    clear hw0 hw6 hc
    go_enter Try.func69, Try.ntmps69
    go_upto_region 1 with fail
    have hbx : ((w.alloc (.cells f.c 73 (0, 0))).alloc (.cells #[.int .u8 0, .int .u8 0, .int .u8 0, .int .u8 0, .int .u8 0, .int .u8 0, .int .u8 0, .int .u8 0] 73 (0, 0))).heap[w.heap.size]? = some (.cells f.c 73 (0, 0)) := heap_alloc_old (heap_new w _)
    have hrt : ((w.alloc (.cells f.c 73 (0, 0))).alloc (.cells #[.int .u8 0, .int .u8 0, .int .u8 0, .int .u8 0, .int .u8 0, .int .u8 0, .int .u8 0, .int .u8 0] 73 (0, 0))).heap[w.heap.size + 1]? = some (.cells #[.int .u8 0, .int .u8 0, .int .u8 0, .int .u8 0, .int .u8 0, .int .u8 0, .int .u8 0, .int .u8 0] 73 (0, 0)) := heap_new_at (by simp)
    have hfb : Frm (fun _ => False) w ((w.alloc (.cells f.c 73 (0, 0))).alloc (.cells #[.int .u8 0, .int .u8 0, .int .u8 0, .int .u8 0, .int .u8 0, .int .u8 0, .int .u8 0, .int .u8 0] 73 (0, 0))) := by (repeat' (first | (with_reducible exact Frm.refl _ _) | (with_reducible assumption) | (with_reducible refine Frm.alloc ?_ _) | (with_reducible refine Frm.drew ?_) | (with_reducible refine Frm.drewN ?_ _) | (with_reducible refine Frm.set1 ?_ _) | (with_reducible refine Frm.setCell ?_ ?_ _) | (exact fun h => absurd h (Nat.lt_irrefl _)) | (intro hlt; simp [World.size_alloc, One] at hlt ⊢; omega)))
    obtain ⟨wb, hwb⟩ : ∃ wb, wb = (w.alloc (.cells f.c 73 (0, 0))).alloc (.cells #[.int .u8 0, .int .u8 0, .int .u8 0, .int .u8 0, .int .u8 0, .int .u8 0, .int .u8 0, .int .u8 0] 73 (0, 0)) := ⟨_, rfl⟩
    rw [← hwb] at hbx hrt hfb ⊢
    have HBX := Lib.hid hbx
    have HRT := Lib.hid hrt
    have HFB := Lib.hid hfb
    have hwbs := lt_of_block hrt
    clear hbx hrt hfb hwb
    have kc0 : wb.cell? ⟨c, 0, none⟩ = some (.int .i64 0) := by rw [← HW4.out]; exact cell_at (HFB.out.heap HC.out (fun h => h))
    go_wp2_with (refine wpl_store_whole rfl 73 (.tmp 4) (.tmp 11) rfl (w.heap.size + 1) F8.zero.c rfl rfl 73 _ HRT.out info_f8 rfl (F8.one _) ?_; intro wz hwz hFz; have HW2 := Lib.hid hwz; have HF2 := Lib.hid hFz; clear hwz hFz)
    refine bodyPost_ret (ret_f8b rfl _ _ (w.heap.size + 1) F8.zero.c rfl rfl HW2.out) rfl ?_
    unfold FdPost
    rw [HE.out]
    refine ⟨rfl, ClPost.outer HLT.out HFB.out (ClPost.same (H.out.grow HFB.out) (Frm.refl _ _)) ⟨by omega, hwbs⟩ HF2.out⟩
  have HW0 := Lib.hid hw0
  have bx0 : (s.waits == 0) = false := by simpa using hw0
  by_cases h4 : a0 / 32 = 4
  · have HE : Hid (s.feed f = (Cl.ends [] f.num, F8.zero, false)) := by unfold Hid Cl.feed; rw [if_neg hw0, ← HA0.out, if_pos h4]
    have HNU := Lib.hid (fun W => cnumber_any f W HF.out)
    have HEN := Lib.hid (fun W (hF : Frm (fun _ => False) w W) => cends_any c _ none 0 0 f.num W (hF.heap HC.out (fun h => h)) (clC_size _ _ _))
    generalize f.num = nu at *
    unfold ptr F8.v at *
    clear hw0 hw6 hc
    go_enter Try.func69, Try.ntmps69
    go_upto_region 1 with fail
    have hbx : ((w.alloc (.cells f.c 73 (0, 0))).alloc (.cells #[.int .u8 0, .int .u8 0, .int .u8 0, .int .u8 0, .int .u8 0, .int .u8 0, .int .u8 0, .int .u8 0] 73 (0, 0))).heap[w.heap.size]? = some (.cells f.c 73 (0, 0)) := heap_alloc_old (heap_new w _)
    have hrt : ((w.alloc (.cells f.c 73 (0, 0))).alloc (.cells #[.int .u8 0, .int .u8 0, .int .u8 0, .int .u8 0, .int .u8 0, .int .u8 0, .int .u8 0, .int .u8 0] 73 (0, 0))).heap[w.heap.size + 1]? = some (.cells #[.int .u8 0, .int .u8 0, .int .u8 0, .int .u8 0, .int .u8 0, .int .u8 0, .int .u8 0, .int .u8 0] 73 (0, 0)) := heap_new_at (by simp)
    have hfb : Frm (fun _ => False) w ((w.alloc (.cells f.c 73 (0, 0))).alloc (.cells #[.int .u8 0, .int .u8 0, .int .u8 0, .int .u8 0, .int .u8 0, .int .u8 0, .int .u8 0, .int .u8 0] 73 (0, 0))) := by (repeat' (first | (with_reducible exact Frm.refl _ _) | (with_reducible assumption) | (with_reducible refine Frm.alloc ?_ _) | (with_reducible refine Frm.drew ?_) | (with_reducible refine Frm.drewN ?_ _) | (with_reducible refine Frm.set1 ?_ _) | (with_reducible refine Frm.setCell ?_ ?_ _) | (exact fun h => absurd h (Nat.lt_irrefl _)) | (intro hlt; simp [World.size_alloc, One] at hlt ⊢; omega)))
    obtain ⟨wb, hwb⟩ : ∃ wb, wb = (w.alloc (.cells f.c 73 (0, 0))).alloc (.cells #[.int .u8 0, .int .u8 0, .int .u8 0, .int .u8 0, .int .u8 0, .int .u8 0, .int .u8 0, .int .u8 0] 73 (0, 0)) := ⟨_, rfl⟩
    rw [← hwb] at hbx hrt hfb ⊢
    have HBX := Lib.hid hbx
    have HRT := Lib.hid hrt
    have HFB := Lib.hid hfb
    have hwbs := lt_of_block hrt
    clear hbx hrt hfb hwb
    have kc0 : wb.cell? ⟨c, 0, none⟩ = some (.int .i64 s.waits) := cell_at (HFB.out.heap HC.out (fun h => h))
    have kt0 : wb.cell? ⟨w.heap.size, 0, none⟩ = some (.int .u8 a0) := by rw [HA0.out]; exact cell_at HBX.out
    go_wp2_with (first | (refine wpList_load_row rfl 73 (.tmp 3) rfl w.heap.size rfl 73 f.c (0, 0) _ HBX.out Try.underlying73 rfl (by first | exact info_f8 | (rw [F8.size]; exact info_f8)) ?_) | (go_at_call 96; refine (HNU.out _).mono ?_; rintro e w1 ⟨rfl, hF1⟩; have HF1 := Lib.hid hF1; clear hF1) | (go_at_call 95; refine (HEN.out _ (HFB.out.trans' HF1.out)).mono ?_; rintro e w2 ⟨rfl, hc2, hF2⟩; have HC2 := Lib.hid hc2; have HF2 := Lib.hid hF2; have HR2 : Hid (w2.heap[w.heap.size + 1]? = some (.cells #[.int .u8 0, .int .u8 0, .int .u8 0, .int .u8 0, .int .u8 0, .int .u8 0, .int .u8 0, .int .u8 0] 73 (0, 0))) := hF2.heap (HF1.out.heap HRT.out (fun h => h)) (by simp only [One]; omega); clear hc2 hF2) | (refine wpl_store_whole rfl 73 (.tmp 4) (.tmp 20) rfl (w.heap.size + 1) F8.zero.c rfl rfl 73 _ HR2.out info_f8 rfl (F8.one _) ?_; intro wz hwz hFz; have HW3 := Lib.hid hwz; have HF3 := Lib.hid hFz; clear hwz hFz))
    refine bodyPost_ret (ret_f8b rfl _ _ (w.heap.size + 1) F8.zero.c rfl rfl HW3.out) rfl ?_
    unfold FdPost
    rw [HE.out]
    exact ⟨rfl, ClPost.over H.out ((((HFB.out.trans' HF1.out).mono (fun _ _ h => h.elim)).trans HF2.out (fun i hi h => h)).trans HF3.out (fun i hi h => by simp only [One] at h; omega)) HNUM.out (HF3.out.heap HC2.out (by simp only [One]; omega))⟩
  have b4 : (a0 / 32 == 4) = false := by simpa using h4
  have HGV := Lib.hid (fun W code (hF : Frm (fun _ => False) w W) (hcd : 0 ≤ code ∧ code ≤ 4294967295) => cgives_any c _ _ vr code W (hF.heap HC.out (fun h => h)) HOK.out.hi hcd)
  have HHD := Lib.hid (fun W (hF : Frm (fun _ => False) w W) => chead_any c s _ vr W (hF.heap HC.out (fun h => h)) hw6)
  have HX4 := Lib.hid h4
  have HFE : Hid (s.feed f = if a0 / 32 ≠ s.head then s.gives 84148225 else if s.waits = 3 ∨ s.waits = 5 then (if 16 * (a0 / 16 % 2) ≠ s.turn then s.gives 84082688 else s.takes f) else if f.place ≠ s.idx ∨ f.a3 ≠ s.sub then s.gives 84148225 else s.takes f) := by
    unfold Hid
    conv => lhs; unfold Cl.feed
    rw [if_neg hw0, ← HA0.out, if_neg h4]
  clear h4 hw0 hc
  unfold ptr F8.v at *
  go_enter Try.func69, Try.ntmps69
  go_upto_region 1 with fail
  have hbx : ((w.alloc (.cells f.c 73 (0, 0))).alloc (.cells #[.int .u8 0, .int .u8 0, .int .u8 0, .int .u8 0, .int .u8 0, .int .u8 0, .int .u8 0, .int .u8 0] 73 (0, 0))).heap[w.heap.size]? = some (.cells f.c 73 (0, 0)) := heap_alloc_old (heap_new w _)
  have hrt : ((w.alloc (.cells f.c 73 (0, 0))).alloc (.cells #[.int .u8 0, .int .u8 0, .int .u8 0, .int .u8 0, .int .u8 0, .int .u8 0, .int .u8 0, .int .u8 0] 73 (0, 0))).heap[w.heap.size + 1]? = some (.cells #[.int .u8 0, .int .u8 0, .int .u8 0, .int .u8 0, .int .u8 0, .int .u8 0, .int .u8 0, .int .u8 0] 73 (0, 0)) := heap_new_at (by simp)
  have hfb : Frm (fun _ => False) w ((w.alloc (.cells f.c 73 (0, 0))).alloc (.cells #[.int .u8 0, .int .u8 0, .int .u8 0, .int .u8 0, .int .u8 0, .int .u8 0, .int .u8 0, .int .u8 0] 73 (0, 0))) := by (repeat' (first | (with_reducible exact Frm.refl _ _) | (with_reducible assumption) | (with_reducible refine Frm.alloc ?_ _) | (with_reducible refine Frm.drew ?_) | (with_reducible refine Frm.drewN ?_ _) | (with_reducible refine Frm.set1 ?_ _) | (with_reducible refine Frm.setCell ?_ ?_ _) | (exact fun h => absurd h (Nat.lt_irrefl _)) | (intro hlt; simp [World.size_alloc, One] at hlt ⊢; omega)))
  obtain ⟨wb, hwb⟩ : ∃ wb, wb = (w.alloc (.cells f.c 73 (0, 0))).alloc (.cells #[.int .u8 0, .int .u8 0, .int .u8 0, .int .u8 0, .int .u8 0, .int .u8 0, .int .u8 0, .int .u8 0] 73 (0, 0)) := ⟨_, rfl⟩
  rw [← hwb] at hbx hrt hfb ⊢
  have HBX := Lib.hid hbx
  have HRT := Lib.hid hrt
  have HFB := Lib.hid hfb
  have hwbs := lt_of_block hrt
  clear hbx hrt hfb hwb
  have hcb := HFB.out.heap HC.out (fun h => h)
  have kc0 : wb.cell? ⟨c, 0, none⟩ = some (.int .i64 s.waits) := cell_at hcb
  have kc4 : wb.cell? ⟨c, 4, none⟩ = some (.int .u8 s.turn) := cell_at hcb
  have kt0 : wb.cell? ⟨w.heap.size, 0, none⟩ = some (.int .u8 a0) := by rw [HA0.out]; exact cell_at HBX.out
  have HK := Lib.hid (fun W (h : Frm (fun _ => False) wb W) => (⟨h.cell kc0 (fun h => h), h.cell kc4 (fun h => h), h.cell kt0 (fun h => h)⟩ : _ ∧ _ ∧ _))
  clear hcb
  go_upto_region 6 with fail
  go_cut [26] (fun bv wx => bv = .bool (a0 / 32 != s.head) ∧ Frm (fun _ => False) wb wx)
  case first =>
    refine wp_region_held_drew (S := fun W => Frm (fun _ => False) wb W) (by kernel_rfl) ((Frm.refl _ _).drew) (fun hHeld => ?_)
    refine wpAnyH_take (i := 0) (v := ?_) rfl (by kernel_rfl) (by kernel_rfl) (by kernel_rfl) (fun _ _ _ h => h) (Or.inl ⟨by rfl, ?_⟩) (by assumption) ?_; rotate_left; · (intro wq hSq; have hq := HK.out wq hSq; go_split_ands; go_simp; (try with_reducible rfl))
    try simp only [Act.put, getElem_toArray, getElem_cons_zero, getElem_cons_succ, setIfInBounds_toArray, set_cons_zero, set_cons_succ]
    refine wpAnyH_take (i := 1) (v := ?_) rfl (by kernel_rfl) (by kernel_rfl) (by kernel_rfl) (fun _ _ _ h => h) (Or.inl ⟨by rfl, ?_⟩) (by assumption) ?_; rotate_left; · (intro wq hSq; have hq := HK.out wq hSq; go_split_ands; go_simp; (try with_reducible rfl))
    try simp only [Act.put, getElem_toArray, getElem_cons_zero, getElem_cons_succ, setIfInBounds_toArray, set_cons_zero, set_cons_succ]
    refine wpAnyH_take (i := 2) (v := ?_) rfl (by kernel_rfl) (by kernel_rfl) (by kernel_rfl) (fun _ _ _ h => h) (Or.inl ⟨by rfl, ?_⟩) (by assumption) ?_; rotate_left; · (intro wq hSq; have hq := HK.out wq hSq; go_split_ands; go_simp; (try with_reducible rfl))
    try simp only [Act.put, getElem_toArray, getElem_cons_zero, getElem_cons_succ, setIfInBounds_toArray, set_cons_zero, set_cons_succ]
    refine wpAnyH_take (i := 3) (v := ?_) rfl (by kernel_rfl) (by kernel_rfl) (by kernel_rfl) (fun _ _ _ h => h) (Or.inl ⟨by rfl, ?_⟩) (by assumption) ?_; rotate_left; · (intro wq hSq; have hq := HK.out wq hSq; go_split_ands; go_simp; (try with_reducible rfl))
    try simp only [Act.put, getElem_toArray, getElem_cons_zero, getElem_cons_succ, setIfInBounds_toArray, set_cons_zero, set_cons_succ]
    refine wpAnyH_ready (rs := [4]) (by kernel_rfl) (by simp) ?_
    refine AllReadyH.cons rfl (fun K hK => ?_) AllReadyH.nil
    try simp only [getElem_toArray, getElem_cons_zero, getElem_cons_succ]
    go_simp
    refine (HHD.out _ (HFB.out.trans' hHeld)).mono ?_
    rintro e w2 ⟨rfl, rfl⟩
    go_wp2_with fail
    refine hK.out _ _ (hHeld) (fun hHeld => ?_)
    clear hK K
    try simp only [Act.put, setIfInBounds_toArray, set_cons_zero, set_cons_succ]
    refine wpAnyH_take (i := 5) (v := ?_) rfl (by kernel_rfl) (by kernel_rfl) (by kernel_rfl) (fun _ _ _ h => h) (Or.inl ⟨by rfl, ?_⟩) (by assumption) ?_; rotate_left; · (intro wq hSq; have hq := HK.out wq hSq; go_split_ands; go_simp; (try with_reducible rfl))
    try simp only [Act.put, getElem_toArray, getElem_cons_zero, getElem_cons_succ, setIfInBounds_toArray, set_cons_zero, set_cons_succ]
    refine wpAnyH_done (by kernel_rfl) ?_ _
    have hh := hHeld
    clear hHeld
    go_wp2_with fail
    go_meet
    exact ⟨rfl, hh⟩
  case rest =>
    obtain ⟨rfl, hFc⟩ := hcut
    have HFD : Hid (Frm (fun _ => False) wb wc) := hFc
    clear hFc
    obtain ⟨kd0, kd4, kdt⟩ := HK.out wc HFD.out
    by_cases hhd : a0 / 32 = s.head
    case neg =>
      have HE : Hid (s.feed f = s.gives 84148225) := by unfold Hid; rw [HFE.out, if_pos hhd]
      have bh : (a0 / 32 != s.head) = true := by simpa using hhd
      clear hhd
      have hgv := HGV.out wc 84148225 (HFB.out.trans' HFD.out) (by decide)
      unfold Cl.gives at HE
      obtain ⟨f2, hf2⟩ : ∃ f2, f2 = fr8 128 s.idx s.sub 84148225 := ⟨_, rfl⟩
      rw [← hf2] at hgv HE
      (try unfold ptr at hgv)
      (try unfold F8.v at hgv)
      have HG := Lib.hid hgv
      clear hgv hf2
      go_wp2_with (first | (go_at_call 73; refine HG.out.mono ?_; rintro e w2 ⟨rfl, hc2, hF2⟩; have HC2 := Lib.hid hc2; have HF2 := Lib.hid ((HFD.out.mono (fun _ _ h => h.elim) : Frm (One c) wb _).trans' hF2); have HR2 : Hid (w2.heap[w.heap.size + 1]? = some (.cells #[.int .u8 0, .int .u8 0, .int .u8 0, .int .u8 0, .int .u8 0, .int .u8 0, .int .u8 0, .int .u8 0] 73 (0, 0))) := hF2.heap (HFD.out.heap HRT.out (fun h => h)) (by simp only [One]; omega); clear hc2 hF2) | (refine wpl_store_whole rfl 73 (.tmp 4) (.tmp 29) rfl (w.heap.size + 1) f2.c rfl rfl 73 _ HR2.out info_f8 rfl (F8.one _) ?_; intro wz hwz hFz; have HW3 := Lib.hid hwz; have HF3 := Lib.hid hFz; clear hwz hFz))
      refine bodyPost_ret (ret_f8b rfl _ _ (w.heap.size + 1) f2.c rfl rfl HW3.out) rfl ?_
      unfold FdPost
      rw [HE.out]
      exact ⟨rfl, ClPost.over H.out (((HFB.out.mono (fun _ _ h => h.elim)).trans HF2.out (fun i hi h => h)).trans HF3.out (fun i hi h => by simp only [One] at h; omega)) (by decide) (HF3.out.heap HC2.out (by simp only [One]; omega))⟩
    case pos =>
      have HHQ := Lib.hid hhd
      have bh : (a0 / 32 != s.head) = false := by simpa using hhd
      clear hhd
      by_cases h35 : s.waits = 3 ∨ s.waits = 5
      · have HFE2 : Hid (s.feed f = if 16 * (a0 / 16 % 2) ≠ s.turn then s.gives 84082688 else s.takes f) := by unfold Hid; rw [HFE.out, if_neg (fun h => h HHQ.out), if_pos h35]
        have hbb : (s.waits == 3) = true ∨ ((s.waits == 3) = false ∧ (s.waits == 5) = true) := by
          rcases h35 with h | h
          · exact .inl (by simpa using h)
          · exact .inr ⟨by rw [h]; decide, by simpa using h⟩
        clear h35
        by_cases htt : 16 * (a0 / 16 % 2) = s.turn
        · have HE : Hid (s.feed f = s.takes f) := by unfold Hid; rw [HFE2.out, if_neg (fun h => h htt)]
          have bt : (16 * (a0 / 16 % 2) != s.turn) = false := by simpa using htt
          clear htt
          rcases hbb with hb1 | ⟨hb1, hb2⟩
          · skip
            go_upto_region 9 with fail
            have HK2 := Lib.hid (fun W (h : Frm (fun _ => False) wc W) => HK.out W (HFD.out.trans' h))
            refine wp_region_held_drew (S := fun W => Frm (fun _ => False) wc W) (by kernel_rfl) ((Frm.refl _ _).drew) (fun hHeld => ?_)
            refine wpAnyH_take (i := 0) (v := ?_) rfl (by kernel_rfl) (by kernel_rfl) (by kernel_rfl) (fun _ _ _ h => h) (Or.inl ⟨by rfl, ?_⟩) (by assumption) ?_; rotate_left; · (intro wq hSq; have hq := HK2.out wq hSq; go_split_ands; go_simp; (try with_reducible rfl))
            try simp only [Act.put, getElem_toArray, getElem_cons_zero, getElem_cons_succ, setIfInBounds_toArray, set_cons_zero, set_cons_succ]
            refine wpAnyH_take (i := 1) (v := ?_) rfl (by kernel_rfl) (by kernel_rfl) (by kernel_rfl) (fun _ _ _ h => h) (Or.inl ⟨by rfl, ?_⟩) (by assumption) ?_; rotate_left; · (intro wq hSq; have hq := HK2.out wq hSq; go_split_ands; go_simp; (try with_reducible rfl))
            try simp only [Act.put, getElem_toArray, getElem_cons_zero, getElem_cons_succ, setIfInBounds_toArray, set_cons_zero, set_cons_succ]
            refine wpAnyH_take (i := 2) (v := ?_) rfl (by kernel_rfl) (by kernel_rfl) (by kernel_rfl) (fun _ _ _ h => h) (Or.inl ⟨by rfl, ?_⟩) (by assumption) ?_; rotate_left; · (intro wq hSq; have hq := HK2.out wq hSq; go_split_ands; go_simp; (try with_reducible rfl))
            try simp only [Act.put, getElem_toArray, getElem_cons_zero, getElem_cons_succ, setIfInBounds_toArray, set_cons_zero, set_cons_succ]
            refine wpAnyH_take (i := 3) (v := ?_) rfl (by kernel_rfl) (by kernel_rfl) (by kernel_rfl) (fun _ _ _ h => h) (Or.inl ⟨by rfl, ?_⟩) (by assumption) ?_; rotate_left; · (intro wq hSq; have hq := HK2.out wq hSq; go_split_ands; go_simp; (try with_reducible rfl))
            try simp only [Act.put, getElem_toArray, getElem_cons_zero, getElem_cons_succ, setIfInBounds_toArray, set_cons_zero, set_cons_succ]
            refine wpAnyH_take (i := 4) (v := ?_) rfl (by kernel_rfl) (by kernel_rfl) (by kernel_rfl) (fun _ _ _ h => h) (Or.inl ⟨by rfl, ?_⟩) (by assumption) ?_; rotate_left; · (intro wq hSq; have hq := HK2.out wq hSq; go_split_ands; go_simp; (try with_reducible rfl))
            try simp only [Act.put, getElem_toArray, getElem_cons_zero, getElem_cons_succ, setIfInBounds_toArray, set_cons_zero, set_cons_succ]
            refine wpAnyH_take (i := 5) (v := ?_) rfl (by kernel_rfl) (by kernel_rfl) (by kernel_rfl) (fun _ _ _ h => h) (Or.inl ⟨by rfl, ?_⟩) (by assumption) ?_; rotate_left; · (intro wq hSq; have hq := HK2.out wq hSq; go_split_ands; go_simp; (try with_reducible rfl))
            try simp only [Act.put, getElem_toArray, getElem_cons_zero, getElem_cons_succ, setIfInBounds_toArray, set_cons_zero, set_cons_succ]
            refine wpAnyH_take (i := 6) (v := ?_) rfl (by kernel_rfl) (by kernel_rfl) (by kernel_rfl) (fun _ _ _ h => h) (Or.inl ⟨by rfl, ?_⟩) (by assumption) ?_; rotate_left; · (intro wq hSq; have hq := HK2.out wq hSq; go_split_ands; go_simp; (try with_reducible rfl))
            try simp only [Act.put, getElem_toArray, getElem_cons_zero, getElem_cons_succ, setIfInBounds_toArray, set_cons_zero, set_cons_succ]
            refine wpAnyH_take (i := 7) (v := ?_) rfl (by kernel_rfl) (by kernel_rfl) (by kernel_rfl) (fun _ _ _ h => h) (Or.inl ⟨by rfl, ?_⟩) (by assumption) ?_; rotate_left; · (intro wq hSq; have hq := HK2.out wq hSq; go_split_ands; go_simp; (try with_reducible rfl))
            try simp only [Act.put, getElem_toArray, getElem_cons_zero, getElem_cons_succ, setIfInBounds_toArray, set_cons_zero, set_cons_succ]
            refine wpAnyH_done (by kernel_rfl) ?_ _
            obtain ⟨wd, hwd⟩ : ∃ wd, wd = wc.drew := ⟨_, rfl⟩
            rw [← hwd]
            have HFD0 := HFD
            have HFD : Hid (Frm (fun _ => False) wb wd) := by rw [hwd]; exact HFD0.out.drew
            clear hwd hHeld
            obtain ⟨r, hr⟩ : ∃ r, r = s.takes f := ⟨_, rfl⟩
            have HTK := Lib.hid (ctakes_any M c s f wd (H.out.grow (HFB.out.trans' HFD.out)) HF.out HW0.out)
            unfold TkPost at HTK
            rw [← hr] at HE HTK
            obtain ⟨s2, f2, b2⟩ := r
            unfold ptr F8.v at HTK
            simp only at HTK
            have HBY := Lib.hid (HFD.out.heap HBX.out (fun h => h))
            have HRY := Lib.hid (HFD.out.heap HRT.out (fun h => h))
            have hdz := HFD.out.size
            clear hr
            go_wp2_with (first | (refine wpList_load_row rfl 73 (.tmp 3) rfl w.heap.size rfl 73 f.c (0, 0) _ HBY.out Try.underlying73 rfl (by first | exact info_f8 | (rw [F8.size]; exact info_f8)) ?_) | (go_at_call 99; refine HTK.out.mono ?_; rintro e w1 ⟨rfl, hp1⟩; have HP1 := Lib.hid hp1; have HR1 := Lib.hid (hp1.kept HLT.out (by omega) HRY.out); clear hp1) | (refine wpl_store_whole rfl 73 (.tmp 4) (.tmp 66) rfl (w.heap.size + 1) f2.c rfl rfl 73 _ HR1.out info_f8 rfl (F8.one _) ?_; intro wz hwz hFz; have HW2 := Lib.hid hwz; have HF2 := Lib.hid hFz; clear hwz hFz))
            refine bodyPost_ret (ret_f8b rfl _ _ (w.heap.size + 1) f2.c rfl rfl HW2.out) rfl ?_
            unfold FdPost
            rw [HE.out]
            exact ⟨rfl, HP1.out.outer HLT.out (HFB.out.trans' HFD.out) ⟨by omega, by omega⟩ HF2.out⟩
          · skip
            go_upto_region 9 with fail
            have HK2 := Lib.hid (fun W (h : Frm (fun _ => False) wc W) => HK.out W (HFD.out.trans' h))
            refine wp_region_held_drew (S := fun W => Frm (fun _ => False) wc W) (by kernel_rfl) ((Frm.refl _ _).drew) (fun hHeld => ?_)
            refine wpAnyH_take (i := 0) (v := ?_) rfl (by kernel_rfl) (by kernel_rfl) (by kernel_rfl) (fun _ _ _ h => h) (Or.inl ⟨by rfl, ?_⟩) (by assumption) ?_; rotate_left; · (intro wq hSq; have hq := HK2.out wq hSq; go_split_ands; go_simp; (try with_reducible rfl))
            try simp only [Act.put, getElem_toArray, getElem_cons_zero, getElem_cons_succ, setIfInBounds_toArray, set_cons_zero, set_cons_succ]
            refine wpAnyH_take (i := 1) (v := ?_) rfl (by kernel_rfl) (by kernel_rfl) (by kernel_rfl) (fun _ _ _ h => h) (Or.inl ⟨by rfl, ?_⟩) (by assumption) ?_; rotate_left; · (intro wq hSq; have hq := HK2.out wq hSq; go_split_ands; go_simp; (try with_reducible rfl))
            try simp only [Act.put, getElem_toArray, getElem_cons_zero, getElem_cons_succ, setIfInBounds_toArray, set_cons_zero, set_cons_succ]
            refine wpAnyH_take (i := 2) (v := ?_) rfl (by kernel_rfl) (by kernel_rfl) (by kernel_rfl) (fun _ _ _ h => h) (Or.inl ⟨by rfl, ?_⟩) (by assumption) ?_; rotate_left; · (intro wq hSq; have hq := HK2.out wq hSq; go_split_ands; go_simp; (try with_reducible rfl))
            try simp only [Act.put, getElem_toArray, getElem_cons_zero, getElem_cons_succ, setIfInBounds_toArray, set_cons_zero, set_cons_succ]
            refine wpAnyH_take (i := 3) (v := ?_) rfl (by kernel_rfl) (by kernel_rfl) (by kernel_rfl) (fun _ _ _ h => h) (Or.inl ⟨by rfl, ?_⟩) (by assumption) ?_; rotate_left; · (intro wq hSq; have hq := HK2.out wq hSq; go_split_ands; go_simp; (try with_reducible rfl))
            try simp only [Act.put, getElem_toArray, getElem_cons_zero, getElem_cons_succ, setIfInBounds_toArray, set_cons_zero, set_cons_succ]
            refine wpAnyH_take (i := 4) (v := ?_) rfl (by kernel_rfl) (by kernel_rfl) (by kernel_rfl) (fun _ _ _ h => h) (Or.inl ⟨by rfl, ?_⟩) (by assumption) ?_; rotate_left; · (intro wq hSq; have hq := HK2.out wq hSq; go_split_ands; go_simp; (try with_reducible rfl))
            try simp only [Act.put, getElem_toArray, getElem_cons_zero, getElem_cons_succ, setIfInBounds_toArray, set_cons_zero, set_cons_succ]
            refine wpAnyH_take (i := 5) (v := ?_) rfl (by kernel_rfl) (by kernel_rfl) (by kernel_rfl) (fun _ _ _ h => h) (Or.inl ⟨by rfl, ?_⟩) (by assumption) ?_; rotate_left; · (intro wq hSq; have hq := HK2.out wq hSq; go_split_ands; go_simp; (try with_reducible rfl))
            try simp only [Act.put, getElem_toArray, getElem_cons_zero, getElem_cons_succ, setIfInBounds_toArray, set_cons_zero, set_cons_succ]
            refine wpAnyH_take (i := 6) (v := ?_) rfl (by kernel_rfl) (by kernel_rfl) (by kernel_rfl) (fun _ _ _ h => h) (Or.inl ⟨by rfl, ?_⟩) (by assumption) ?_; rotate_left; · (intro wq hSq; have hq := HK2.out wq hSq; go_split_ands; go_simp; (try with_reducible rfl))
            try simp only [Act.put, getElem_toArray, getElem_cons_zero, getElem_cons_succ, setIfInBounds_toArray, set_cons_zero, set_cons_succ]
            refine wpAnyH_take (i := 7) (v := ?_) rfl (by kernel_rfl) (by kernel_rfl) (by kernel_rfl) (fun _ _ _ h => h) (Or.inl ⟨by rfl, ?_⟩) (by assumption) ?_; rotate_left; · (intro wq hSq; have hq := HK2.out wq hSq; go_split_ands; go_simp; (try with_reducible rfl))
            try simp only [Act.put, getElem_toArray, getElem_cons_zero, getElem_cons_succ, setIfInBounds_toArray, set_cons_zero, set_cons_succ]
            refine wpAnyH_done (by kernel_rfl) ?_ _
            obtain ⟨wd, hwd⟩ : ∃ wd, wd = wc.drew := ⟨_, rfl⟩
            rw [← hwd]
            have HFD0 := HFD
            have HFD : Hid (Frm (fun _ => False) wb wd) := by rw [hwd]; exact HFD0.out.drew
            clear hwd hHeld
            obtain ⟨r, hr⟩ : ∃ r, r = s.takes f := ⟨_, rfl⟩
            have HTK := Lib.hid (ctakes_any M c s f wd (H.out.grow (HFB.out.trans' HFD.out)) HF.out HW0.out)
            unfold TkPost at HTK
            rw [← hr] at HE HTK
            obtain ⟨s2, f2, b2⟩ := r
            unfold ptr F8.v at HTK
            simp only at HTK
            have HBY := Lib.hid (HFD.out.heap HBX.out (fun h => h))
            have HRY := Lib.hid (HFD.out.heap HRT.out (fun h => h))
            have hdz := HFD.out.size
            clear hr
            go_wp2_with (first | (refine wpList_load_row rfl 73 (.tmp 3) rfl w.heap.size rfl 73 f.c (0, 0) _ HBY.out Try.underlying73 rfl (by first | exact info_f8 | (rw [F8.size]; exact info_f8)) ?_) | (go_at_call 99; refine HTK.out.mono ?_; rintro e w1 ⟨rfl, hp1⟩; have HP1 := Lib.hid hp1; have HR1 := Lib.hid (hp1.kept HLT.out (by omega) HRY.out); clear hp1) | (refine wpl_store_whole rfl 73 (.tmp 4) (.tmp 66) rfl (w.heap.size + 1) f2.c rfl rfl 73 _ HR1.out info_f8 rfl (F8.one _) ?_; intro wz hwz hFz; have HW2 := Lib.hid hwz; have HF2 := Lib.hid hFz; clear hwz hFz))
            refine bodyPost_ret (ret_f8b rfl _ _ (w.heap.size + 1) f2.c rfl rfl HW2.out) rfl ?_
            unfold FdPost
            rw [HE.out]
            exact ⟨rfl, HP1.out.outer HLT.out (HFB.out.trans' HFD.out) ⟨by omega, by omega⟩ HF2.out⟩
        · have HE : Hid (s.feed f = s.gives 84082688) := by unfold Hid; rw [HFE2.out, if_pos htt]
          have bt : (16 * (a0 / 16 % 2) != s.turn) = true := by simpa using htt
          clear htt
          rcases hbb with hb1 | ⟨hb1, hb2⟩
          · skip
            go_upto_region 9 with fail
            have HK2 := Lib.hid (fun W (h : Frm (fun _ => False) wc W) => HK.out W (HFD.out.trans' h))
            refine wp_region_held_drew (S := fun W => Frm (fun _ => False) wc W) (by kernel_rfl) ((Frm.refl _ _).drew) (fun hHeld => ?_)
            refine wpAnyH_take (i := 0) (v := ?_) rfl (by kernel_rfl) (by kernel_rfl) (by kernel_rfl) (fun _ _ _ h => h) (Or.inl ⟨by rfl, ?_⟩) (by assumption) ?_; rotate_left; · (intro wq hSq; have hq := HK2.out wq hSq; go_split_ands; go_simp; (try with_reducible rfl))
            try simp only [Act.put, getElem_toArray, getElem_cons_zero, getElem_cons_succ, setIfInBounds_toArray, set_cons_zero, set_cons_succ]
            refine wpAnyH_take (i := 1) (v := ?_) rfl (by kernel_rfl) (by kernel_rfl) (by kernel_rfl) (fun _ _ _ h => h) (Or.inl ⟨by rfl, ?_⟩) (by assumption) ?_; rotate_left; · (intro wq hSq; have hq := HK2.out wq hSq; go_split_ands; go_simp; (try with_reducible rfl))
            try simp only [Act.put, getElem_toArray, getElem_cons_zero, getElem_cons_succ, setIfInBounds_toArray, set_cons_zero, set_cons_succ]
            refine wpAnyH_take (i := 2) (v := ?_) rfl (by kernel_rfl) (by kernel_rfl) (by kernel_rfl) (fun _ _ _ h => h) (Or.inl ⟨by rfl, ?_⟩) (by assumption) ?_; rotate_left; · (intro wq hSq; have hq := HK2.out wq hSq; go_split_ands; go_simp; (try with_reducible rfl))
            try simp only [Act.put, getElem_toArray, getElem_cons_zero, getElem_cons_succ, setIfInBounds_toArray, set_cons_zero, set_cons_succ]
            refine wpAnyH_take (i := 3) (v := ?_) rfl (by kernel_rfl) (by kernel_rfl) (by kernel_rfl) (fun _ _ _ h => h) (Or.inl ⟨by rfl, ?_⟩) (by assumption) ?_; rotate_left; · (intro wq hSq; have hq := HK2.out wq hSq; go_split_ands; go_simp; (try with_reducible rfl))
            try simp only [Act.put, getElem_toArray, getElem_cons_zero, getElem_cons_succ, setIfInBounds_toArray, set_cons_zero, set_cons_succ]
            refine wpAnyH_take (i := 4) (v := ?_) rfl (by kernel_rfl) (by kernel_rfl) (by kernel_rfl) (fun _ _ _ h => h) (Or.inl ⟨by rfl, ?_⟩) (by assumption) ?_; rotate_left; · (intro wq hSq; have hq := HK2.out wq hSq; go_split_ands; go_simp; (try with_reducible rfl))
            try simp only [Act.put, getElem_toArray, getElem_cons_zero, getElem_cons_succ, setIfInBounds_toArray, set_cons_zero, set_cons_succ]
            refine wpAnyH_take (i := 5) (v := ?_) rfl (by kernel_rfl) (by kernel_rfl) (by kernel_rfl) (fun _ _ _ h => h) (Or.inl ⟨by rfl, ?_⟩) (by assumption) ?_; rotate_left; · (intro wq hSq; have hq := HK2.out wq hSq; go_split_ands; go_simp; (try with_reducible rfl))
            try simp only [Act.put, getElem_toArray, getElem_cons_zero, getElem_cons_succ, setIfInBounds_toArray, set_cons_zero, set_cons_succ]
            refine wpAnyH_take (i := 6) (v := ?_) rfl (by kernel_rfl) (by kernel_rfl) (by kernel_rfl) (fun _ _ _ h => h) (Or.inl ⟨by rfl, ?_⟩) (by assumption) ?_; rotate_left; · (intro wq hSq; have hq := HK2.out wq hSq; go_split_ands; go_simp; (try with_reducible rfl))
            try simp only [Act.put, getElem_toArray, getElem_cons_zero, getElem_cons_succ, setIfInBounds_toArray, set_cons_zero, set_cons_succ]
            refine wpAnyH_take (i := 7) (v := ?_) rfl (by kernel_rfl) (by kernel_rfl) (by kernel_rfl) (fun _ _ _ h => h) (Or.inl ⟨by rfl, ?_⟩) (by assumption) ?_; rotate_left; · (intro wq hSq; have hq := HK2.out wq hSq; go_split_ands; go_simp; (try with_reducible rfl))
            try simp only [Act.put, getElem_toArray, getElem_cons_zero, getElem_cons_succ, setIfInBounds_toArray, set_cons_zero, set_cons_succ]
            refine wpAnyH_done (by kernel_rfl) ?_ _
            obtain ⟨wd, hwd⟩ : ∃ wd, wd = wc.drew := ⟨_, rfl⟩
            rw [← hwd]
            have HFD0 := HFD
            have HFD : Hid (Frm (fun _ => False) wb wd) := by rw [hwd]; exact HFD0.out.drew
            clear hwd hHeld
            have hgv := HGV.out wd 84082688 (HFB.out.trans' HFD.out) (by decide)
            unfold Cl.gives at HE
            obtain ⟨f2, hf2⟩ : ∃ f2, f2 = fr8 128 s.idx s.sub 84082688 := ⟨_, rfl⟩
            rw [← hf2] at hgv HE
            (try unfold ptr at hgv)
            (try unfold F8.v at hgv)
            have HG := Lib.hid hgv
            clear hgv hf2
            go_wp2_with (first | (go_at_call 73; refine HG.out.mono ?_; rintro e w2 ⟨rfl, hc2, hF2⟩; have HC2 := Lib.hid hc2; have HF2 := Lib.hid ((HFD.out.mono (fun _ _ h => h.elim) : Frm (One c) wb _).trans' hF2); have HR2 : Hid (w2.heap[w.heap.size + 1]? = some (.cells #[.int .u8 0, .int .u8 0, .int .u8 0, .int .u8 0, .int .u8 0, .int .u8 0, .int .u8 0, .int .u8 0] 73 (0, 0))) := hF2.heap (HFD.out.heap HRT.out (fun h => h)) (by simp only [One]; omega); clear hc2 hF2) | (refine wpl_store_whole rfl 73 (.tmp 4) (.tmp 53) rfl (w.heap.size + 1) f2.c rfl rfl 73 _ HR2.out info_f8 rfl (F8.one _) ?_; intro wz hwz hFz; have HW3 := Lib.hid hwz; have HF3 := Lib.hid hFz; clear hwz hFz))
            refine bodyPost_ret (ret_f8b rfl _ _ (w.heap.size + 1) f2.c rfl rfl HW3.out) rfl ?_
            unfold FdPost
            rw [HE.out]
            exact ⟨rfl, ClPost.over H.out (((HFB.out.mono (fun _ _ h => h.elim)).trans HF2.out (fun i hi h => h)).trans HF3.out (fun i hi h => by simp only [One] at h; omega)) (by decide) (HF3.out.heap HC2.out (by simp only [One]; omega))⟩
          · skip
            go_upto_region 9 with fail
            have HK2 := Lib.hid (fun W (h : Frm (fun _ => False) wc W) => HK.out W (HFD.out.trans' h))
            refine wp_region_held_drew (S := fun W => Frm (fun _ => False) wc W) (by kernel_rfl) ((Frm.refl _ _).drew) (fun hHeld => ?_)
            refine wpAnyH_take (i := 0) (v := ?_) rfl (by kernel_rfl) (by kernel_rfl) (by kernel_rfl) (fun _ _ _ h => h) (Or.inl ⟨by rfl, ?_⟩) (by assumption) ?_; rotate_left; · (intro wq hSq; have hq := HK2.out wq hSq; go_split_ands; go_simp; (try with_reducible rfl))
            try simp only [Act.put, getElem_toArray, getElem_cons_zero, getElem_cons_succ, setIfInBounds_toArray, set_cons_zero, set_cons_succ]
            refine wpAnyH_take (i := 1) (v := ?_) rfl (by kernel_rfl) (by kernel_rfl) (by kernel_rfl) (fun _ _ _ h => h) (Or.inl ⟨by rfl, ?_⟩) (by assumption) ?_; rotate_left; · (intro wq hSq; have hq := HK2.out wq hSq; go_split_ands; go_simp; (try with_reducible rfl))
            try simp only [Act.put, getElem_toArray, getElem_cons_zero, getElem_cons_succ, setIfInBounds_toArray, set_cons_zero, set_cons_succ]
            refine wpAnyH_take (i := 2) (v := ?_) rfl (by kernel_rfl) (by kernel_rfl) (by kernel_rfl) (fun _ _ _ h => h) (Or.inl ⟨by rfl, ?_⟩) (by assumption) ?_; rotate_left; · (intro wq hSq; have hq := HK2.out wq hSq; go_split_ands; go_simp; (try with_reducible rfl))
            try simp only [Act.put, getElem_toArray, getElem_cons_zero, getElem_cons_succ, setIfInBounds_toArray, set_cons_zero, set_cons_succ]
            refine wpAnyH_take (i := 3) (v := ?_) rfl (by kernel_rfl) (by kernel_rfl) (by kernel_rfl) (fun _ _ _ h => h) (Or.inl ⟨by rfl, ?_⟩) (by assumption) ?_; rotate_left; · (intro wq hSq; have hq := HK2.out wq hSq; go_split_ands; go_simp; (try with_reducible rfl))
            try simp only [Act.put, getElem_toArray, getElem_cons_zero, getElem_cons_succ, setIfInBounds_toArray, set_cons_zero, set_cons_succ]
            refine wpAnyH_take (i := 4) (v := ?_) rfl (by kernel_rfl) (by kernel_rfl) (by kernel_rfl) (fun _ _ _ h => h) (Or.inl ⟨by rfl, ?_⟩) (by assumption) ?_; rotate_left; · (intro wq hSq; have hq := HK2.out wq hSq; go_split_ands; go_simp; (try with_reducible rfl))
            try simp only [Act.put, getElem_toArray, getElem_cons_zero, getElem_cons_succ, setIfInBounds_toArray, set_cons_zero, set_cons_succ]
            refine wpAnyH_take (i := 5) (v := ?_) rfl (by kernel_rfl) (by kernel_rfl) (by kernel_rfl) (fun _ _ _ h => h) (Or.inl ⟨by rfl, ?_⟩) (by assumption) ?_; rotate_left; · (intro wq hSq; have hq := HK2.out wq hSq; go_split_ands; go_simp; (try with_reducible rfl))
            try simp only [Act.put, getElem_toArray, getElem_cons_zero, getElem_cons_succ, setIfInBounds_toArray, set_cons_zero, set_cons_succ]
            refine wpAnyH_take (i := 6) (v := ?_) rfl (by kernel_rfl) (by kernel_rfl) (by kernel_rfl) (fun _ _ _ h => h) (Or.inl ⟨by rfl, ?_⟩) (by assumption) ?_; rotate_left; · (intro wq hSq; have hq := HK2.out wq hSq; go_split_ands; go_simp; (try with_reducible rfl))
            try simp only [Act.put, getElem_toArray, getElem_cons_zero, getElem_cons_succ, setIfInBounds_toArray, set_cons_zero, set_cons_succ]
            refine wpAnyH_take (i := 7) (v := ?_) rfl (by kernel_rfl) (by kernel_rfl) (by kernel_rfl) (fun _ _ _ h => h) (Or.inl ⟨by rfl, ?_⟩) (by assumption) ?_; rotate_left; · (intro wq hSq; have hq := HK2.out wq hSq; go_split_ands; go_simp; (try with_reducible rfl))
            try simp only [Act.put, getElem_toArray, getElem_cons_zero, getElem_cons_succ, setIfInBounds_toArray, set_cons_zero, set_cons_succ]
            refine wpAnyH_done (by kernel_rfl) ?_ _
            obtain ⟨wd, hwd⟩ : ∃ wd, wd = wc.drew := ⟨_, rfl⟩
            rw [← hwd]
            have HFD0 := HFD
            have HFD : Hid (Frm (fun _ => False) wb wd) := by rw [hwd]; exact HFD0.out.drew
            clear hwd hHeld
            have hgv := HGV.out wd 84082688 (HFB.out.trans' HFD.out) (by decide)
            unfold Cl.gives at HE
            obtain ⟨f2, hf2⟩ : ∃ f2, f2 = fr8 128 s.idx s.sub 84082688 := ⟨_, rfl⟩
            rw [← hf2] at hgv HE
            (try unfold ptr at hgv)
            (try unfold F8.v at hgv)
            have HG := Lib.hid hgv
            clear hgv hf2
            go_wp2_with (first | (go_at_call 73; refine HG.out.mono ?_; rintro e w2 ⟨rfl, hc2, hF2⟩; have HC2 := Lib.hid hc2; have HF2 := Lib.hid ((HFD.out.mono (fun _ _ h => h.elim) : Frm (One c) wb _).trans' hF2); have HR2 : Hid (w2.heap[w.heap.size + 1]? = some (.cells #[.int .u8 0, .int .u8 0, .int .u8 0, .int .u8 0, .int .u8 0, .int .u8 0, .int .u8 0, .int .u8 0] 73 (0, 0))) := hF2.heap (HFD.out.heap HRT.out (fun h => h)) (by simp only [One]; omega); clear hc2 hF2) | (refine wpl_store_whole rfl 73 (.tmp 4) (.tmp 53) rfl (w.heap.size + 1) f2.c rfl rfl 73 _ HR2.out info_f8 rfl (F8.one _) ?_; intro wz hwz hFz; have HW3 := Lib.hid hwz; have HF3 := Lib.hid hFz; clear hwz hFz))
            refine bodyPost_ret (ret_f8b rfl _ _ (w.heap.size + 1) f2.c rfl rfl HW3.out) rfl ?_
            unfold FdPost
            rw [HE.out]
            exact ⟨rfl, ClPost.over H.out (((HFB.out.mono (fun _ _ h => h.elim)).trans HF2.out (fun i hi h => h)).trans HF3.out (fun i hi h => by simp only [One] at h; omega)) (by decide) (HF3.out.heap HC2.out (by simp only [One]; omega))⟩
      · have hb1 : (s.waits == 3) = false := by simpa using fun h => h35 (.inl h)
        have hb2 : (s.waits == 5) = false := by simpa using fun h => h35 (.inr h)
        have HHE := Lib.hid (fun W (hF : Frm (fun _ => False) w W) => chere_any c s _ vr f W (hF.heap HC.out (fun h => h)) HF.out)
        have HFE2 : Hid (s.feed f = if f.place ≠ s.idx ∨ f.a3 ≠ s.sub then s.gives 84148225 else s.takes f) := by unfold Hid; rw [HFE.out, if_neg (fun h => h HHQ.out), if_neg h35]
        clear h35
        have HBY0 := Lib.hid (HFD.out.heap HBX.out (fun h => h))
        unfold ptr F8.v at HHE
        by_cases hpl : f.place = s.idx ∧ f.a3 = s.sub
        · have hq : (decide (f.place = s.idx) && decide (f.a3 = s.sub)) = true := by simp [hpl.1, hpl.2]
          have HE : Hid (s.feed f = s.takes f) := by unfold Hid; rw [HFE2.out, if_neg (fun h => h.elim (fun h => h hpl.1) (fun h => h hpl.2))]
          rw [hq] at HHE
          clear hq hpl
          go_upto_if 58 with (first | (refine wpList_load_row rfl 73 (.tmp 3) rfl w.heap.size rfl 73 f.c (0, 0) _ HBY0.out Try.underlying73 rfl (by first | exact info_f8 | (rw [F8.size]; exact info_f8)) ?_) | (go_at_call 98; refine (HHE.out _ (HFB.out.trans' HFD.out)).mono ?_; rintro e wd ⟨rfl, hFd⟩; have HFD0 := HFD; have HFD : Hid (Frm (fun _ => False) wb wd) := HFD0.out.trans' hFd; clear hFd))
          obtain ⟨r, hr⟩ : ∃ r, r = s.takes f := ⟨_, rfl⟩
          have HTK := Lib.hid (ctakes_any M c s f wd (H.out.grow (HFB.out.trans' HFD.out)) HF.out HW0.out)
          unfold TkPost at HTK
          rw [← hr] at HE HTK
          obtain ⟨s2, f2, b2⟩ := r
          unfold ptr F8.v at HTK
          simp only at HTK
          have HBY := Lib.hid (HFD.out.heap HBX.out (fun h => h))
          have HRY := Lib.hid (HFD.out.heap HRT.out (fun h => h))
          have hdz := HFD.out.size
          clear hr
          go_wp2_with (first | (refine wpList_load_row rfl 73 (.tmp 3) rfl w.heap.size rfl 73 f.c (0, 0) _ HBY.out Try.underlying73 rfl (by first | exact info_f8 | (rw [F8.size]; exact info_f8)) ?_) | (go_at_call 99; refine HTK.out.mono ?_; rintro e w1 ⟨rfl, hp1⟩; have HP1 := Lib.hid hp1; have HR1 := Lib.hid (hp1.kept HLT.out (by omega) HRY.out); clear hp1) | (refine wpl_store_whole rfl 73 (.tmp 4) (.tmp 66) rfl (w.heap.size + 1) f2.c rfl rfl 73 _ HR1.out info_f8 rfl (F8.one _) ?_; intro wz hwz hFz; have HW2 := Lib.hid hwz; have HF2 := Lib.hid hFz; clear hwz hFz))
          refine bodyPost_ret (ret_f8b rfl _ _ (w.heap.size + 1) f2.c rfl rfl HW2.out) rfl ?_
          unfold FdPost
          rw [HE.out]
          exact ⟨rfl, HP1.out.outer HLT.out (HFB.out.trans' HFD.out) ⟨by omega, by omega⟩ HF2.out⟩
        · have hq : (decide (f.place = s.idx) && decide (f.a3 = s.sub)) = false := by
            rw [Bool.and_eq_false_iff, decide_eq_false_iff_not, decide_eq_false_iff_not]
            by_cases h : f.place = s.idx
            · exact .inr (fun h2 => hpl ⟨h, h2⟩)
            · exact .inl h
          have HE : Hid (s.feed f = s.gives 84148225) := by
            unfold Hid
            rw [HFE2.out, if_pos]
            by_cases h : f.place = s.idx
            · exact .inr (fun h2 => hpl ⟨h, h2⟩)
            · exact .inl h
          rw [hq] at HHE
          clear hq hpl
          go_upto_if 58 with (first | (refine wpList_load_row rfl 73 (.tmp 3) rfl w.heap.size rfl 73 f.c (0, 0) _ HBY0.out Try.underlying73 rfl (by first | exact info_f8 | (rw [F8.size]; exact info_f8)) ?_) | (go_at_call 98; refine (HHE.out _ (HFB.out.trans' HFD.out)).mono ?_; rintro e wd ⟨rfl, hFd⟩; have HFD0 := HFD; have HFD : Hid (Frm (fun _ => False) wb wd) := HFD0.out.trans' hFd; clear hFd))
          have hgv := HGV.out wd 84148225 (HFB.out.trans' HFD.out) (by decide)
          unfold Cl.gives at HE
          obtain ⟨f2, hf2⟩ : ∃ f2, f2 = fr8 128 s.idx s.sub 84148225 := ⟨_, rfl⟩
          rw [← hf2] at hgv HE
          (try unfold ptr at hgv)
          (try unfold F8.v at hgv)
          have HG := Lib.hid hgv
          clear hgv hf2
          go_wp2_with (first | (go_at_call 73; refine HG.out.mono ?_; rintro e w2 ⟨rfl, hc2, hF2⟩; have HC2 := Lib.hid hc2; have HF2 := Lib.hid ((HFD.out.mono (fun _ _ h => h.elim) : Frm (One c) wb _).trans' hF2); have HR2 : Hid (w2.heap[w.heap.size + 1]? = some (.cells #[.int .u8 0, .int .u8 0, .int .u8 0, .int .u8 0, .int .u8 0, .int .u8 0, .int .u8 0, .int .u8 0] 73 (0, 0))) := hF2.heap (HFD.out.heap HRT.out (fun h => h)) (by simp only [One]; omega); clear hc2 hF2) | (refine wpl_store_whole rfl 73 (.tmp 4) (.tmp 61) rfl (w.heap.size + 1) f2.c rfl rfl 73 _ HR2.out info_f8 rfl (F8.one _) ?_; intro wz hwz hFz; have HW3 := Lib.hid hwz; have HF3 := Lib.hid hFz; clear hwz hFz))
          refine bodyPost_ret (ret_f8b rfl _ _ (w.heap.size + 1) f2.c rfl rfl HW3.out) rfl ?_
          unfold FdPost
          rw [HE.out]
          exact ⟨rfl, ClPost.over H.out (((HFB.out.mono (fun _ _ h => h.elim)).trans HF2.out (fun i hi h => h)).trans HF3.out (fun i hi h => by simp only [One] at h; omega)) (by decide) (HF3.out.heap HC2.out (by simp only [One]; omega))⟩
end Go.Proofs.Ytmkkeglcjbogcaa
