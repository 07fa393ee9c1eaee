/-
  The client takes an answer that fits.
-/
import Derived.Test.YtmkkeglcjbogcaaM029d43ce
set_option linter.unusedVariables false
set_option linter.unusedSimpArgs false
namespace Go.Proofs.Ytmkkeglcjbogcaa
open Go.RowKit
set_option linter.unusedVariables false
set_option linter.unusedSimpArgs false

/-- A frame of the call's own is written behind the client's call. -/
theorem ClPost.outer {M : Nat → Prop} {w wb w1 w2 : World} {c t : Nat} {s : Cl} (h0 : ∀ k, M k → k < w.heap.size) (hF0 : Frm (fun _ => False) w wb) (h1 : ClPost M wb c s w1) (ht : w.heap.size ≤ t ∧ t < wb.heap.size) (hF2 : Frm (One t) w1 w2) : ClPost M w c s w2 := by
  obtain ⟨M1, h3, h4, h5⟩ := h1
  have hn : ∀ k, M1 k → k ≠ t := fun k hk e => by
    rcases h5 k hk with h | h
    · have := h0 k h; omega
    · omega
  refine ⟨M1, h3.frm hF2 (fun k hk h => hn k hk h), ((hF0.mono (fun _ _ h => h.elim)).trans h4 (fun i hi h => h)).trans hF2 (fun i hi h => by simp only [One] at h; omega), fun k hk => ?_⟩
  rcases h5 k hk with h | h
  · exact .inl h
  · exact .inr (Nat.le_trans hF0.size h)
theorem ClPost.kept {M : Nat → Prop} {w wb w1 : World} {c t : Nat} {s : Cl} {o : Obj} (h0 : ∀ k, M k → k < w.heap.size) (h1 : ClPost M wb c s w1) (ht : w.heap.size ≤ t) (hg : wb.heap[t]? = some o) : w1.heap[t]? = some o := by
  obtain ⟨M1, h3, h4, h5⟩ := h1
  exact h4.heap hg (fun h => by have := h0 t h; omega)
theorem seg_post {M : Nat → Prop} {w wx w' : World} {c : Nat} {s s' : Cl} {vb vr : Value} {e : Ending} (h : ClHas M w c s) (hF : Frm M w wx) (hs : wx.heap[c]? = some (.cells (clC s' vb vr) 143 (0, 0))) (hok : s'.ok) (hw : s'.waits = 3) (hn : vr = .slice none 0 0) (hr : s'.res = [])
    (hvb : ∀ k, vb.ownBlock = some k → M k ∧ k ≠ c) (hp : SegPost c s' vb vr wx e w') : e = .returned (seg8 s'.turn s'.b).v ∧ ClPost M w c s'.segment.1 w' := by
  obtain ⟨h1, vb', h2, h3, h4, h5⟩ := hp
  refine ⟨h1, ClPost.lay h (hF.trans h5 (fun i hi h2 => by rw [h2]; exact h.2.1)) ⟨hok.hw, hok.hi, hok.hs, hok.ht, by show (s'.b.drop 7).length ≤ 65536; rw [List.length_drop]; have := hok.hb; omega, hok.hc, hok.hz, hok.hr⟩ h2 h3 ?_ (fun k hk => ⟨.inl (hvb k (h4 k hk)).1, (hvb k (h4 k hk)).2⟩) (fun k hk => by rw [hn] at hk; exact absurd hk (nil_block k)) (fun h => by rcases h with h | h <;> exact absurd (hw.symm.trans h) (by decide)) (fun _ => hn)⟩
  rw [hn]
  show BytesAt w' _ s'.res
  rw [hr]
  exact nil_bytes _
theorem nil_res {w : World} {bs : List UInt8} (h : BytesAt w (.slice none 0 0) bs) : bs = [] := by
  obtain ⟨A, cap, e, _⟩ := h
  simp only [Value.slice.injEq] at e
  exact List.eq_nil_of_length_eq_zero e.2.1.symm
def TkPost (M : Nat → Prop) (c : Nat) (s : Cl) (f : F8) (w : World) (e : Ending) (w' : World) : Prop := e = .returned (.tuple #[(s.takes f).2.1.v, .bool (s.takes f).2.2]) ∧ ClPost M w c (s.takes f).1 w'
set_option maxRecDepth 100000 in
set_option maxHeartbeats 4000000 in
theorem ctakes_any (M : Nat → Prop) (c : Nat) (s : Cl) (f : F8) (w : World) (h : ClHas M w c s) (hf : f.ok) (hw0 : s.waits ≠ 0) : Calls Try.prog 99 #[ptr c, f.v] w (TkPost M c s f w) := by
  have H := Lib.hid h
  obtain ⟨hok, hM, hlt, vb, vr, hc, hb, hr, hvb, hvr, ho, hnn⟩ := h
  have HC := Lib.hid hc
  have hclt := lt_of_block hc
  have HM : Hid (M c) := hM
  have HLT := Lib.hid hlt
  have HF := Lib.hid hf
  have HOK := Lib.hid hok
  have HB := Lib.hid hb
  have HVB := Lib.hid hvb
  have hvn := hnn hw0
  have HVN := Lib.hid hvn
  have HRS : Hid (s.res = []) := by unfold Hid; rw [hvn] at hr; exact nil_res hr
  have hw6 := hok.hw
  have htn := hok.ht
  have hxor := xor_turn s.turn htn
  clear hc hb hr hvb hvr ho hok hnn hM hlt hvn hf
  by_cases hw4 : s.waits = 4
  · have HE : Hid (s.takes f = s.first f) := by unfold Hid Cl.takes; rw [if_neg (by omega), if_neg (by omega), if_pos hw4]
    have HCT := Lib.hid (fun W (hF : Frm (fun _ => False) w W) => cfirst_any M c s f W (H.out.grow hF) HF.out hw4)
    unfold FstPost at HCT
    obtain ⟨r, hr⟩ : ∃ r, r = s.first f := ⟨_, rfl⟩
    rw [← hr] at HE HCT
    obtain ⟨s2, f2, b2⟩ := r
    have HW4 := Lib.hid hw4
    unfold ptr F8.v at *
    simp only at HCT
    clear hw4 hw0 hw6 htn hr
    go_enter Try.func99, Try.ntmps99
    go_upto_region 1 with fail
    have hbx : ((w.alloc (.cells f.c 73 (0, 0))).alloc (.cells #[.int .u8 0, .int .u8 0, .int .u8 0, .int .u8 0, .int .u8 0, .int .u8 0, .int .u8 0, .int .u8 0] 73 (0, 0))).heap[w.heap.size]? = some (.cells f.c 73 (0, 0)) := heap_alloc_old (heap_new w _)
    have hrt : ((w.alloc (.cells f.c 73 (0, 0))).alloc (.cells #[.int .u8 0, .int .u8 0, .int .u8 0, .int .u8 0, .int .u8 0, .int .u8 0, .int .u8 0, .int .u8 0] 73 (0, 0))).heap[w.heap.size + 1]? = some (.cells #[.int .u8 0, .int .u8 0, .int .u8 0, .int .u8 0, .int .u8 0, .int .u8 0, .int .u8 0, .int .u8 0] 73 (0, 0)) := heap_new_at (by simp)
    have hfb : Frm (fun _ => False) w ((w.alloc (.cells f.c 73 (0, 0))).alloc (.cells #[.int .u8 0, .int .u8 0, .int .u8 0, .int .u8 0, .int .u8 0, .int .u8 0, .int .u8 0, .int .u8 0] 73 (0, 0))) := by (repeat' (first | (with_reducible exact Frm.refl _ _) | (with_reducible assumption) | (with_reducible refine Frm.alloc ?_ _) | (with_reducible refine Frm.drew ?_) | (with_reducible refine Frm.drewN ?_ _) | (with_reducible refine Frm.set1 ?_ _) | (with_reducible refine Frm.setCell ?_ ?_ _) | (exact fun h => absurd h (Nat.lt_irrefl _)) | (intro hlt; simp [World.size_alloc, One] at hlt ⊢; omega)))
    obtain ⟨wb, hwb⟩ : ∃ wb, wb = (w.alloc (.cells f.c 73 (0, 0))).alloc (.cells #[.int .u8 0, .int .u8 0, .int .u8 0, .int .u8 0, .int .u8 0, .int .u8 0, .int .u8 0, .int .u8 0] 73 (0, 0)) := ⟨_, rfl⟩
    rw [← hwb] at hbx hrt hfb ⊢
    have HBX := Lib.hid hbx
    have HRT := Lib.hid hrt
    have HFB := Lib.hid hfb
    have hwbs := lt_of_block hrt
    clear hbx hrt hfb hwb
    have kc0 : wb.cell? ⟨c, 0, none⟩ = some (.int .i64 4) := by rw [← HW4.out]; exact cell_at (HFB.out.heap HC.out (fun h => h))
    go_wp2_with (first | (refine wpList_load_row rfl 73 (.tmp 3) rfl w.heap.size rfl 73 f.c (0, 0) _ HBX.out Try.underlying73 rfl (by first | exact info_f8 | (rw [F8.size]; exact info_f8)) ?_) | (go_at_call 115; refine (HCT.out _ HFB.out).mono ?_; rintro e w1 ⟨rfl, hp1⟩; have HP1 := Lib.hid hp1; have HR1 := Lib.hid (hp1.kept HLT.out (by omega) HRT.out); clear hp1) | (refine wpl_store_whole rfl 73 (.tmp 4) (.tmp 38) rfl (w.heap.size + 1) f2.c rfl rfl 73 _ HR1.out info_f8 rfl (F8.one _) ?_; intro wz hwz hFz; have HW2 := Lib.hid hwz; have HF2 := Lib.hid hFz; clear hwz hFz))
    refine bodyPost_ret (ret_f8b rfl _ _ (w.heap.size + 1) f2.c rfl rfl HW2.out) rfl ?_
    unfold TkPost
    rw [HE.out]
    exact ⟨rfl, HP1.out.outer HLT.out HFB.out ⟨by omega, hwbs⟩ HF2.out⟩
  by_cases hw5 : s.waits = 5
  · have HE : Hid (s.takes f = s.further f) := by unfold Hid Cl.takes; rw [if_neg (by omega), if_neg (by omega), if_neg hw4, if_pos hw5]
    have HCT := Lib.hid (fun W (hF : Frm (fun _ => False) w W) => cfurther_any M c s f W (H.out.grow hF) HF.out hw5 HOK.out.hb)
    unfold FurPost at HCT
    obtain ⟨r, hr⟩ : ∃ r, r = s.further f := ⟨_, rfl⟩
    rw [← hr] at HE HCT
    obtain ⟨s2, f2, b2⟩ := r
    have HW4 := Lib.hid hw5
    unfold ptr F8.v at *
    simp only at HCT
    clear hw4 hw0 hw6 htn hr hw5
    go_enter Try.func99, Try.ntmps99
    go_upto_region 1 with fail
    have hbx : ((w.alloc (.cells f.c 73 (0, 0))).alloc (.cells #[.int .u8 0, .int .u8 0, .int .u8 0, .int .u8 0, .int .u8 0, .int .u8 0, .int .u8 0, .int .u8 0] 73 (0, 0))).heap[w.heap.size]? = some (.cells f.c 73 (0, 0)) := heap_alloc_old (heap_new w _)
    have hrt : ((w.alloc (.cells f.c 73 (0, 0))).alloc (.cells #[.int .u8 0, .int .u8 0, .int .u8 0, .int .u8 0, .int .u8 0, .int .u8 0, .int .u8 0, .int .u8 0] 73 (0, 0))).heap[w.heap.size + 1]? = some (.cells #[.int .u8 0, .int .u8 0, .int .u8 0, .int .u8 0, .int .u8 0, .int .u8 0, .int .u8 0, .int .u8 0] 73 (0, 0)) := heap_new_at (by simp)
    have hfb : Frm (fun _ => False) w ((w.alloc (.cells f.c 73 (0, 0))).alloc (.cells #[.int .u8 0, .int .u8 0, .int .u8 0, .int .u8 0, .int .u8 0, .int .u8 0, .int .u8 0, .int .u8 0] 73 (0, 0))) := by (repeat' (first | (with_reducible exact Frm.refl _ _) | (with_reducible assumption) | (with_reducible refine Frm.alloc ?_ _) | (with_reducible refine Frm.drew ?_) | (with_reducible refine Frm.drewN ?_ _) | (with_reducible refine Frm.set1 ?_ _) | (with_reducible refine Frm.setCell ?_ ?_ _) | (exact fun h => absurd h (Nat.lt_irrefl _)) | (intro hlt; simp [World.size_alloc, One] at hlt ⊢; omega)))
    obtain ⟨wb, hwb⟩ : ∃ wb, wb = (w.alloc (.cells f.c 73 (0, 0))).alloc (.cells #[.int .u8 0, .int .u8 0, .int .u8 0, .int .u8 0, .int .u8 0, .int .u8 0, .int .u8 0, .int .u8 0] 73 (0, 0)) := ⟨_, rfl⟩
    rw [← hwb] at hbx hrt hfb ⊢
    have HBX := Lib.hid hbx
    have HRT := Lib.hid hrt
    have HFB := Lib.hid hfb
    have hwbs := lt_of_block hrt
    clear hbx hrt hfb hwb
    have kc0 : wb.cell? ⟨c, 0, none⟩ = some (.int .i64 5) := by rw [← HW4.out]; exact cell_at (HFB.out.heap HC.out (fun h => h))
    go_wp2_with (first | (refine wpList_load_row rfl 73 (.tmp 3) rfl w.heap.size rfl 73 f.c (0, 0) _ HBX.out Try.underlying73 rfl (by first | exact info_f8 | (rw [F8.size]; exact info_f8)) ?_) | (go_at_call 116; refine (HCT.out _ HFB.out).mono ?_; rintro e w1 ⟨rfl, hp1⟩; have HP1 := Lib.hid hp1; have HR1 := Lib.hid (hp1.kept HLT.out (by omega) HRT.out); clear hp1) | (refine wpl_store_whole rfl 73 (.tmp 4) (.tmp 45) rfl (w.heap.size + 1) f2.c rfl rfl 73 _ HR1.out info_f8 rfl (F8.one _) ?_; intro wz hwz hFz; have HW2 := Lib.hid hwz; have HF2 := Lib.hid hFz; clear hwz hFz))
    refine bodyPost_ret (ret_f8b rfl _ _ (w.heap.size + 1) f2.c rfl rfl HW2.out) rfl ?_
    unfold TkPost
    rw [HE.out]
    exact ⟨rfl, HP1.out.outer HLT.out HFB.out ⟨by omega, hwbs⟩ HF2.out⟩
  have HEN := Lib.hid (fun W (hF : Frm (fun _ => False) w W) => cends_any c _ none 0 0 0 W (hF.heap HC.out (fun h => h)) (clC_size _ _ _))
  by_cases hw2 : s.waits = 2
  · have HE : Hid (s.takes f = ((Cl.segment ⟨3, s.idx, s.sub, s.b, s.turn, s.last, s.size, s.res, s.code, s.has⟩).1, seg8 s.turn s.b, true)) := by unfold Hid Cl.takes; rw [if_pos hw2]
    have HW4 := Lib.hid hw2
    have HTN := Lib.hid htn
    obtain ⟨f2, hf2⟩ : ∃ f2, f2 = seg8 s.turn s.b := ⟨_, rfl⟩
    rw [← hf2] at HE
    have HF2 := Lib.hid hf2
    unfold ptr F8.v at *
    clear hw4 hw0 hw6 htn hw5 hw2 hf2
    go_enter Try.func99, Try.ntmps99
    go_upto_region 1 with fail
    have hbx : ((w.alloc (.cells f.c 73 (0, 0))).alloc (.cells #[.int .u8 0, .int .u8 0, .int .u8 0, .int .u8 0, .int .u8 0, .int .u8 0, .int .u8 0, .int .u8 0] 73 (0, 0))).heap[w.heap.size]? = some (.cells f.c 73 (0, 0)) := heap_alloc_old (heap_new w _)
    have hrt : ((w.alloc (.cells f.c 73 (0, 0))).alloc (.cells #[.int .u8 0, .int .u8 0, .int .u8 0, .int .u8 0, .int .u8 0, .int .u8 0, .int .u8 0, .int .u8 0] 73 (0, 0))).heap[w.heap.size + 1]? = some (.cells #[.int .u8 0, .int .u8 0, .int .u8 0, .int .u8 0, .int .u8 0, .int .u8 0, .int .u8 0, .int .u8 0] 73 (0, 0)) := heap_new_at (by simp)
    have hfb : Frm (fun _ => False) w ((w.alloc (.cells f.c 73 (0, 0))).alloc (.cells #[.int .u8 0, .int .u8 0, .int .u8 0, .int .u8 0, .int .u8 0, .int .u8 0, .int .u8 0, .int .u8 0] 73 (0, 0))) := by (repeat' (first | (with_reducible exact Frm.refl _ _) | (with_reducible assumption) | (with_reducible refine Frm.alloc ?_ _) | (with_reducible refine Frm.drew ?_) | (with_reducible refine Frm.drewN ?_ _) | (with_reducible refine Frm.set1 ?_ _) | (with_reducible refine Frm.setCell ?_ ?_ _) | (exact fun h => absurd h (Nat.lt_irrefl _)) | (intro hlt; simp [World.size_alloc, One] at hlt ⊢; omega)))
    obtain ⟨wb, hwb⟩ : ∃ wb, wb = (w.alloc (.cells f.c 73 (0, 0))).alloc (.cells #[.int .u8 0, .int .u8 0, .int .u8 0, .int .u8 0, .int .u8 0, .int .u8 0, .int .u8 0, .int .u8 0] 73 (0, 0)) := ⟨_, rfl⟩
    rw [← hwb] at hbx hrt hfb ⊢
    have HBX := Lib.hid hbx
    have HRT := Lib.hid hrt
    have HFB := Lib.hid hfb
    have hwbs := lt_of_block hrt
    clear hbx hrt hfb hwb
    have hcb := HFB.out.heap HC.out (fun h => h)
    have kc0 : wb.cell? ⟨c, 0, none⟩ = some (.int .i64 2) := by rw [← HW4.out]; exact cell_at hcb
    have kcf := frees hcb
    have hh : (wb.setCell ⟨c, 0, none⟩ (.int .i64 3)).heap[c]? = some (.cells (clC ⟨3, s.idx, s.sub, s.b, s.turn, s.last, s.size, s.res, s.code, s.has⟩ vb vr) 143 (0, 0)) := by
      show _ = some (Obj.cells #[.int .i64 3, .int .u16 s.idx, .int .u8 s.sub, vb, .int .u8 s.turn, .bool s.last, .int .i64 s.size, vr, .int .u32 s.code, .bool s.has] 143 (0, 0))
      (apply heap_fin; (case h => (repeat (first | (with_reducible exact hcb) | (with_reducible apply heap_alloc_old) | (with_reducible apply heap_drewN') | (with_reducible apply heap_drew') | (with_reducible apply heap_set_same) | (with_reducible refine heap_set_other ?_ (by simp only []; omega)) | (with_reducible exact heap_new_at (by simp))))); (case e => rfl))
    have hF1 : Frm (One c) wb (wb.setCell ⟨c, 0, none⟩ (.int .i64 3)) := by (repeat' (first | (with_reducible exact Frm.refl _ _) | (with_reducible assumption) | (with_reducible refine Frm.alloc ?_ _) | (with_reducible refine Frm.drew ?_) | (with_reducible refine Frm.drewN ?_ _) | (with_reducible refine Frm.set1 ?_ _) | (with_reducible refine Frm.setCell ?_ ?_ _) | (exact fun h => absurd h (Nat.lt_irrefl _)) | (intro hlt; simp [World.size_alloc, One] at hlt ⊢; omega)))
    have hB1 : BytesAt (wb.setCell ⟨c, 0, none⟩ (.int .i64 3)) vb s.b := (HB.out.grow HFB.out).frm hF1 (fun k hk h => (HVB.out k hk).2 h)
    have hSG := csegment_any c ⟨3, s.idx, s.sub, s.b, s.turn, s.last, s.size, s.res, s.code, s.has⟩ vb vr _ hh hB1 (fun k hk => (HVB.out k hk).2) HTN.out
    have HSG := Lib.hid hSG
    have hSP := fun e w' => seg_post (e := e) (w' := w') (H.out.grow HFB.out) (hF1.mono (fun i _ h => by rw [h]; exact HM.out)) hh (by have o := HOK.out; exact ⟨by show (0 : Int) ≤ 3 ∧ (3 : Int) ≤ 5; decide, o.hi, o.hs, o.ht, o.hb, o.hc, o.hz, o.hr⟩) rfl HVN.out HRS.out HVB.out
    have HSP := Lib.hid hSP
    unfold ptr at HSG
    clear hcb hh hF1 hB1 hSG hSP
    go_wp2_with (first | (go_at_call 114; refine HSG.out.mono ?_; intro e w1 hq; obtain ⟨he, hp1⟩ := HSP.out e w1 hq; rw [he, show seg8 _ _ = f2 from HF2.out.symm]; have HP1 := Lib.hid hp1; have HR1 := Lib.hid (hp1.kept HLT.out (by omega) HRT.out); clear hp1 hq he; unfold F8.v) | (refine wpl_store_whole rfl 73 (.tmp 4) (.tmp 16) rfl (w.heap.size + 1) f2.c rfl rfl 73 _ HR1.out info_f8 rfl (F8.one _) ?_; intro wz hwz hFz; have HW2 := Lib.hid hwz; have HF2 := Lib.hid hFz; clear hwz hFz))
    refine bodyPost_ret (ret_f8b rfl _ _ (w.heap.size + 1) f2.c rfl rfl HW2.out) rfl ?_
    unfold TkPost
    rw [HE.out]
    exact ⟨rfl, HP1.out.outer HLT.out HFB.out ⟨by omega, hwbs⟩ HF2.out⟩
  by_cases hw3 : s.waits = 3
  · cases hla : s.last with
    | false =>
      have HE : Hid (s.takes f = ((Cl.segment ⟨s.waits, s.idx, s.sub, s.b, 16 - s.turn, s.last, s.size, s.res, s.code, s.has⟩).1, seg8 (16 - s.turn) s.b, true)) := by unfold Hid Cl.takes; rw [if_neg hw2, if_pos hw3, hla]; rfl
      have HW4 := Lib.hid hw3
      have HLA := Lib.hid hla
      have HTN : Hid (16 - s.turn = 0 ∨ 16 - s.turn = 16) := by unfold Hid; omega
      obtain ⟨f2, hf2⟩ : ∃ f2, f2 = seg8 (16 - s.turn) s.b := ⟨_, rfl⟩
      rw [← hf2] at HE
      have HF2 := Lib.hid hf2
      unfold ptr F8.v at *
      clear hw4 hw0 hw6 htn hw5 hw2 hf2 hw3 hla
      go_enter Try.func99, Try.ntmps99
      go_upto_region 1 with fail
      have hbx : ((w.alloc (.cells f.c 73 (0, 0))).alloc (.cells #[.int .u8 0, .int .u8 0, .int .u8 0, .int .u8 0, .int .u8 0, .int .u8 0, .int .u8 0, .int .u8 0] 73 (0, 0))).heap[w.heap.size]? = some (.cells f.c 73 (0, 0)) := heap_alloc_old (heap_new w _)
      have hrt : ((w.alloc (.cells f.c 73 (0, 0))).alloc (.cells #[.int .u8 0, .int .u8 0, .int .u8 0, .int .u8 0, .int .u8 0, .int .u8 0, .int .u8 0, .int .u8 0] 73 (0, 0))).heap[w.heap.size + 1]? = some (.cells #[.int .u8 0, .int .u8 0, .int .u8 0, .int .u8 0, .int .u8 0, .int .u8 0, .int .u8 0, .int .u8 0] 73 (0, 0)) := heap_new_at (by simp)
      have hfb : Frm (fun _ => False) w ((w.alloc (.cells f.c 73 (0, 0))).alloc (.cells #[.int .u8 0, .int .u8 0, .int .u8 0, .int .u8 0, .int .u8 0, .int .u8 0, .int .u8 0, .int .u8 0] 73 (0, 0))) := by (repeat' (first | (with_reducible exact Frm.refl _ _) | (with_reducible assumption) | (with_reducible refine Frm.alloc ?_ _) | (with_reducible refine Frm.drew ?_) | (with_reducible refine Frm.drewN ?_ _) | (with_reducible refine Frm.set1 ?_ _) | (with_reducible refine Frm.setCell ?_ ?_ _) | (exact fun h => absurd h (Nat.lt_irrefl _)) | (intro hlt; simp [World.size_alloc, One] at hlt ⊢; omega)))
      obtain ⟨wb, hwb⟩ : ∃ wb, wb = (w.alloc (.cells f.c 73 (0, 0))).alloc (.cells #[.int .u8 0, .int .u8 0, .int .u8 0, .int .u8 0, .int .u8 0, .int .u8 0, .int .u8 0, .int .u8 0] 73 (0, 0)) := ⟨_, rfl⟩
      rw [← hwb] at hbx hrt hfb ⊢
      have HBX := Lib.hid hbx
      have HRT := Lib.hid hrt
      have HFB := Lib.hid hfb
      have hwbs := lt_of_block hrt
      clear hbx hrt hfb hwb
      have hcb := HFB.out.heap HC.out (fun h => h)
      have kc0 : wb.cell? ⟨c, 0, none⟩ = some (.int .i64 3) := by rw [← HW4.out]; exact cell_at hcb
      have kc5 : wb.cell? ⟨c, 5, none⟩ = some (.bool false) := by rw [← HLA.out]; exact cell_at hcb
      have kc4 : wb.cell? ⟨c, 4, none⟩ = some (.int .u8 s.turn) := cell_at hcb
      have kcf := frees hcb
      have hh : (wb.setCell ⟨c, 4, none⟩ (.int .u8 (16 - s.turn))).heap[c]? = some (.cells (clC ⟨s.waits, s.idx, s.sub, s.b, 16 - s.turn, s.last, s.size, s.res, s.code, s.has⟩ vb vr) 143 (0, 0)) := by
        show _ = some (Obj.cells #[.int .i64 s.waits, .int .u16 s.idx, .int .u8 s.sub, vb, .int .u8 (16 - s.turn), .bool s.last, .int .i64 s.size, vr, .int .u32 s.code, .bool s.has] 143 (0, 0))
        (apply heap_fin; (case h => (repeat (first | (with_reducible exact hcb) | (with_reducible apply heap_alloc_old) | (with_reducible apply heap_drewN') | (with_reducible apply heap_drew') | (with_reducible apply heap_set_same) | (with_reducible refine heap_set_other ?_ (by simp only []; omega)) | (with_reducible exact heap_new_at (by simp))))); (case e => rfl))
      have hF1 : Frm (One c) wb (wb.setCell ⟨c, 4, none⟩ (.int .u8 (16 - s.turn))) := by (repeat' (first | (with_reducible exact Frm.refl _ _) | (with_reducible assumption) | (with_reducible refine Frm.alloc ?_ _) | (with_reducible refine Frm.drew ?_) | (with_reducible refine Frm.drewN ?_ _) | (with_reducible refine Frm.set1 ?_ _) | (with_reducible refine Frm.setCell ?_ ?_ _) | (exact fun h => absurd h (Nat.lt_irrefl _)) | (intro hlt; simp [World.size_alloc, One] at hlt ⊢; omega)))
      have hB1 : BytesAt (wb.setCell ⟨c, 4, none⟩ (.int .u8 (16 - s.turn))) vb s.b := (HB.out.grow HFB.out).frm hF1 (fun k hk h => (HVB.out k hk).2 h)
      have hSG := csegment_any c ⟨s.waits, s.idx, s.sub, s.b, 16 - s.turn, s.last, s.size, s.res, s.code, s.has⟩ vb vr _ hh hB1 (fun k hk => (HVB.out k hk).2) HTN.out
      have HSG := Lib.hid hSG
      have hSP := fun e w' => seg_post (e := e) (w' := w') (H.out.grow HFB.out) (hF1.mono (fun i _ h => by rw [h]; exact HM.out)) hh (by have o := HOK.out; exact ⟨o.hw, o.hi, o.hs, HTN.out, o.hb, o.hc, o.hz, o.hr⟩) HW4.out HVN.out HRS.out HVB.out
      have HSP := Lib.hid hSP
      unfold ptr at HSG
      clear hcb hh hF1 hB1 hSG hSP
      go_wp2_with (first | (go_at_call 114; refine HSG.out.mono ?_; intro e w1 hq; obtain ⟨he, hp1⟩ := HSP.out e w1 hq; rw [he, show seg8 _ _ = f2 from HF2.out.symm]; have HP1 := Lib.hid hp1; have HR1 := Lib.hid (hp1.kept HLT.out (by omega) HRT.out); clear hp1 hq he; unfold F8.v) | (refine wpl_store_whole rfl 73 (.tmp 4) (.tmp 32) rfl (w.heap.size + 1) f2.c rfl rfl 73 _ HR1.out info_f8 rfl (F8.one _) ?_; intro wz hwz hFz; have HW2 := Lib.hid hwz; have HF2 := Lib.hid hFz; clear hwz hFz))
      refine bodyPost_ret (ret_f8b rfl _ _ (w.heap.size + 1) f2.c rfl rfl HW2.out) rfl ?_
      unfold TkPost
      rw [HE.out]
      exact ⟨rfl, HP1.out.outer HLT.out HFB.out ⟨by omega, hwbs⟩ HF2.out⟩
    | true =>
      have HE : Hid (s.takes f = (Cl.ends [] 0, F8.zero, false)) := by unfold Hid Cl.takes; rw [if_neg hw2, if_pos hw3, hla]; rfl
      have HW4 := Lib.hid hw3
      have HLA := Lib.hid hla
      unfold ptr F8.v at *
      clear hw4 hw0 hw6 htn hw5 hw2 hw3 hla
      go_enter Try.func99, Try.ntmps99
      go_upto_region 1 with fail
      have hbx : ((w.alloc (.cells f.c 73 (0, 0))).alloc (.cells #[.int .u8 0, .int .u8 0, .int .u8 0, .int .u8 0, .int .u8 0, .int .u8 0, .int .u8 0, .int .u8 0] 73 (0, 0))).heap[w.heap.size]? = some (.cells f.c 73 (0, 0)) := heap_alloc_old (heap_new w _)
      have hrt : ((w.alloc (.cells f.c 73 (0, 0))).alloc (.cells #[.int .u8 0, .int .u8 0, .int .u8 0, .int .u8 0, .int .u8 0, .int .u8 0, .int .u8 0, .int .u8 0] 73 (0, 0))).heap[w.heap.size + 1]? = some (.cells #[.int .u8 0, .int .u8 0, .int .u8 0, .int .u8 0, .int .u8 0, .int .u8 0, .int .u8 0, .int .u8 0] 73 (0, 0)) := heap_new_at (by simp)
      have hfb : Frm (fun _ => False) w ((w.alloc (.cells f.c 73 (0, 0))).alloc (.cells #[.int .u8 0, .int .u8 0, .int .u8 0, .int .u8 0, .int .u8 0, .int .u8 0, .int .u8 0, .int .u8 0] 73 (0, 0))) := by (repeat' (first | (with_reducible exact Frm.refl _ _) | (with_reducible assumption) | (with_reducible refine Frm.alloc ?_ _) | (with_reducible refine Frm.drew ?_) | (with_reducible refine Frm.drewN ?_ _) | (with_reducible refine Frm.set1 ?_ _) | (with_reducible refine Frm.setCell ?_ ?_ _) | (exact fun h => absurd h (Nat.lt_irrefl _)) | (intro hlt; simp [World.size_alloc, One] at hlt ⊢; omega)))
      obtain ⟨wb, hwb⟩ : ∃ wb, wb = (w.alloc (.cells f.c 73 (0, 0))).alloc (.cells #[.int .u8 0, .int .u8 0, .int .u8 0, .int .u8 0, .int .u8 0, .int .u8 0, .int .u8 0, .int .u8 0] 73 (0, 0)) := ⟨_, rfl⟩
      rw [← hwb] at hbx hrt hfb ⊢
      have HBX := Lib.hid hbx
      have HRT := Lib.hid hrt
      have HFB := Lib.hid hfb
      have hwbs := lt_of_block hrt
      clear hbx hrt hfb hwb
      have hcb := HFB.out.heap HC.out (fun h => h)
      have kc0 : wb.cell? ⟨c, 0, none⟩ = some (.int .i64 3) := by rw [← HW4.out]; exact cell_at hcb
      have kc5 : wb.cell? ⟨c, 5, none⟩ = some (.bool true) := by rw [← HLA.out]; exact cell_at hcb
      clear hcb
      go_wp2_with (first | (go_at_call 95; refine (HEN.out _ HFB.out).mono ?_; rintro e w2 ⟨rfl, hc2, hF2⟩; have HC2 := Lib.hid hc2; have HF2 := Lib.hid hF2; have HR2 : Hid (w2.heap[w.heap.size + 1]? = some (.cells #[.int .u8 0, .int .u8 0, .int .u8 0, .int .u8 0, .int .u8 0, .int .u8 0, .int .u8 0, .int .u8 0] 73 (0, 0))) := hF2.heap HRT.out (by simp only [One]; omega); clear hc2 hF2) | (refine wpl_store_whole rfl 73 (.tmp 4) (.tmp 49) rfl (w.heap.size + 1) F8.zero.c rfl rfl 73 _ HR2.out info_f8 rfl (F8.one _) ?_; intro wz hwz hFz; have HW3 := Lib.hid hwz; have HF3 := Lib.hid hFz; clear hwz hFz))
      refine bodyPost_ret (ret_f8b rfl _ _ (w.heap.size + 1) F8.zero.c rfl rfl HW3.out) rfl ?_
      unfold TkPost
      rw [HE.out]
      exact ⟨rfl, ClPost.over H.out (((HFB.out.mono (fun _ _ h => h.elim)).trans HF2.out (fun i hi h => h)).trans HF3.out (fun i hi h => by simp only [One] at h; omega)) (by decide) (HF3.out.heap HC2.out (by simp only [One]; omega))⟩
  · have hw1 : s.waits = 1 := by omega
    have HE : Hid (s.takes f = (Cl.ends [] 0, F8.zero, false)) := by unfold Hid Cl.takes; rw [if_neg hw2, if_neg hw3, if_neg hw4, if_neg hw5]
    have HW4 := Lib.hid hw1
    unfold ptr F8.v at *
    clear hw4 hw0 hw6 htn hw5 hw2 hw3 hw1
    go_enter Try.func99, Try.ntmps99
    go_upto_region 1 with fail
    have hbx : ((w.alloc (.cells f.c 73 (0, 0))).alloc (.cells #[.int .u8 0, .int .u8 0, .int .u8 0, .int .u8 0, .int .u8 0, .int .u8 0, .int .u8 0, .int .u8 0] 73 (0, 0))).heap[w.heap.size]? = some (.cells f.c 73 (0, 0)) := heap_alloc_old (heap_new w _)
    have hrt : ((w.alloc (.cells f.c 73 (0, 0))).alloc (.cells #[.int .u8 0, .int .u8 0, .int .u8 0, .int .u8 0, .int .u8 0, .int .u8 0, .int .u8 0, .int .u8 0] 73 (0, 0))).heap[w.heap.size + 1]? = some (.cells #[.int .u8 0, .int .u8 0, .int .u8 0, .int .u8 0, .int .u8 0, .int .u8 0, .int .u8 0, .int .u8 0] 73 (0, 0)) := heap_new_at (by simp)
    have hfb : Frm (fun _ => False) w ((w.alloc (.cells f.c 73 (0, 0))).alloc (.cells #[.int .u8 0, .int .u8 0, .int .u8 0, .int .u8 0, .int .u8 0, .int .u8 0, .int .u8 0, .int .u8 0] 73 (0, 0))) := by (repeat' (first | (with_reducible exact Frm.refl _ _) | (with_reducible assumption) | (with_reducible refine Frm.alloc ?_ _) | (with_reducible refine Frm.drew ?_) | (with_reducible refine Frm.drewN ?_ _) | (with_reducible refine Frm.set1 ?_ _) | (with_reducible refine Frm.setCell ?_ ?_ _) | (exact fun h => absurd h (Nat.lt_irrefl _)) | (intro hlt; simp [World.size_alloc, One] at hlt ⊢; omega)))
    obtain ⟨wb, hwb⟩ : ∃ wb, wb = (w.alloc (.cells f.c 73 (0, 0))).alloc (.cells #[.int .u8 0, .int .u8 0, .int .u8 0, .int .u8 0, .int .u8 0, .int .u8 0, .int .u8 0, .int .u8 0] 73 (0, 0)) := ⟨_, rfl⟩
    rw [← hwb] at hbx hrt hfb ⊢
    have HBX := Lib.hid hbx
    have HRT := Lib.hid hrt
    have HFB := Lib.hid hfb
    have hwbs := lt_of_block hrt
    clear hbx hrt hfb hwb
    have kc0 : wb.cell? ⟨c, 0, none⟩ = some (.int .i64 1) := by rw [← HW4.out]; exact cell_at (HFB.out.heap HC.out (fun h => h))
    go_wp2_with (first | (go_at_call 95; refine (HEN.out _ HFB.out).mono ?_; rintro e w2 ⟨rfl, hc2, hF2⟩; have HC2 := Lib.hid hc2; have HF2 := Lib.hid hF2; have HR2 : Hid (w2.heap[w.heap.size + 1]? = some (.cells #[.int .u8 0, .int .u8 0, .int .u8 0, .int .u8 0, .int .u8 0, .int .u8 0, .int .u8 0, .int .u8 0] 73 (0, 0))) := hF2.heap HRT.out (by simp only [One]; omega); clear hc2 hF2) | (refine wpl_store_whole rfl 73 (.tmp 4) (.tmp 49) rfl (w.heap.size + 1) F8.zero.c rfl rfl 73 _ HR2.out info_f8 rfl (F8.one _) ?_; intro wz hwz hFz; have HW3 := Lib.hid hwz; have HF3 := Lib.hid hFz; clear hwz hFz))
    refine bodyPost_ret (ret_f8b rfl _ _ (w.heap.size + 1) F8.zero.c rfl rfl HW3.out) rfl ?_
    unfold TkPost
    rw [HE.out]
    exact ⟨rfl, ClPost.over H.out (((HFB.out.mono (fun _ _ h => h.elim)).trans HF2.out (fun i hi h => h)).trans HF3.out (fun i hi h => by simp only [One] at h; omega)) (by decide) (HF3.out.heap HC2.out (by simp only [One]; omega))⟩
end Go.Proofs.Ytmkkeglcjbogcaa
