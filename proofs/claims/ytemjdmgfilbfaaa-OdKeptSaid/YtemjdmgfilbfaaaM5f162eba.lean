/-
  A call by the program and by the document: Read; Write.
-/
import Derived.Test.YtemjdmgfilbfaaaM87357a7f
import Derived.Test.YtemjdmgfilbfaaaM008825e4
import Derived.Test.YtemjdmgfilbfaaaM1d64679b
import Derived.Test.YtemjdmgfilbfaaaM6bbef041
set_option linter.unusedVariables false
set_option linter.unusedSimpArgs false
namespace Go.Proofs.Ytemjdmgfilbfaaa
open Go.RowKit
open List (getElem_toArray getElem_cons_zero getElem_cons_succ setIfInBounds_toArray set_cons_zero set_cons_succ)
set_option linter.unusedVariables false
set_option linter.unusedSimpArgs false

set_option maxRecDepth 100000 in
set_option maxHeartbeats 2000000 in
theorem does0 (a b p B : Nat) (l : List (Nat × Im)) (d : List Im) (i s : Int) (bv : Value) (bs : List UInt8) (v : Va) (n : Int) (w : World) (h : Pr w a b p B l d) (hd : im l = d) (hf : Fit d) (hB : B ≤ w.heap.size) (hg : Arg w l p i s bv bs v n) :
    Calls Try.prog 23 #[ptr a, .agg #[.int .i64 0, .int .u16 i, .int .u8 s, bv, .int .i64 v.ty, .int .u64 v.n, .string (strB2 v.b), .int .u16 n]] w (DoesP a b p B l d w) := by
  have HPR := Lib.hid h
  have HFIT := Lib.hid hf
  have HIM := Lib.hid hd
  have HBB := Lib.hid hB
  have HNO := Lib.hid hg.no
  have hs := Lib.hid hg.s
  have hvo := Lib.hid hg.v
  have hbl := hg.len
  have hb0 := hg.no w (Frm.refl _ _)
  obtain ⟨A3, c3, rfl, _, _, hn3⟩ := hb0.open_
  have HN3 := Lib.hid hn3
  have HLE : Hid ((bs.map encB).length = bs.length * 1) := by unfold Hid; simp
  have hm1 : 0 + bs.length ≤ maxLen := by unfold maxLen; omega
  have hm2 : (0 + bs.length) * 1 ≤ 140737488355328 := by omega
  have hn0 := hg.n.1
  have hn1 := hg.n.2
  clear h hf hd hB hg hb0 hn3
  unfold ptr
  have HRP := Lib.hid (fun W (hW : DAt W b l) => odRead_any b l i s W hW (by rw [HIM.out]; exact HFIT.out.ok) hs.out)
  have HRD := Lib.hid (fun W (hW : DR W p B d) => rDRead_any p B d i s W hW HFIT.out.len (fun x hx => (HFIT.out.ok.ok x hx).2))
  unfold ReadP ptr at HRP HRD
  rw [HIM.out] at HRP
  go_enter Try.func23, Try.ntmps23
  go_upto_region 4 with (at_builtin; refine wpl_app_src rfl el_u8 (.tmp 15) (.tmp 17) rfl (B := w.heap.size + 1) (xs := []) (news := bs.map encB) rfl rfl (row_new (by simp) rfl rfl (by decide) (by simp)) HLE.out (fun h => (HN3.out h).grow (by (repeat' (first | (with_reducible exact Frm.refl _ _) | (with_reducible assumption) | (with_reducible refine Frm.alloc ?_ _) | (with_reducible refine Frm.drew ?_) | (with_reducible refine Frm.drewN ?_ _) | (with_reducible refine Frm.set1 ?_ _) | (with_reducible refine Frm.setCell ?_ ?_ _) | (exact fun h => absurd h (Nat.lt_irrefl _)) | (intro hlt; simp [World.size_alloc, One] at hlt ⊢; omega))))) (oneB _) hm1 hm2 (by simp) ?_; intro A5 c5 w5 hown5 hfr5; have hD5 := does_app hown5 hfr5; have HD5 := Lib.hid hD5; have k0 : w5.cell? ⟨w.heap.size, 0, none⟩ = some (.int .i64 0) := cell_at hD5.2.1; have kl := lt_of_block hD5.2.1; clear hown5 hfr5 hD5)
  clear k0
  have HF5 := Lib.hid HD5.out.1
  have HT5 := Lib.hid HD5.out.2.1
  have HPR5 := Lib.hid (HPR.out.grow HF5.out)
  have HCC := Lib.hid (does_cells HPR5.out HT5.out)
  have HAR := Lib.hid (does_args HPR5.out (fun hk => Pr.lt HPR.out hk) HD5.out.2.2)
  have HAB := Lib.hid (fun Wx (h : Frm (Sx l p) w5 Wx) => HNO.out Wx ((Sx.no HF5.out).trans' h))
  have hal := lt_of_block HPR5.out.hp
  have hBw : B ≤ w5.heap.size := Nat.le_trans HBB.out HF5.out.size
  clear HN3 HLE hm1 hm2 HD5
  refine wp_region_held_drew (S := (fun Wx => Frm (Sx l p) w5 Wx)) (by kernel_rfl) ((Frm.refl _ _).drew) (fun hHeld => ?_)
  refine wpAnyH_take (i := 0) (v := ?_) rfl (by kernel_rfl) (by kernel_rfl) (by kernel_rfl) (fun _ _ _ h => h) (Or.inl ⟨by rfl, ?_⟩) (by assumption) ?_; rotate_left; · (intro wq hSq; have hq := HCC.out wq hSq; go_split_ands; go_simp; (try with_reducible rfl))
  try simp only [Act.put, getElem_toArray, getElem_cons_zero, getElem_cons_succ, setIfInBounds_toArray, set_cons_zero, set_cons_succ]
  refine wpAnyH_take (i := 1) (v := ?_) rfl (by kernel_rfl) (by kernel_rfl) (by kernel_rfl) (fun _ _ _ h => h) (Or.inl ⟨by rfl, ?_⟩) (by assumption) ?_; rotate_left; · (intro wq hSq; have hq := HCC.out wq hSq; go_split_ands; go_simp; (try with_reducible rfl))
  try simp only [Act.put, getElem_toArray, getElem_cons_zero, getElem_cons_succ, setIfInBounds_toArray, set_cons_zero, set_cons_succ]
  refine wpAnyH_take (i := 2) (v := ?_) rfl (by kernel_rfl) (by kernel_rfl) (by kernel_rfl) (fun _ _ _ h => h) (Or.inl ⟨by rfl, ?_⟩) (by assumption) ?_; rotate_left; · (intro wq hSq; have hq := HCC.out wq hSq; go_split_ands; go_simp; (try with_reducible rfl))
  try simp only [Act.put, getElem_toArray, getElem_cons_zero, getElem_cons_succ, setIfInBounds_toArray, set_cons_zero, set_cons_succ]
  refine wpAnyH_take (i := 3) (v := ?_) rfl (by kernel_rfl) (by kernel_rfl) (by kernel_rfl) (fun _ _ _ h => h) (Or.inl ⟨by rfl, ?_⟩) (by assumption) ?_; rotate_left; · (intro wq hSq; have hq := HCC.out wq hSq; go_split_ands; go_simp; (try with_reducible rfl))
  try simp only [Act.put, getElem_toArray, getElem_cons_zero, getElem_cons_succ, setIfInBounds_toArray, set_cons_zero, set_cons_succ]
  refine wpAnyH_take (i := 4) (v := ?_) rfl (by kernel_rfl) (by kernel_rfl) (by kernel_rfl) (fun _ _ _ h => h) (Or.inl ⟨by rfl, ?_⟩) (by assumption) ?_; rotate_left; · (intro wq hSq; have hq := HCC.out wq hSq; go_split_ands; go_simp; (try with_reducible rfl))
  try simp only [Act.put, getElem_toArray, getElem_cons_zero, getElem_cons_succ, setIfInBounds_toArray, set_cons_zero, set_cons_succ]
  refine wpAnyH_take (i := 5) (v := ?_) rfl (by kernel_rfl) (by kernel_rfl) (by kernel_rfl) (fun _ _ _ h => h) (Or.inl ⟨by rfl, ?_⟩) (by assumption) ?_; rotate_left; · (intro wq hSq; have hq := HCC.out wq hSq; go_split_ands; go_simp; (try with_reducible rfl))
  try simp only [Act.put, getElem_toArray, getElem_cons_zero, getElem_cons_succ, setIfInBounds_toArray, set_cons_zero, set_cons_succ]
  refine wpAnyH_take (i := 6) (v := ?_) rfl (by kernel_rfl) (by kernel_rfl) (by kernel_rfl) (fun _ _ _ h => h) (Or.inl ⟨by rfl, ?_⟩) (by assumption) ?_; rotate_left; · (intro wq hSq; have hq := HCC.out wq hSq; go_split_ands; go_simp; (try with_reducible rfl))
  try simp only [Act.put, getElem_toArray, getElem_cons_zero, getElem_cons_succ, setIfInBounds_toArray, set_cons_zero, set_cons_succ]
  refine wpAnyH_take (i := 7) (v := ?_) rfl (by kernel_rfl) (by kernel_rfl) (by kernel_rfl) (fun _ _ _ h => h) (Or.inl ⟨by rfl, ?_⟩) (by assumption) ?_; rotate_left; · (intro wq hSq; have hq := HCC.out wq hSq; go_split_ands; go_simp; (try with_reducible rfl))
  try simp only [Act.put, getElem_toArray, getElem_cons_zero, getElem_cons_succ, setIfInBounds_toArray, set_cons_zero, set_cons_succ]
  refine wpAnyH_ready (rs := [8]) (by kernel_rfl) (by simp) ?_
  refine AllReadyH.cons rfl (fun K hK => ?_) AllReadyH.nil
  try simp only [getElem_toArray, getElem_cons_zero, getElem_cons_succ]
  go_simp
  refine (HRP.out _ (HPR5.out.d1.grow (Frm.refl _ _).drew)).mono ?_
  rintro e w6 ⟨v6, rfl, hfr6, hF6⟩
  go_wp2_with fail
  refine hK.out _ _ (hHeld.trans' (Sx.no hF6)) (fun hHeld => ?_)
  clear hK K
  try simp only [Act.put, setIfInBounds_toArray, set_cons_zero, set_cons_succ]
  refine wpAnyH_take (i := 9) (v := ?_) rfl (by kernel_rfl) (by kernel_rfl) (by kernel_rfl) (fun _ _ _ h => h) (Or.inl ⟨by rfl, ?_⟩) (by assumption) ?_; rotate_left; · (intro wq hSq; (try dsimp only at hSq); go_split_ands; go_simp; (try with_reducible rfl))
  try simp only [Act.put, getElem_toArray, getElem_cons_zero, getElem_cons_succ, setIfInBounds_toArray, set_cons_zero, set_cons_succ]
  refine wpAnyH_take (i := 10) (v := ?_) rfl (by kernel_rfl) (by kernel_rfl) (by kernel_rfl) (fun _ _ _ h => h) (Or.inl ⟨by rfl, ?_⟩) (by assumption) ?_; rotate_left; · (intro wq hSq; (try dsimp only at hSq); go_split_ands; go_simp; (try with_reducible rfl))
  try simp only [Act.put, getElem_toArray, getElem_cons_zero, getElem_cons_succ, setIfInBounds_toArray, set_cons_zero, set_cons_succ]
  refine wpAnyH_take (i := 11) (v := ?_) rfl (by kernel_rfl) (by kernel_rfl) (by kernel_rfl) (fun _ _ _ h => h) (Or.inl ⟨by rfl, ?_⟩) (by assumption) ?_; rotate_left; · (intro wq hSq; (try dsimp only at hSq); go_split_ands; go_simp; (try with_reducible rfl))
  try simp only [Act.put, getElem_toArray, getElem_cons_zero, getElem_cons_succ, setIfInBounds_toArray, set_cons_zero, set_cons_succ]
  refine wpAnyH_take (i := 12) (v := ?_) rfl (by kernel_rfl) (by kernel_rfl) (by kernel_rfl) (fun _ _ _ h => h) (Or.inl ⟨by rfl, ?_⟩) (by assumption) ?_; rotate_left; · (intro wq hSq; (try dsimp only at hSq); go_split_ands; go_simp; (try with_reducible rfl))
  try simp only [Act.put, getElem_toArray, getElem_cons_zero, getElem_cons_succ, setIfInBounds_toArray, set_cons_zero, set_cons_succ]
  refine wpAnyH_take (i := 13) (v := ?_) rfl (by kernel_rfl) (by kernel_rfl) (by kernel_rfl) (fun _ _ _ h => h) (Or.inl ⟨by rfl, ?_⟩) (by assumption) ?_; rotate_left; · (intro wq hSq; (try dsimp only at hSq); go_split_ands; go_simp; (try with_reducible rfl))
  try simp only [Act.put, getElem_toArray, getElem_cons_zero, getElem_cons_succ, setIfInBounds_toArray, set_cons_zero, set_cons_succ]
  refine wpAnyH_done (by kernel_rfl) ?_ _
  have HH := Lib.hid hHeld
  have HF6 : Hid (Frm (fun _ => False) w5 w6) := (Frm.refl _ _).drew.trans' hF6
  have HV6 := Lib.hid hfr6
  clear hHeld hF6 hfr6
  go_upto_region 5 with fail
  refine wp_region_held_drew (S := (fun Wx => Frm (Sx l p) w5 Wx)) (by kernel_rfl) (HH.out.drew) (fun hHeld => ?_)
  refine wpAnyH_take (i := 0) (v := ?_) rfl (by kernel_rfl) (by kernel_rfl) (by kernel_rfl) (fun _ _ _ h => h) (Or.inl ⟨by rfl, ?_⟩) (by assumption) ?_; rotate_left; · (intro wq hSq; have hq := HCC.out wq hSq; go_split_ands; go_simp; (try with_reducible rfl))
  try simp only [Act.put, getElem_toArray, getElem_cons_zero, getElem_cons_succ, setIfInBounds_toArray, set_cons_zero, set_cons_succ]
  refine wpAnyH_take (i := 1) (v := ?_) rfl (by kernel_rfl) (by kernel_rfl) (by kernel_rfl) (fun _ _ _ h => h) (Or.inl ⟨by rfl, ?_⟩) (by assumption) ?_; rotate_left; · (intro wq hSq; have hq := HCC.out wq hSq; go_split_ands; go_simp; (try with_reducible rfl))
  try simp only [Act.put, getElem_toArray, getElem_cons_zero, getElem_cons_succ, setIfInBounds_toArray, set_cons_zero, set_cons_succ]
  refine wpAnyH_take (i := 2) (v := ?_) rfl (by kernel_rfl) (by kernel_rfl) (by kernel_rfl) (fun _ _ _ h => h) (Or.inl ⟨by rfl, ?_⟩) (by assumption) ?_; rotate_left; · (intro wq hSq; have hq := HCC.out wq hSq; go_split_ands; go_simp; (try with_reducible rfl))
  try simp only [Act.put, getElem_toArray, getElem_cons_zero, getElem_cons_succ, setIfInBounds_toArray, set_cons_zero, set_cons_succ]
  refine wpAnyH_take (i := 3) (v := ?_) rfl (by kernel_rfl) (by kernel_rfl) (by kernel_rfl) (fun _ _ _ h => h) (Or.inl ⟨by rfl, ?_⟩) (by assumption) ?_; rotate_left; · (intro wq hSq; have hq := HCC.out wq hSq; go_split_ands; go_simp; (try with_reducible rfl))
  try simp only [Act.put, getElem_toArray, getElem_cons_zero, getElem_cons_succ, setIfInBounds_toArray, set_cons_zero, set_cons_succ]
  refine wpAnyH_take (i := 4) (v := ?_) rfl (by kernel_rfl) (by kernel_rfl) (by kernel_rfl) (fun _ _ _ h => h) (Or.inl ⟨by rfl, ?_⟩) (by assumption) ?_; rotate_left; · (intro wq hSq; have hq := HCC.out wq hSq; go_split_ands; go_simp; (try with_reducible rfl))
  try simp only [Act.put, getElem_toArray, getElem_cons_zero, getElem_cons_succ, setIfInBounds_toArray, set_cons_zero, set_cons_succ]
  refine wpAnyH_take (i := 5) (v := ?_) rfl (by kernel_rfl) (by kernel_rfl) (by kernel_rfl) (fun _ _ _ h => h) (Or.inl ⟨by rfl, ?_⟩) (by assumption) ?_; rotate_left; · (intro wq hSq; have hq := HCC.out wq hSq; go_split_ands; go_simp; (try with_reducible rfl))
  try simp only [Act.put, getElem_toArray, getElem_cons_zero, getElem_cons_succ, setIfInBounds_toArray, set_cons_zero, set_cons_succ]
  refine wpAnyH_take (i := 6) (v := ?_) rfl (by kernel_rfl) (by kernel_rfl) (by kernel_rfl) (fun _ _ _ h => h) (Or.inl ⟨by rfl, ?_⟩) (by assumption) ?_; rotate_left; · (intro wq hSq; have hq := HCC.out wq hSq; go_split_ands; go_simp; (try with_reducible rfl))
  try simp only [Act.put, getElem_toArray, getElem_cons_zero, getElem_cons_succ, setIfInBounds_toArray, set_cons_zero, set_cons_succ]
  refine wpAnyH_take (i := 7) (v := ?_) rfl (by kernel_rfl) (by kernel_rfl) (by kernel_rfl) (fun _ _ _ h => h) (Or.inl ⟨by rfl, ?_⟩) (by assumption) ?_; rotate_left; · (intro wq hSq; have hq := HCC.out wq hSq; go_split_ands; go_simp; (try with_reducible rfl))
  try simp only [Act.put, getElem_toArray, getElem_cons_zero, getElem_cons_succ, setIfInBounds_toArray, set_cons_zero, set_cons_succ]
  refine wpAnyH_ready (rs := [8]) (by kernel_rfl) (by simp) ?_
  refine AllReadyH.cons rfl (fun K hK => ?_) AllReadyH.nil
  try simp only [getElem_toArray, getElem_cons_zero, getElem_cons_succ]
  go_simp
  refine (HRD.out _ (HPR5.out.r.grow HF6.out.drew)).mono ?_
  rintro e w8 ⟨v8, rfl, hfr8, hF8⟩
  go_wp2_with fail
  refine hK.out _ _ (hHeld.trans' (Sx.no hF8)) (fun hHeld => ?_)
  clear hK K
  try simp only [Act.put, setIfInBounds_toArray, set_cons_zero, set_cons_succ]
  refine wpAnyH_take (i := 9) (v := ?_) rfl (by kernel_rfl) (by kernel_rfl) (by kernel_rfl) (fun _ _ _ h => h) (Or.inl ⟨by rfl, ?_⟩) (by assumption) ?_; rotate_left; · (intro wq hSq; (try dsimp only at hSq); go_split_ands; go_simp; (try with_reducible rfl))
  try simp only [Act.put, getElem_toArray, getElem_cons_zero, getElem_cons_succ, setIfInBounds_toArray, set_cons_zero, set_cons_succ]
  refine wpAnyH_take (i := 10) (v := ?_) rfl (by kernel_rfl) (by kernel_rfl) (by kernel_rfl) (fun _ _ _ h => h) (Or.inl ⟨by rfl, ?_⟩) (by assumption) ?_; rotate_left; · (intro wq hSq; (try dsimp only at hSq); go_split_ands; go_simp; (try with_reducible rfl))
  try simp only [Act.put, getElem_toArray, getElem_cons_zero, getElem_cons_succ, setIfInBounds_toArray, set_cons_zero, set_cons_succ]
  refine wpAnyH_take (i := 11) (v := ?_) rfl (by kernel_rfl) (by kernel_rfl) (by kernel_rfl) (fun _ _ _ h => h) (Or.inl ⟨by rfl, ?_⟩) (by assumption) ?_; rotate_left; · (intro wq hSq; (try dsimp only at hSq); go_split_ands; go_simp; (try with_reducible rfl))
  try simp only [Act.put, getElem_toArray, getElem_cons_zero, getElem_cons_succ, setIfInBounds_toArray, set_cons_zero, set_cons_succ]
  refine wpAnyH_take (i := 12) (v := ?_) rfl (by kernel_rfl) (by kernel_rfl) (by kernel_rfl) (fun _ _ _ h => h) (Or.inl ⟨by rfl, ?_⟩) (by assumption) ?_; rotate_left; · (intro wq hSq; (try dsimp only at hSq); go_split_ands; go_simp; (try with_reducible rfl))
  try simp only [Act.put, getElem_toArray, getElem_cons_zero, getElem_cons_succ, setIfInBounds_toArray, set_cons_zero, set_cons_succ]
  refine wpAnyH_take (i := 13) (v := ?_) rfl (by kernel_rfl) (by kernel_rfl) (by kernel_rfl) (fun _ _ _ h => h) (Or.inl ⟨by rfl, ?_⟩) (by assumption) ?_; rotate_left; · (intro wq hSq; (try dsimp only at hSq); go_split_ands; go_simp; (try with_reducible rfl))
  try simp only [Act.put, getElem_toArray, getElem_cons_zero, getElem_cons_succ, setIfInBounds_toArray, set_cons_zero, set_cons_succ]
  refine wpAnyH_done (by kernel_rfl) ?_ _
  have HF8 : Hid (Frm (fun _ => False) w6 w8) := (Frm.refl _ _).drew.trans' hF8
  have hcv6 := conv_b2s (HV6.out.1.grow HF8.out)
  have hcv8 := conv_b2s hfr8.1
  clear hHeld hF8 hfr8
  go_wp2_with fail
  go_ret
  have hF := HF5.out.trans' (HF6.out.trans' HF8.out)
  exact ⟨rfl, l, HPR.out.grow hF, HIM.out, rfl, Sx.no hF⟩

set_option maxRecDepth 100000 in
set_option maxHeartbeats 2000000 in
theorem does1 (a b p B : Nat) (l : List (Nat × Im)) (d : List Im) (i s : Int) (bv : Value) (bs : List UInt8) (v : Va) (n : Int) (w : World) (h : Pr w a b p B l d) (hd : im l = d) (hf : Fit d) (hB : B ≤ w.heap.size) (hg : Arg w l p i s bv bs v n) :
    Calls Try.prog 23 #[ptr a, .agg #[.int .i64 1, .int .u16 i, .int .u8 s, bv, .int .i64 v.ty, .int .u64 v.n, .string (strB2 v.b), .int .u16 n]] w (DoesP a b p B l (writeD d i s bs) w) := by
  have HPR := Lib.hid h
  have HFIT := Lib.hid hf
  have HIM := Lib.hid hd
  have HBB := Lib.hid hB
  have HNO := Lib.hid hg.no
  have hs := Lib.hid hg.s
  have hvo := Lib.hid hg.v
  have hbl := hg.len
  have hb0 := hg.no w (Frm.refl _ _)
  obtain ⟨A3, c3, rfl, _, _, hn3⟩ := hb0.open_
  have HN3 := Lib.hid hn3
  have HLE : Hid ((bs.map encB).length = bs.length * 1) := by unfold Hid; simp
  have hm1 : 0 + bs.length ≤ maxLen := by unfold maxLen; omega
  have hm2 : (0 + bs.length) * 1 ≤ 140737488355328 := by omega
  have hn0 := hg.n.1
  have hn1 := hg.n.2
  clear h hf hd hB hg hb0 hn3
  unfold ptr
  have HMP := Lib.hid (fun u W (hW : DAt W b l) (hu : BytesAt W u bs) => odMay_any b l i s u bs W hW (by rw [HIM.out]; exact HFIT.out.ok) hs.out hu hbl)
  have HWP := Lib.hid (fun u W (hW : DAt W b l) (hu : BytesAt W u bs) => odWrite_any b l i s u bs W hW (by rw [HIM.out]; exact HFIT.out.ok) hs.out hu hbl)
  have HMD := Lib.hid (fun u W (hW : DR W p B d) (hu : BytesAt W u bs) => rDMay_any p B d i s u bs W hW HFIT.out.len (fun x hx => (HFIT.out.ok.ok x hx).1) hu hbl)
  have HWD := Lib.hid (fun u W (hW : DR W p B d) (hu : BytesAt W u bs) (hz : B ≤ W.heap.size) => rDWrite_any p B d i s u bs W hW HFIT.out.len (fun x hx => (HFIT.out.ok.ok x hx).1) hu hbl hz)
  unfold WriteP at HWP
  unfold ptr at HMP HWP HMD HWD
  rw [HIM.out] at HMP HWP
  rw [mayR_eq HFIT.out.pl] at HMD HWD
  rw [writeR_eq HFIT.out.pl] at HWD
  generalize mayD d i s bs = c at *
  generalize writeD d i s bs = dw at *
  go_enter Try.func23, Try.ntmps23
  go_upto_region 8 with (at_builtin; refine wpl_app_src rfl el_u8 (.tmp 15) (.tmp 17) rfl (B := w.heap.size + 1) (xs := []) (news := bs.map encB) rfl rfl (row_new (by simp) rfl rfl (by decide) (by simp)) HLE.out (fun h => (HN3.out h).grow (by (repeat' (first | (with_reducible exact Frm.refl _ _) | (with_reducible assumption) | (with_reducible refine Frm.alloc ?_ _) | (with_reducible refine Frm.drew ?_) | (with_reducible refine Frm.drewN ?_ _) | (with_reducible refine Frm.set1 ?_ _) | (with_reducible refine Frm.setCell ?_ ?_ _) | (exact fun h => absurd h (Nat.lt_irrefl _)) | (intro hlt; simp [World.size_alloc, One] at hlt ⊢; omega))))) (oneB _) hm1 hm2 (by simp) ?_; intro A5 c5 w5 hown5 hfr5; have hD5 := does_app hown5 hfr5; have HD5 := Lib.hid hD5; have k0 : w5.cell? ⟨w.heap.size, 0, none⟩ = some (.int .i64 1) := cell_at hD5.2.1; have kl := lt_of_block hD5.2.1; clear hown5 hfr5 hD5)
  clear k0
  have HF5 := Lib.hid HD5.out.1
  have HT5 := Lib.hid HD5.out.2.1
  have HPR5 := Lib.hid (HPR.out.grow HF5.out)
  have HCC := Lib.hid (does_cells HPR5.out HT5.out)
  have HAR := Lib.hid (does_args HPR5.out (fun hk => Pr.lt HPR.out hk) HD5.out.2.2)
  have HAB := Lib.hid (fun Wx (h : Frm (Sx l p) w5 Wx) => HNO.out Wx ((Sx.no HF5.out).trans' h))
  have hal := lt_of_block HPR5.out.hp
  have hBw : B ≤ w5.heap.size := Nat.le_trans HBB.out HF5.out.size
  clear HN3 HLE hm1 hm2 HD5
  refine wp_region_held_drew (S := (fun Wx => Frm (Sx l p) w5 Wx)) (by kernel_rfl) ((Frm.refl _ _).drew) (fun hHeld => ?_)
  refine wpAnyH_take (i := 0) (v := ?_) rfl (by kernel_rfl) (by kernel_rfl) (by kernel_rfl) (fun _ _ _ h => h) (Or.inl ⟨by rfl, ?_⟩) (by assumption) ?_; rotate_left; · (intro wq hSq; have hq := HCC.out wq hSq; go_split_ands; go_simp; (try with_reducible rfl))
  try simp only [Act.put, getElem_toArray, getElem_cons_zero, getElem_cons_succ, setIfInBounds_toArray, set_cons_zero, set_cons_succ]
  refine wpAnyH_take (i := 1) (v := ?_) rfl (by kernel_rfl) (by kernel_rfl) (by kernel_rfl) (fun _ _ _ h => h) (Or.inl ⟨by rfl, ?_⟩) (by assumption) ?_; rotate_left; · (intro wq hSq; have hq := HCC.out wq hSq; go_split_ands; go_simp; (try with_reducible rfl))
  try simp only [Act.put, getElem_toArray, getElem_cons_zero, getElem_cons_succ, setIfInBounds_toArray, set_cons_zero, set_cons_succ]
  refine wpAnyH_take (i := 2) (v := ?_) rfl (by kernel_rfl) (by kernel_rfl) (by kernel_rfl) (fun _ _ _ h => h) (Or.inl ⟨by rfl, ?_⟩) (by assumption) ?_; rotate_left; · (intro wq hSq; have hq := HCC.out wq hSq; go_split_ands; go_simp; (try with_reducible rfl))
  try simp only [Act.put, getElem_toArray, getElem_cons_zero, getElem_cons_succ, setIfInBounds_toArray, set_cons_zero, set_cons_succ]
  refine wpAnyH_take (i := 3) (v := ?_) rfl (by kernel_rfl) (by kernel_rfl) (by kernel_rfl) (fun _ _ _ h => h) (Or.inl ⟨by rfl, ?_⟩) (by assumption) ?_; rotate_left; · (intro wq hSq; have hq := HCC.out wq hSq; go_split_ands; go_simp; (try with_reducible rfl))
  try simp only [Act.put, getElem_toArray, getElem_cons_zero, getElem_cons_succ, setIfInBounds_toArray, set_cons_zero, set_cons_succ]
  refine wpAnyH_take (i := 4) (v := ?_) rfl (by kernel_rfl) (by kernel_rfl) (by kernel_rfl) (fun _ _ _ h => h) (Or.inl ⟨by rfl, ?_⟩) (by assumption) ?_; rotate_left; · (intro wq hSq; have hq := HCC.out wq hSq; go_split_ands; go_simp; (try with_reducible rfl))
  try simp only [Act.put, getElem_toArray, getElem_cons_zero, getElem_cons_succ, setIfInBounds_toArray, set_cons_zero, set_cons_succ]
  refine wpAnyH_take (i := 5) (v := ?_) rfl (by kernel_rfl) (by kernel_rfl) (by kernel_rfl) (fun _ _ _ h => h) (Or.inl ⟨by rfl, ?_⟩) (by assumption) ?_; rotate_left; · (intro wq hSq; have hq := HCC.out wq hSq; go_split_ands; go_simp; (try with_reducible rfl))
  try simp only [Act.put, getElem_toArray, getElem_cons_zero, getElem_cons_succ, setIfInBounds_toArray, set_cons_zero, set_cons_succ]
  refine wpAnyH_take (i := 6) (v := ?_) rfl (by kernel_rfl) (by kernel_rfl) (by kernel_rfl) (fun _ _ _ h => h) (Or.inl ⟨by rfl, ?_⟩) (by assumption) ?_; rotate_left; · (intro wq hSq; have hq := HCC.out wq hSq; go_split_ands; go_simp; (try with_reducible rfl))
  try simp only [Act.put, getElem_toArray, getElem_cons_zero, getElem_cons_succ, setIfInBounds_toArray, set_cons_zero, set_cons_succ]
  refine wpAnyH_take (i := 7) (v := ?_) rfl (by kernel_rfl) (by kernel_rfl) (by kernel_rfl) (fun _ _ _ h => h) (Or.inl ⟨by rfl, ?_⟩) (by assumption) ?_; rotate_left; · (intro wq hSq; have hq := HCC.out wq hSq; go_split_ands; go_simp; (try with_reducible rfl))
  try simp only [Act.put, getElem_toArray, getElem_cons_zero, getElem_cons_succ, setIfInBounds_toArray, set_cons_zero, set_cons_succ]
  refine wpAnyH_take (i := 8) (v := ?_) rfl (by kernel_rfl) (by kernel_rfl) (by kernel_rfl) (fun _ _ _ h => h) (Or.inl ⟨by rfl, ?_⟩) (by assumption) ?_; rotate_left; · (intro wq hSq; have hq := HCC.out wq hSq; go_split_ands; go_simp; (try with_reducible rfl))
  try simp only [Act.put, getElem_toArray, getElem_cons_zero, getElem_cons_succ, setIfInBounds_toArray, set_cons_zero, set_cons_succ]
  refine wpAnyH_take (i := 10) (v := ?_) rfl (by kernel_rfl) (by kernel_rfl) (by kernel_rfl) (fun _ _ _ h => h) (Or.inl ⟨by rfl, ?_⟩) (by assumption) ?_; rotate_left; · (intro wq hSq; have hq := HCC.out wq hSq; go_split_ands; go_simp; (try with_reducible rfl))
  try simp only [Act.put, getElem_toArray, getElem_cons_zero, getElem_cons_succ, setIfInBounds_toArray, set_cons_zero, set_cons_succ]
  refine wpAnyH_take (i := 11) (v := ?_) rfl (by kernel_rfl) (by kernel_rfl) (by kernel_rfl) (fun _ _ _ h => h) (Or.inl ⟨by rfl, ?_⟩) (by assumption) ?_; rotate_left; · (intro wq hSq; have hq := HCC.out wq hSq; go_split_ands; go_simp; (try with_reducible rfl))
  try simp only [Act.put, getElem_toArray, getElem_cons_zero, getElem_cons_succ, setIfInBounds_toArray, set_cons_zero, set_cons_succ]
  refine wpAnyH_take (i := 12) (v := ?_) rfl (by kernel_rfl) (by kernel_rfl) (by kernel_rfl) (fun _ _ _ h => h) (Or.inl ⟨by rfl, ?_⟩) (by assumption) ?_; rotate_left; · (intro wq hSq; have hq := HCC.out wq hSq; go_split_ands; go_simp; (try with_reducible rfl))
  try simp only [Act.put, getElem_toArray, getElem_cons_zero, getElem_cons_succ, setIfInBounds_toArray, set_cons_zero, set_cons_succ]
  refine wpAnyH_take (i := 13) (v := ?_) rfl (by kernel_rfl) (by kernel_rfl) (by kernel_rfl) (fun _ _ _ h => h) (Or.inl ⟨by rfl, ?_⟩) (by assumption) ?_; rotate_left; · (intro wq hSq; have hq := HCC.out wq hSq; go_split_ands; go_simp; (try with_reducible rfl))
  try simp only [Act.put, getElem_toArray, getElem_cons_zero, getElem_cons_succ, setIfInBounds_toArray, set_cons_zero, set_cons_succ]
  refine wpAnyH_take (i := 14) (v := ?_) rfl (by kernel_rfl) (by kernel_rfl) (by kernel_rfl) (fun _ _ _ h => h) (Or.inl ⟨by rfl, ?_⟩) (by assumption) ?_; rotate_left; · (intro wq hSq; have hq := HCC.out wq hSq; go_split_ands; go_simp; (try with_reducible rfl))
  try simp only [Act.put, getElem_toArray, getElem_cons_zero, getElem_cons_succ, setIfInBounds_toArray, set_cons_zero, set_cons_succ]
  refine wpAnyH_take (i := 15) (v := ?_) rfl (by kernel_rfl) (by kernel_rfl) (by kernel_rfl) (fun _ _ _ h => h) (Or.inl ⟨by rfl, ?_⟩) (by assumption) ?_; rotate_left; · (intro wq hSq; have hq := HCC.out wq hSq; go_split_ands; go_simp; (try with_reducible rfl))
  try simp only [Act.put, getElem_toArray, getElem_cons_zero, getElem_cons_succ, setIfInBounds_toArray, set_cons_zero, set_cons_succ]
  refine wpAnyH_take (i := 16) (v := ?_) rfl (by kernel_rfl) (by kernel_rfl) (by kernel_rfl) (fun _ _ _ h => h) (Or.inl ⟨by rfl, ?_⟩) (by assumption) ?_; rotate_left; · (intro wq hSq; have hq := HCC.out wq hSq; go_split_ands; go_simp; (try with_reducible rfl))
  try simp only [Act.put, getElem_toArray, getElem_cons_zero, getElem_cons_succ, setIfInBounds_toArray, set_cons_zero, set_cons_succ]
  refine wpAnyH_take (i := 17) (v := ?_) rfl (by kernel_rfl) (by kernel_rfl) (by kernel_rfl) (fun _ _ _ h => h) (Or.inl ⟨by rfl, ?_⟩) (by assumption) ?_; rotate_left; · (intro wq hSq; have hq := HCC.out wq hSq; go_split_ands; go_simp; (try with_reducible rfl))
  try simp only [Act.put, getElem_toArray, getElem_cons_zero, getElem_cons_succ, setIfInBounds_toArray, set_cons_zero, set_cons_succ]
  refine wpAnyH_take (i := 18) (v := ?_) rfl (by kernel_rfl) (by kernel_rfl) (by kernel_rfl) (fun _ _ _ h => h) (Or.inl ⟨by rfl, ?_⟩) (by assumption) ?_; rotate_left; · (intro wq hSq; have hq := HCC.out wq hSq; go_split_ands; go_simp; (try with_reducible rfl))
  try simp only [Act.put, getElem_toArray, getElem_cons_zero, getElem_cons_succ, setIfInBounds_toArray, set_cons_zero, set_cons_succ]
  refine wpAnyH_take (i := 19) (v := ?_) rfl (by kernel_rfl) (by kernel_rfl) (by kernel_rfl) (fun _ _ _ h => h) (Or.inl ⟨by rfl, ?_⟩) (by assumption) ?_; rotate_left; · (intro wq hSq; have hq := HCC.out wq hSq; go_split_ands; go_simp; (try with_reducible rfl))
  try simp only [Act.put, getElem_toArray, getElem_cons_zero, getElem_cons_succ, setIfInBounds_toArray, set_cons_zero, set_cons_succ]
  refine wpAnyH_ready (rs := [9]) (by kernel_rfl) (by simp) ?_
  refine AllReadyH.cons rfl (fun K hK => ?_) AllReadyH.nil
  try simp only [getElem_toArray, getElem_cons_zero, getElem_cons_succ]
  go_simp
  refine (HMP.out _ _ (HPR5.out.d1.grow (Frm.refl _ _).drew) (HAR.out _ hHeld)).mono ?_
  rintro e w6 ⟨rfl, hF6⟩
  have HP6 := Lib.hid ((HPR5.out.grow (Frm.refl _ _).drew).grow hF6)
  go_wp2_with fail
  refine hK.out _ _ (hHeld.trans' (Sx.no hF6)) (fun hHeld => ?_)
  clear hK K
  try simp only [Act.put, setIfInBounds_toArray, set_cons_zero, set_cons_succ]
  refine wpAnyH_ready (rs := [20]) (by kernel_rfl) (by simp) ?_
  refine AllReadyH.cons rfl (fun K hK => ?_) AllReadyH.nil
  try simp only [getElem_toArray, getElem_cons_zero, getElem_cons_succ]
  go_simp
  refine (HMD.out _ _ HP6.out.r (HAB.out _ hHeld)).mono ?_
  rintro e w7 ⟨rfl, hF7⟩
  have HP7 := Lib.hid (HP6.out.grow hF7)
  go_wp2_with fail
  refine hK.out _ _ (hHeld.trans' (Sx.no hF7)) (fun hHeld => ?_)
  clear hK K
  try simp only [Act.put, setIfInBounds_toArray, set_cons_zero, set_cons_succ]
  refine wpAnyH_take (i := 21) (v := ?_) rfl (by kernel_rfl) (by kernel_rfl) (by kernel_rfl) (fun _ _ _ h => h) (Or.inl ⟨by rfl, ?_⟩) (by assumption) ?_; rotate_left; · (intro wq hSq; (try dsimp only at hSq); go_split_ands; go_simp; (try with_reducible rfl))
  try simp only [Act.put, getElem_toArray, getElem_cons_zero, getElem_cons_succ, setIfInBounds_toArray, set_cons_zero, set_cons_succ]
  refine wpAnyH_take (i := 22) (v := ?_) rfl (by kernel_rfl) (by kernel_rfl) (by kernel_rfl) (fun _ _ _ h => h) (Or.inl ⟨by rfl, ?_⟩) (by assumption) ?_; rotate_left; · (intro wq hSq; (try dsimp only at hSq); go_split_ands; go_simp; (try with_reducible rfl))
  try simp only [Act.put, getElem_toArray, getElem_cons_zero, getElem_cons_succ, setIfInBounds_toArray, set_cons_zero, set_cons_succ]
  refine wpAnyH_take (i := 23) (v := ?_) rfl (by kernel_rfl) (by kernel_rfl) (by kernel_rfl) (fun _ _ _ h => h) (Or.inl ⟨by rfl, ?_⟩) (by assumption) ?_; rotate_left; · (intro wq hSq; have hq := HCC.out wq hSq; go_split_ands; go_simp; (try with_reducible rfl))
  try simp only [Act.put, getElem_toArray, getElem_cons_zero, getElem_cons_succ, setIfInBounds_toArray, set_cons_zero, set_cons_succ]
  refine wpAnyH_take (i := 24) (v := ?_) rfl (by kernel_rfl) (by kernel_rfl) (by kernel_rfl) (fun _ _ _ h => h) (Or.inl ⟨by rfl, ?_⟩) (by assumption) ?_; rotate_left; · (intro wq hSq; have hq := HCC.out wq hSq; go_split_ands; go_simp; (try with_reducible rfl))
  try simp only [Act.put, getElem_toArray, getElem_cons_zero, getElem_cons_succ, setIfInBounds_toArray, set_cons_zero, set_cons_succ]
  refine wpAnyH_take (i := 25) (v := ?_) rfl (by kernel_rfl) (by kernel_rfl) (by kernel_rfl) (fun _ _ _ h => h) (Or.inl ⟨by rfl, ?_⟩) (by assumption) ?_; rotate_left; · (intro wq hSq; have hq := HCC.out wq hSq; go_split_ands; go_simp; (try with_reducible rfl))
  try simp only [Act.put, getElem_toArray, getElem_cons_zero, getElem_cons_succ, setIfInBounds_toArray, set_cons_zero, set_cons_succ]
  refine wpAnyH_take (i := 26) (v := ?_) rfl (by kernel_rfl) (by kernel_rfl) (by kernel_rfl) (fun _ _ _ h => h) (Or.inl ⟨by rfl, ?_⟩) (by assumption) ?_; rotate_left; · (intro wq hSq; have hq := HCC.out wq hSq; go_split_ands; go_simp; (try with_reducible rfl))
  try simp only [Act.put, getElem_toArray, getElem_cons_zero, getElem_cons_succ, setIfInBounds_toArray, set_cons_zero, set_cons_succ]
  refine wpAnyH_take (i := 27) (v := ?_) rfl (by kernel_rfl) (by kernel_rfl) (by kernel_rfl) (fun _ _ _ h => h) (Or.inl ⟨by rfl, ?_⟩) (by assumption) ?_; rotate_left; · (intro wq hSq; have hq := HCC.out wq hSq; go_split_ands; go_simp; (try with_reducible rfl))
  try simp only [Act.put, getElem_toArray, getElem_cons_zero, getElem_cons_succ, setIfInBounds_toArray, set_cons_zero, set_cons_succ]
  refine wpAnyH_take (i := 28) (v := ?_) rfl (by kernel_rfl) (by kernel_rfl) (by kernel_rfl) (fun _ _ _ h => h) (Or.inl ⟨by rfl, ?_⟩) (by assumption) ?_; rotate_left; · (intro wq hSq; have hq := HCC.out wq hSq; go_split_ands; go_simp; (try with_reducible rfl))
  try simp only [Act.put, getElem_toArray, getElem_cons_zero, getElem_cons_succ, setIfInBounds_toArray, set_cons_zero, set_cons_succ]
  refine wpAnyH_take (i := 29) (v := ?_) rfl (by kernel_rfl) (by kernel_rfl) (by kernel_rfl) (fun _ _ _ h => h) (Or.inl ⟨by rfl, ?_⟩) (by assumption) ?_; rotate_left; · (intro wq hSq; have hq := HCC.out wq hSq; go_split_ands; go_simp; (try with_reducible rfl))
  try simp only [Act.put, getElem_toArray, getElem_cons_zero, getElem_cons_succ, setIfInBounds_toArray, set_cons_zero, set_cons_succ]
  refine wpAnyH_take (i := 30) (v := ?_) rfl (by kernel_rfl) (by kernel_rfl) (by kernel_rfl) (fun _ _ _ h => h) (Or.inl ⟨by rfl, ?_⟩) (by assumption) ?_; rotate_left; · (intro wq hSq; have hq := HCC.out wq hSq; go_split_ands; go_simp; (try with_reducible rfl))
  try simp only [Act.put, getElem_toArray, getElem_cons_zero, getElem_cons_succ, setIfInBounds_toArray, set_cons_zero, set_cons_succ]
  refine wpAnyH_take (i := 31) (v := ?_) rfl (by kernel_rfl) (by kernel_rfl) (by kernel_rfl) (fun _ _ _ h => h) (Or.inl ⟨by rfl, ?_⟩) (by assumption) ?_; rotate_left; · (intro wq hSq; have hq := HCC.out wq hSq; go_split_ands; go_simp; (try with_reducible rfl))
  try simp only [Act.put, getElem_toArray, getElem_cons_zero, getElem_cons_succ, setIfInBounds_toArray, set_cons_zero, set_cons_succ]
  refine wpAnyH_take (i := 33) (v := ?_) rfl (by kernel_rfl) (by kernel_rfl) (by kernel_rfl) (fun _ _ _ h => h) (Or.inl ⟨by rfl, ?_⟩) (by assumption) ?_; rotate_left; · (intro wq hSq; have hq := HCC.out wq hSq; go_split_ands; go_simp; (try with_reducible rfl))
  try simp only [Act.put, getElem_toArray, getElem_cons_zero, getElem_cons_succ, setIfInBounds_toArray, set_cons_zero, set_cons_succ]
  refine wpAnyH_take (i := 34) (v := ?_) rfl (by kernel_rfl) (by kernel_rfl) (by kernel_rfl) (fun _ _ _ h => h) (Or.inl ⟨by rfl, ?_⟩) (by assumption) ?_; rotate_left; · (intro wq hSq; have hq := HCC.out wq hSq; go_split_ands; go_simp; (try with_reducible rfl))
  try simp only [Act.put, getElem_toArray, getElem_cons_zero, getElem_cons_succ, setIfInBounds_toArray, set_cons_zero, set_cons_succ]
  refine wpAnyH_take (i := 35) (v := ?_) rfl (by kernel_rfl) (by kernel_rfl) (by kernel_rfl) (fun _ _ _ h => h) (Or.inl ⟨by rfl, ?_⟩) (by assumption) ?_; rotate_left; · (intro wq hSq; have hq := HCC.out wq hSq; go_split_ands; go_simp; (try with_reducible rfl))
  try simp only [Act.put, getElem_toArray, getElem_cons_zero, getElem_cons_succ, setIfInBounds_toArray, set_cons_zero, set_cons_succ]
  refine wpAnyH_take (i := 36) (v := ?_) rfl (by kernel_rfl) (by kernel_rfl) (by kernel_rfl) (fun _ _ _ h => h) (Or.inl ⟨by rfl, ?_⟩) (by assumption) ?_; rotate_left; · (intro wq hSq; have hq := HCC.out wq hSq; go_split_ands; go_simp; (try with_reducible rfl))
  try simp only [Act.put, getElem_toArray, getElem_cons_zero, getElem_cons_succ, setIfInBounds_toArray, set_cons_zero, set_cons_succ]
  refine wpAnyH_take (i := 37) (v := ?_) rfl (by kernel_rfl) (by kernel_rfl) (by kernel_rfl) (fun _ _ _ h => h) (Or.inl ⟨by rfl, ?_⟩) (by assumption) ?_; rotate_left; · (intro wq hSq; have hq := HCC.out wq hSq; go_split_ands; go_simp; (try with_reducible rfl))
  try simp only [Act.put, getElem_toArray, getElem_cons_zero, getElem_cons_succ, setIfInBounds_toArray, set_cons_zero, set_cons_succ]
  refine wpAnyH_take (i := 38) (v := ?_) rfl (by kernel_rfl) (by kernel_rfl) (by kernel_rfl) (fun _ _ _ h => h) (Or.inl ⟨by rfl, ?_⟩) (by assumption) ?_; rotate_left; · (intro wq hSq; have hq := HCC.out wq hSq; go_split_ands; go_simp; (try with_reducible rfl))
  try simp only [Act.put, getElem_toArray, getElem_cons_zero, getElem_cons_succ, setIfInBounds_toArray, set_cons_zero, set_cons_succ]
  refine wpAnyH_take (i := 39) (v := ?_) rfl (by kernel_rfl) (by kernel_rfl) (by kernel_rfl) (fun _ _ _ h => h) (Or.inl ⟨by rfl, ?_⟩) (by assumption) ?_; rotate_left; · (intro wq hSq; have hq := HCC.out wq hSq; go_split_ands; go_simp; (try with_reducible rfl))
  try simp only [Act.put, getElem_toArray, getElem_cons_zero, getElem_cons_succ, setIfInBounds_toArray, set_cons_zero, set_cons_succ]
  refine wpAnyH_take (i := 40) (v := ?_) rfl (by kernel_rfl) (by kernel_rfl) (by kernel_rfl) (fun _ _ _ h => h) (Or.inl ⟨by rfl, ?_⟩) (by assumption) ?_; rotate_left; · (intro wq hSq; have hq := HCC.out wq hSq; go_split_ands; go_simp; (try with_reducible rfl))
  try simp only [Act.put, getElem_toArray, getElem_cons_zero, getElem_cons_succ, setIfInBounds_toArray, set_cons_zero, set_cons_succ]
  refine wpAnyH_take (i := 41) (v := ?_) rfl (by kernel_rfl) (by kernel_rfl) (by kernel_rfl) (fun _ _ _ h => h) (Or.inl ⟨by rfl, ?_⟩) (by assumption) ?_; rotate_left; · (intro wq hSq; have hq := HCC.out wq hSq; go_split_ands; go_simp; (try with_reducible rfl))
  try simp only [Act.put, getElem_toArray, getElem_cons_zero, getElem_cons_succ, setIfInBounds_toArray, set_cons_zero, set_cons_succ]
  refine wpAnyH_take (i := 42) (v := ?_) rfl (by kernel_rfl) (by kernel_rfl) (by kernel_rfl) (fun _ _ _ h => h) (Or.inl ⟨by rfl, ?_⟩) (by assumption) ?_; rotate_left; · (intro wq hSq; have hq := HCC.out wq hSq; go_split_ands; go_simp; (try with_reducible rfl))
  try simp only [Act.put, getElem_toArray, getElem_cons_zero, getElem_cons_succ, setIfInBounds_toArray, set_cons_zero, set_cons_succ]
  refine wpAnyH_ready (rs := [32]) (by kernel_rfl) (by simp) ?_
  refine AllReadyH.cons rfl (fun K hK => ?_) AllReadyH.nil
  try simp only [getElem_toArray, getElem_cons_zero, getElem_cons_succ]
  go_simp
  refine (HWP.out _ _ HP7.out.d1 (HAR.out _ hHeld)).mono ?_
  rintro e w8 ⟨rfl, l8, hd8, hi8, hf8, hF8⟩
  have HP8 := Lib.hid (HP7.out.prog hF8 hd8 hf8)
  have hz8 : B ≤ w8.heap.size := Nat.le_trans hBw (hHeld.trans' (Sx.l (p := p) hF8)).size
  go_wp2_with fail
  refine hK.out _ _ (hHeld.trans' (Sx.l hF8)) (fun hHeld => ?_)
  clear hK K
  try simp only [Act.put, setIfInBounds_toArray, set_cons_zero, set_cons_succ]
  refine wpAnyH_ready (rs := [43]) (by kernel_rfl) (by simp) ?_
  refine AllReadyH.cons rfl (fun K hK => ?_) AllReadyH.nil
  try simp only [getElem_toArray, getElem_cons_zero, getElem_cons_succ]
  go_simp
  refine (HWD.out _ _ HP8.out.r (HAB.out _ hHeld) hz8).mono ?_
  rintro e w9 ⟨rfl, hd9, hF9⟩
  have HP9 := Lib.hid (HP8.out.doc hF9 hd9)
  go_wp2_with fail
  refine hK.out _ _ (hHeld.trans' (Sx.p hF9)) (fun hHeld => ?_)
  clear hK K
  try simp only [Act.put, setIfInBounds_toArray, set_cons_zero, set_cons_succ]
  refine wpAnyH_take (i := 44) (v := ?_) rfl (by kernel_rfl) (by kernel_rfl) (by kernel_rfl) (fun _ _ _ h => h) (Or.inl ⟨by rfl, ?_⟩) (by assumption) ?_; rotate_left; · (intro wq hSq; (try dsimp only at hSq); go_split_ands; go_simp; (try with_reducible rfl))
  try simp only [Act.put, getElem_toArray, getElem_cons_zero, getElem_cons_succ, setIfInBounds_toArray, set_cons_zero, set_cons_succ]
  refine wpAnyH_take (i := 45) (v := ?_) rfl (by kernel_rfl) (by kernel_rfl) (by kernel_rfl) (fun _ _ _ h => h) (Or.inl ⟨by rfl, ?_⟩) (by assumption) ?_; rotate_left; · (intro wq hSq; (try dsimp only at hSq); go_split_ands; go_simp; (try with_reducible rfl))
  try simp only [Act.put, getElem_toArray, getElem_cons_zero, getElem_cons_succ, setIfInBounds_toArray, set_cons_zero, set_cons_succ]
  refine wpAnyH_take (i := 46) (v := ?_) rfl (by kernel_rfl) (by kernel_rfl) (by kernel_rfl) (fun _ _ _ h => h) (Or.inl ⟨by rfl, ?_⟩) (by assumption) ?_; rotate_left; · (intro wq hSq; (try dsimp only at hSq); go_split_ands; go_simp; (try with_reducible rfl))
  try simp only [Act.put, getElem_toArray, getElem_cons_zero, getElem_cons_succ, setIfInBounds_toArray, set_cons_zero, set_cons_succ]
  refine wpAnyH_done (by kernel_rfl) ?_ _
  have HH := Lib.hid hHeld
  have HI8 := Lib.hid hi8
  have HF8 := Lib.hid hf8
  clear hHeld hF6 hF7 hF8 hF9 hd8 hd9 hi8 hf8
  go_wp2_with fail
  go_ret
  exact ⟨rfl, l8, HP9.out, HI8.out, HF8.out, (Sx.no HF5.out).trans' HH.out⟩
end Go.Proofs.Ytemjdmgfilbfaaa
