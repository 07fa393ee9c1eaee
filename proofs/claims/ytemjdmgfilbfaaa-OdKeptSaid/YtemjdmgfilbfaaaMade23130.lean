/-
  A call by the program and by the document: Get; Set; Reset. What the document's Load reads, one saved value after the other.
-/
import Derived.Test.YtemjdmgfilbfaaaM87357a7f
import Derived.Test.YtemjdmgfilbfaaaM008825e4
import Derived.Test.YtemjdmgfilbfaaaM1d64679b
import Derived.Test.YtemjdmgfilbfaaaM482eda05
import Derived.Test.YtemjdmgfilbfaaaM4c8e25fb
import Derived.Test.YtemjdmgfilbfaaaM92b9d176
import Derived.Test.YtemjdmgfilbfaaaM37a9eb65
set_option linter.unusedVariables false
set_option linter.unusedSimpArgs false
namespace Go.Proofs.Ytemjdmgfilbfaaa
open Go.RowKit
open List (getElem_toArray getElem_cons_zero getElem_cons_succ setIfInBounds_toArray set_cons_zero set_cons_succ)
set_option linter.unusedVariables false
set_option linter.unusedSimpArgs false

set_option maxRecDepth 100000 in
set_option maxHeartbeats 2000000 in
theorem does2 (a b p B : Nat) (l : List (Nat × Im)) (d : List Im) (i s : Int) (bv : Value) (bs : List UInt8) (v : Va) (n : Int) (w : World) (h : Pr w a b p B l d) (hd : im l = d) (hf : Fit d) (hB : B ≤ w.heap.size) (hg : Arg w l p i s bv bs v n) :
    Calls Try.prog 23 #[ptr a, .agg #[.int .i64 2, .int .u16 i, .int .u8 s, bv, .int .i64 v.ty, .int .u64 v.n, .string (strB2 v.b), .int .u16 n]] w (DoesP a b p B l d w) := by
  have HPR := Lib.hid h
  have HFIT := Lib.hid hf
  have HIM := Lib.hid hd
  have HBB := Lib.hid hB
  have HNO := Lib.hid hg.no
  have hs := Lib.hid hg.s
  have hvo := Lib.hid hg.v
  have hbl := hg.len
  have hb0 := hg.no w (Frm.refl _ _)
  obtain ⟨A3, c3, rfl, _, _, hn3⟩ := hb0.open_
  have HN3 := Lib.hid hn3
  have HLE : Hid ((bs.map encB).length = bs.length * 1) := by unfold Hid; simp
  have hm1 : 0 + bs.length ≤ maxLen := by unfold maxLen; omega
  have hm2 : (0 + bs.length) * 1 ≤ 140737488355328 := by omega
  have hn0 := hg.n.1
  have hn1 := hg.n.2
  clear h hf hd hB hg hb0 hn3
  unfold ptr
  have HGP := Lib.hid (fun W (hW : DAt W b l) => odGet_any b l i s W hW (by rw [HIM.out]; exact HFIT.out.ok) hs.out)
  have HFD := Lib.hid (fun W (hW : DR W p B d) => rDFind_any p B d i s W hW HFIT.out.len)
  have HG2 : Hid ((findD d i s = none ∧ getD2 d i s = (.zero, 4) ∧ (findC d i s != 0) = true) ∨ ∃ (k : Nat) (hk : k < d.length), findD d i s = some k ∧ getD2 d i s = (d[k].2, 0) ∧ findC d i s = 0) := by
    unfold Hid getD2 findC
    cases hf : findD d i s with
    | none =>
      left
      refine ⟨rfl, rfl, ?_⟩
      simp only [Option.isSome_none, Bool.false_eq_true, if_false]
      split <;> decide
    | some k =>
      right
      have hk := find_lt hf
      refine ⟨k, hk, rfl, ?_, rfl⟩
      simp only [List.getElem?_eq_getElem hk]
  rw [HIM.out] at HGP
  generalize hgd : getD2 d i s = gd at *
  clear hgd
  obtain ⟨dv, de⟩ := gd
  unfold valV ptr at HGP
  unfold ptr at HFD
  simp only at HGP
  go_enter Try.func23, Try.ntmps23
  go_upto_region 10 with (at_builtin; refine wpl_app_src rfl el_u8 (.tmp 15) (.tmp 17) rfl (B := w.heap.size + 1) (xs := []) (news := bs.map encB) rfl rfl (row_new (by simp) rfl rfl (by decide) (by simp)) HLE.out (fun h => (HN3.out h).grow (by (repeat' (first | (with_reducible exact Frm.refl _ _) | (with_reducible assumption) | (with_reducible refine Frm.alloc ?_ _) | (with_reducible refine Frm.drew ?_) | (with_reducible refine Frm.drewN ?_ _) | (with_reducible refine Frm.set1 ?_ _) | (with_reducible refine Frm.setCell ?_ ?_ _) | (exact fun h => absurd h (Nat.lt_irrefl _)) | (intro hlt; simp [World.size_alloc, One] at hlt ⊢; omega))))) (oneB _) hm1 hm2 (by simp) ?_; intro A5 c5 w5 hown5 hfr5; have hD5 := does_app hown5 hfr5; have HD5 := Lib.hid hD5; have k0 : w5.cell? ⟨w.heap.size, 0, none⟩ = some (.int .i64 2) := cell_at hD5.2.1; have kl := lt_of_block hD5.2.1; clear hown5 hfr5 hD5)
  clear k0
  have HF5 := Lib.hid HD5.out.1
  have HT5 := Lib.hid HD5.out.2.1
  have HPR5 := Lib.hid (HPR.out.grow HF5.out)
  have HCC := Lib.hid (does_cells HPR5.out HT5.out)
  have HAR := Lib.hid (does_args HPR5.out (fun hk => Pr.lt HPR.out hk) HD5.out.2.2)
  have HAB := Lib.hid (fun Wx (h : Frm (Sx l p) w5 Wx) => HNO.out Wx ((Sx.no HF5.out).trans' h))
  have hal := lt_of_block HPR5.out.hp
  have hBw : B ≤ w5.heap.size := Nat.le_trans HBB.out HF5.out.size
  clear HN3 HLE hm1 hm2 HD5
  have HCN := Lib.hid (fun W (h : Frm (fun _ => False) w5 W) => HCC.out W (Sx.no h))
  have HGT := Lib.hid (fun W (h : Frm (fun _ => False) w5 W) => HGP.out W (HPR5.out.d1.grow h))
  go_cut [10, 11] (fun pv ev wz => DecC w5 dv de pv ev wz)
  case first =>
    as_aux_lemma =>
    · skip
      refine wp_region_held_drew (S := fun W => Frm (fun _ => False) w5 W) (by kernel_rfl) ((Frm.refl _ _).drew) (fun hHeld => ?_)
      refine wpAnyH_take (i := 0) (v := ?_) rfl (by kernel_rfl) (by kernel_rfl) (by kernel_rfl) (fun _ _ _ h => h) (Or.inl ⟨by rfl, ?_⟩) (by assumption) ?_; rotate_left; · (intro wq hSq; have hq := HCN.out wq hSq; go_split_ands; go_simp; (try with_reducible rfl))
      try simp only [Act.put, getElem_toArray, getElem_cons_zero, getElem_cons_succ, setIfInBounds_toArray, set_cons_zero, set_cons_succ]
      refine wpAnyH_take (i := 1) (v := ?_) rfl (by kernel_rfl) (by kernel_rfl) (by kernel_rfl) (fun _ _ _ h => h) (Or.inl ⟨by rfl, ?_⟩) (by assumption) ?_; rotate_left; · (intro wq hSq; have hq := HCN.out wq hSq; go_split_ands; go_simp; (try with_reducible rfl))
      try simp only [Act.put, getElem_toArray, getElem_cons_zero, getElem_cons_succ, setIfInBounds_toArray, set_cons_zero, set_cons_succ]
      refine wpAnyH_take (i := 2) (v := ?_) rfl (by kernel_rfl) (by kernel_rfl) (by kernel_rfl) (fun _ _ _ h => h) (Or.inl ⟨by rfl, ?_⟩) (by assumption) ?_; rotate_left; · (intro wq hSq; have hq := HCN.out wq hSq; go_split_ands; go_simp; (try with_reducible rfl))
      try simp only [Act.put, getElem_toArray, getElem_cons_zero, getElem_cons_succ, setIfInBounds_toArray, set_cons_zero, set_cons_succ]
      refine wpAnyH_take (i := 3) (v := ?_) rfl (by kernel_rfl) (by kernel_rfl) (by kernel_rfl) (fun _ _ _ h => h) (Or.inl ⟨by rfl, ?_⟩) (by assumption) ?_; rotate_left; · (intro wq hSq; have hq := HCN.out wq hSq; go_split_ands; go_simp; (try with_reducible rfl))
      try simp only [Act.put, getElem_toArray, getElem_cons_zero, getElem_cons_succ, setIfInBounds_toArray, set_cons_zero, set_cons_succ]
      refine wpAnyH_take (i := 4) (v := ?_) rfl (by kernel_rfl) (by kernel_rfl) (by kernel_rfl) (fun _ _ _ h => h) (Or.inl ⟨by rfl, ?_⟩) (by assumption) ?_; rotate_left; · (intro wq hSq; have hq := HCN.out wq hSq; go_split_ands; go_simp; (try with_reducible rfl))
      try simp only [Act.put, getElem_toArray, getElem_cons_zero, getElem_cons_succ, setIfInBounds_toArray, set_cons_zero, set_cons_succ]
      refine wpAnyH_take (i := 5) (v := ?_) rfl (by kernel_rfl) (by kernel_rfl) (by kernel_rfl) (fun _ _ _ h => h) (Or.inl ⟨by rfl, ?_⟩) (by assumption) ?_; rotate_left; · (intro wq hSq; have hq := HCN.out wq hSq; go_split_ands; go_simp; (try with_reducible rfl))
      try simp only [Act.put, getElem_toArray, getElem_cons_zero, getElem_cons_succ, setIfInBounds_toArray, set_cons_zero, set_cons_succ]
      refine wpAnyH_take (i := 6) (v := ?_) rfl (by kernel_rfl) (by kernel_rfl) (by kernel_rfl) (fun _ _ _ h => h) (Or.inl ⟨by rfl, ?_⟩) (by assumption) ?_; rotate_left; · (intro wq hSq; have hq := HCN.out wq hSq; go_split_ands; go_simp; (try with_reducible rfl))
      try simp only [Act.put, getElem_toArray, getElem_cons_zero, getElem_cons_succ, setIfInBounds_toArray, set_cons_zero, set_cons_succ]
      refine wpAnyH_take (i := 7) (v := ?_) rfl (by kernel_rfl) (by kernel_rfl) (by kernel_rfl) (fun _ _ _ h => h) (Or.inl ⟨by rfl, ?_⟩) (by assumption) ?_; rotate_left; · (intro wq hSq; have hq := HCN.out wq hSq; go_split_ands; go_simp; (try with_reducible rfl))
      try simp only [Act.put, getElem_toArray, getElem_cons_zero, getElem_cons_succ, setIfInBounds_toArray, set_cons_zero, set_cons_succ]
      refine wpAnyH_ready (rs := [8, 12]) (by kernel_rfl) (by simp) ?_
      refine AllReadyH.cons rfl (fun K hK => ?_) (AllReadyH.cons rfl (fun K hK => ?_) AllReadyH.nil)
      · try simp only [getElem_toArray, getElem_cons_zero, getElem_cons_succ]
        go_simp
        refine (HGT.out _ (Frm.refl _ _).drew).mono ?_
        rintro e w6 ⟨rfl, hF6⟩
        go_wp2_with fail
        refine hK.out _ _ (hHeld.trans' hF6) (fun hHeld => ?_)
        clear hK K
        try simp only [Act.put, setIfInBounds_toArray, set_cons_zero, set_cons_succ]
        refine wpAnyH_take (i := 9) (v := ?_) rfl (by kernel_rfl) (by kernel_rfl) (by kernel_rfl) (fun _ _ _ h => h) (Or.inl ⟨by rfl, ?_⟩) (by assumption) ?_; rotate_left; · (intro wq hSq; have hq := HCN.out wq hSq; go_split_ands; go_simp; (try with_reducible rfl))
        try simp only [Act.put, getElem_toArray, getElem_cons_zero, getElem_cons_succ, setIfInBounds_toArray, set_cons_zero, set_cons_succ]
        refine wpAnyH_take (i := 10) (v := ?_) rfl (by kernel_rfl) (by kernel_rfl) (by kernel_rfl) (fun _ _ _ h => h) (Or.inl ⟨by rfl, ?_⟩) (by assumption) ?_; rotate_left; · (intro wq hSq; have hq := HCN.out wq hSq; go_split_ands; go_simp; (try with_reducible rfl))
        try simp only [Act.put, getElem_toArray, getElem_cons_zero, getElem_cons_succ, setIfInBounds_toArray, set_cons_zero, set_cons_succ]
        refine wpAnyH_take (i := 11) (v := ?_) rfl (by kernel_rfl) (by kernel_rfl) (by kernel_rfl) (fun _ _ _ h => h) (Or.inl ⟨by rfl, ?_⟩) (by assumption) ?_; rotate_left; · (intro wq hSq; have hq := HCN.out wq hSq; go_split_ands; go_simp; (try with_reducible rfl))
        try simp only [Act.put, getElem_toArray, getElem_cons_zero, getElem_cons_succ, setIfInBounds_toArray, set_cons_zero, set_cons_succ]
        have hH6 := hHeld
        refine wpAnyH_ready (rs := [12]) (by kernel_rfl) (by simp) ?_
        refine AllReadyH.cons rfl (fun K hK => ?_) AllReadyH.nil
        try simp only [getElem_toArray, getElem_cons_zero, getElem_cons_succ]
        go_simp
        refine hK.out _ _ (hHeld.alloc _) (fun hHeld => ?_)
        clear hK K
        try simp only [Act.put, setIfInBounds_toArray, set_cons_zero, set_cons_succ]
        refine wpAnyH_ready (rs := [13]) (by kernel_rfl) (by simp) ?_
        refine AllReadyH.cons rfl (fun K hK => ?_) AllReadyH.nil
        try simp only [getElem_toArray, getElem_cons_zero, getElem_cons_succ]
        go_simp
        refine hK.out _ _ (hH6.alloc _) (fun hHeld => ?_)
        clear hK K
        try simp only [Act.put, setIfInBounds_toArray, set_cons_zero, set_cons_succ]
        refine wpAnyH_take (i := 14) (v := ?_) rfl (by kernel_rfl) (by kernel_rfl) (by kernel_rfl) (fun _ _ _ h => h) (Or.inl ⟨by rfl, ?_⟩) (by assumption) ?_; rotate_left; · (intro wq hSq; have hq := HCN.out wq hSq; go_split_ands; go_simp; (try with_reducible rfl))
        try simp only [Act.put, getElem_toArray, getElem_cons_zero, getElem_cons_succ, setIfInBounds_toArray, set_cons_zero, set_cons_succ]
        refine wpAnyH_done (by kernel_rfl) ?_ _
        have hB6 := Lib.hid (heap_new w6 (.cells #[.int .i64 dv.ty, .int .u64 dv.n, .string (strB2 dv.b)] 36))
        have hyF := Lib.hid (hH6.alloc (.cells #[.int .i64 dv.ty, .int .u64 dv.n, .string (strB2 dv.b)] 36))
        have hs6 := Lib.hid hH6.size
        clear hHeld hH6 hF6
        go_wp2_with fail
        go_meet
        exact ⟨_, rfl, rfl, hB6.out, hyF.out, hs6.out⟩
      · try simp only [getElem_toArray, getElem_cons_zero, getElem_cons_succ]
        go_simp
        refine hK.out _ _ (hHeld.alloc _) (fun hHeld => ?_)
        clear hK K
        try simp only [Act.put, setIfInBounds_toArray, set_cons_zero, set_cons_succ]
        refine wpAnyH_ready (rs := [8]) (by kernel_rfl) (by simp) ?_
        refine AllReadyH.cons rfl (fun K hK => ?_) AllReadyH.nil
        try simp only [getElem_toArray, getElem_cons_zero, getElem_cons_succ]
        go_simp
        refine (HGT.out _ hHeld).mono ?_
        rintro e w6 ⟨rfl, hF6⟩
        have kz : w6.heap[w5.heap.size]? = some (.cells #[.int .i64 0, .int .u64 0, .string ⟨#[]⟩] 36 (0, 0)) := hF6.heap (by first | exact heap_new w5.drew _ | exact heap_drew' (heap_new w5 _) | exact heap_drew' (heap_new_at rfl)) (fun h => h)
        go_wp2_with fail
        refine hK.out _ _ (hHeld.trans' hF6) (fun hHeld => ?_)
        clear hK K
        try simp only [Act.put, setIfInBounds_toArray, set_cons_zero, set_cons_succ]
        refine wpAnyH_take (i := 9) (v := ?_) rfl (by kernel_rfl) (by kernel_rfl) (by kernel_rfl) (fun _ _ _ h => h) (Or.inl ⟨by rfl, ?_⟩) (by assumption) ?_; rotate_left; · (intro wq hSq; have hq := HCN.out wq hSq; go_split_ands; go_simp; (try with_reducible rfl))
        try simp only [Act.put, getElem_toArray, getElem_cons_zero, getElem_cons_succ, setIfInBounds_toArray, set_cons_zero, set_cons_succ]
        refine wpAnyH_take (i := 10) (v := ?_) rfl (by kernel_rfl) (by kernel_rfl) (by kernel_rfl) (fun _ _ _ h => h) (Or.inl ⟨by rfl, ?_⟩) (by assumption) ?_; rotate_left; · (intro wq hSq; have hq := HCN.out wq hSq; go_split_ands; go_simp; (try with_reducible rfl))
        try simp only [Act.put, getElem_toArray, getElem_cons_zero, getElem_cons_succ, setIfInBounds_toArray, set_cons_zero, set_cons_succ]
        refine wpAnyH_take (i := 11) (v := ?_) rfl (by kernel_rfl) (by kernel_rfl) (by kernel_rfl) (fun _ _ _ h => h) (Or.inl ⟨by rfl, ?_⟩) (by assumption) ?_; rotate_left; · (intro wq hSq; have hq := HCN.out wq hSq; go_split_ands; go_simp; (try with_reducible rfl))
        try simp only [Act.put, getElem_toArray, getElem_cons_zero, getElem_cons_succ, setIfInBounds_toArray, set_cons_zero, set_cons_succ]
        have n0 : w6.cell? ⟨w5.heap.size, 0, none⟩ = some (.int .i64 0) := cell_at kz
        have n1 : w6.cell? ⟨w5.heap.size, 1, none⟩ = some (.int .u64 0) := cell_at kz
        have n2 : w6.cell? ⟨w5.heap.size, 2, none⟩ = some (.string ⟨#[]⟩) := cell_at kz
        have nf := frees kz
        refine wpAnyH_ready (rs := [13]) (by kernel_rfl) (by simp) ?_
        refine AllReadyH.cons rfl (fun K hK => ?_) AllReadyH.nil
        try simp only [getElem_toArray, getElem_cons_zero, getElem_cons_succ]
        go_simp
        refine hK.out _ _ (((hHeld.setCell (p := ⟨w5.heap.size, 0, none⟩) (fun h => absurd h (Nat.lt_irrefl _)) _).setCell (p := ⟨w5.heap.size, 1, none⟩) (fun h => absurd h (Nat.lt_irrefl _)) _).setCell (p := ⟨w5.heap.size, 2, none⟩) (fun h => absurd h (Nat.lt_irrefl _)) _) (fun hHeld => ?_)
        clear hK K
        try simp only [Act.put, setIfInBounds_toArray, set_cons_zero, set_cons_succ]
        refine wpAnyH_take (i := 14) (v := ?_) rfl (by kernel_rfl) (by kernel_rfl) (by kernel_rfl) (fun _ _ _ h => h) (Or.inl ⟨by rfl, ?_⟩) (by assumption) ?_; rotate_left; · (intro wq hSq; have hq := HCN.out wq hSq; go_split_ands; go_simp; (try with_reducible rfl))
        try simp only [Act.put, getElem_toArray, getElem_cons_zero, getElem_cons_succ, setIfInBounds_toArray, set_cons_zero, set_cons_succ]
        refine wpAnyH_done (by kernel_rfl) ?_ _
        have hB6 := Lib.hid (store3c (c0 := .int .i64 dv.ty) (c1 := .int .u64 dv.n) (c2 := .string (strB2 dv.b)) kz)
        have hyF := Lib.hid hHeld
        clear hHeld hF6 kz n0 n1 n2 nf
        go_wp2_with fail
        go_meet
        exact ⟨_, rfl, rfl, hB6.out, hyF.out, Nat.le_refl _⟩
  case rest =>
    obtain ⟨gb, rfl, rfl, hB, hFc, hgb⟩ := hcut
    have HBX := Lib.hid hB
    have HFC := Lib.hid hFc
    clear hB hFc HGT HCN
    obtain ⟨wq, hwq⟩ : ∃ wq : World, wq = wc := ⟨_, rfl⟩
    subst hwq
    have haq := Nat.lt_of_lt_of_le hal HFC.out.size
    have HCM := Lib.hid (fun W (h : Frm (fun _ => False) wq W) => HCC.out W (Sx.no (HFC.out.trans' h)))
    go_upto_region 11 with fail
    refine wp_region_held_drew (S := fun W => Frm (fun _ => False) wq W) (by kernel_rfl) ((Frm.refl _ _).drew) (fun hHeld => ?_)
    refine wpAnyH_take (i := 0) (v := ?_) rfl (by kernel_rfl) (by kernel_rfl) (by kernel_rfl) (fun _ _ _ h => h) (Or.inl ⟨by rfl, ?_⟩) (by assumption) ?_; rotate_left; · (intro wq hSq; have hq := HCM.out wq hSq; go_split_ands; go_simp; (try with_reducible rfl))
    try simp only [Act.put, getElem_toArray, getElem_cons_zero, getElem_cons_succ, setIfInBounds_toArray, set_cons_zero, set_cons_succ]
    refine wpAnyH_take (i := 1) (v := ?_) rfl (by kernel_rfl) (by kernel_rfl) (by kernel_rfl) (fun _ _ _ h => h) (Or.inl ⟨by rfl, ?_⟩) (by assumption) ?_; rotate_left; · (intro wq hSq; have hq := HCM.out wq hSq; go_split_ands; go_simp; (try with_reducible rfl))
    try simp only [Act.put, getElem_toArray, getElem_cons_zero, getElem_cons_succ, setIfInBounds_toArray, set_cons_zero, set_cons_succ]
    refine wpAnyH_take (i := 2) (v := ?_) rfl (by kernel_rfl) (by kernel_rfl) (by kernel_rfl) (fun _ _ _ h => h) (Or.inl ⟨by rfl, ?_⟩) (by assumption) ?_; rotate_left; · (intro wq hSq; have hq := HCM.out wq hSq; go_split_ands; go_simp; (try with_reducible rfl))
    try simp only [Act.put, getElem_toArray, getElem_cons_zero, getElem_cons_succ, setIfInBounds_toArray, set_cons_zero, set_cons_succ]
    refine wpAnyH_take (i := 3) (v := ?_) rfl (by kernel_rfl) (by kernel_rfl) (by kernel_rfl) (fun _ _ _ h => h) (Or.inl ⟨by rfl, ?_⟩) (by assumption) ?_; rotate_left; · (intro wq hSq; have hq := HCM.out wq hSq; go_split_ands; go_simp; (try with_reducible rfl))
    try simp only [Act.put, getElem_toArray, getElem_cons_zero, getElem_cons_succ, setIfInBounds_toArray, set_cons_zero, set_cons_succ]
    refine wpAnyH_take (i := 4) (v := ?_) rfl (by kernel_rfl) (by kernel_rfl) (by kernel_rfl) (fun _ _ _ h => h) (Or.inl ⟨by rfl, ?_⟩) (by assumption) ?_; rotate_left; · (intro wq hSq; have hq := HCM.out wq hSq; go_split_ands; go_simp; (try with_reducible rfl))
    try simp only [Act.put, getElem_toArray, getElem_cons_zero, getElem_cons_succ, setIfInBounds_toArray, set_cons_zero, set_cons_succ]
    refine wpAnyH_take (i := 5) (v := ?_) rfl (by kernel_rfl) (by kernel_rfl) (by kernel_rfl) (fun _ _ _ h => h) (Or.inl ⟨by rfl, ?_⟩) (by assumption) ?_; rotate_left; · (intro wq hSq; have hq := HCM.out wq hSq; go_split_ands; go_simp; (try with_reducible rfl))
    try simp only [Act.put, getElem_toArray, getElem_cons_zero, getElem_cons_succ, setIfInBounds_toArray, set_cons_zero, set_cons_succ]
    refine wpAnyH_take (i := 6) (v := ?_) rfl (by kernel_rfl) (by kernel_rfl) (by kernel_rfl) (fun _ _ _ h => h) (Or.inl ⟨by rfl, ?_⟩) (by assumption) ?_; rotate_left; · (intro wq hSq; have hq := HCM.out wq hSq; go_split_ands; go_simp; (try with_reducible rfl))
    try simp only [Act.put, getElem_toArray, getElem_cons_zero, getElem_cons_succ, setIfInBounds_toArray, set_cons_zero, set_cons_succ]
    refine wpAnyH_take (i := 7) (v := ?_) rfl (by kernel_rfl) (by kernel_rfl) (by kernel_rfl) (fun _ _ _ h => h) (Or.inl ⟨by rfl, ?_⟩) (by assumption) ?_; rotate_left; · (intro wq hSq; have hq := HCM.out wq hSq; go_split_ands; go_simp; (try with_reducible rfl))
    try simp only [Act.put, getElem_toArray, getElem_cons_zero, getElem_cons_succ, setIfInBounds_toArray, set_cons_zero, set_cons_succ]
    refine wpAnyH_ready (rs := [8]) (by kernel_rfl) (by simp) ?_
    refine AllReadyH.cons rfl (fun K hK => ?_) AllReadyH.nil
    try simp only [getElem_toArray, getElem_cons_zero, getElem_cons_succ]
    go_simp
    refine (HFD.out _ ((HPR5.out.r.grow HFC.out).grow hHeld)).mono ?_
    rintro e w8 ⟨rfl, hF8⟩
    go_wp2_with fail
    refine hK.out _ _ (hHeld.trans' hF8) (fun hHeld => ?_)
    clear hK K
    try simp only [Act.put, setIfInBounds_toArray, set_cons_zero, set_cons_succ]
    refine wpAnyH_take (i := 9) (v := ?_) rfl (by kernel_rfl) (by kernel_rfl) (by kernel_rfl) (fun _ _ _ h => h) (Or.inl ⟨by rfl, ?_⟩) (by assumption) ?_; rotate_left; · (intro wq hSq; (try dsimp only at hSq); go_split_ands; go_simp; (try with_reducible rfl))
    try simp only [Act.put, getElem_toArray, getElem_cons_zero, getElem_cons_succ, setIfInBounds_toArray, set_cons_zero, set_cons_succ]
    refine wpAnyH_take (i := 10) (v := ?_) rfl (by kernel_rfl) (by kernel_rfl) (by kernel_rfl) (fun _ _ _ h => h) (Or.inl ⟨by rfl, ?_⟩) (by assumption) ?_; rotate_left; · (intro wq hSq; (try dsimp only at hSq); go_split_ands; go_simp; (try with_reducible rfl))
    try simp only [Act.put, getElem_toArray, getElem_cons_zero, getElem_cons_succ, setIfInBounds_toArray, set_cons_zero, set_cons_succ]
    refine wpAnyH_take (i := 11) (v := ?_) rfl (by kernel_rfl) (by kernel_rfl) (by kernel_rfl) (fun _ _ _ h => h) (Or.inl ⟨by rfl, ?_⟩) (by assumption) ?_; rotate_left; · (intro wq hSq; (try dsimp only at hSq); go_split_ands; go_simp; (try with_reducible rfl))
    try simp only [Act.put, getElem_toArray, getElem_cons_zero, getElem_cons_succ, setIfInBounds_toArray, set_cons_zero, set_cons_succ]
    refine wpAnyH_take (i := 12) (v := ?_) rfl (by kernel_rfl) (by kernel_rfl) (by kernel_rfl) (fun _ _ _ h => h) (Or.inl ⟨by rfl, ?_⟩) (by assumption) ?_; rotate_left; · (intro wq hSq; (try dsimp only at hSq); go_split_ands; go_simp; (try with_reducible rfl))
    try simp only [Act.put, getElem_toArray, getElem_cons_zero, getElem_cons_succ, setIfInBounds_toArray, set_cons_zero, set_cons_succ]
    refine wpAnyH_take (i := 13) (v := ?_) rfl (by kernel_rfl) (by kernel_rfl) (by kernel_rfl) (fun _ _ _ h => h) (Or.inl ⟨by rfl, ?_⟩) (by assumption) ?_; rotate_left; · (intro wq hSq; (try dsimp only at hSq); go_split_ands; go_simp; (try with_reducible rfl))
    try simp only [Act.put, getElem_toArray, getElem_cons_zero, getElem_cons_succ, setIfInBounds_toArray, set_cons_zero, set_cons_succ]
    refine wpAnyH_done (by kernel_rfl) ?_ _
    have HF8 := Lib.hid (HFC.out.trans' hHeld)
    have HB8 := Lib.hid (hHeld.heap HBX.out (fun h => h))
    clear hHeld hF8 HBX HCM
    have hF := Lib.hid (HF5.out.trans' HF8.out)
    rcases HG2.out with ⟨-, he, hc⟩ | ⟨k, hk, hfk, he, hc⟩
    · simp only [Prod.mk.injEq] at he
      obtain ⟨-, rfl⟩ := he
      generalize findC d i s = cc at *
      generalize (findD d i s).getD 0 = kk at *
      clear HG2
      go_wp2_with fail
      go_ret
      exact ⟨rfl, l, HPR.out.grow hF.out, HIM.out, rfl, Sx.no hF.out⟩
    · simp only [Prod.mk.injEq] at he
      obtain ⟨hdv, rfl⟩ := he
      rw [hc, hfk]
      simp only [Option.getD_some]
      obtain ⟨gl, gv, cl, cv, h1, l1, l2, cL, cV⟩ := HPR5.out.r.at_ hk
      have v0 : w5.cell? ⟨gv, k * 3, none⟩ = some (.int .i64 d[k].2.ty) := cV 0 (by decide)
      have v1 : w5.cell? ⟨gv, k * 3 + 1, none⟩ = some (.int .u64 d[k].2.n) := cV 1 (by decide)
      have v2 : w5.cell? ⟨gv, k * 3 + 2, none⟩ = some (.string (strB2 d[k].2.b)) := cV 2 (by decide)
      rw [← hdv] at v0 v1 v2
      have p1 : w5.cell? ⟨p, 1, none⟩ = some (.slice (some ⟨gv, 0, none⟩) d.length cv) := cell_at h1
      have f0 : w8.cell? ⟨gb, 0, none⟩ = some (.int .i64 dv.ty) := cell_at HB8.out
      have f1 : w8.cell? ⟨gb, 1, none⟩ = some (.int .u64 dv.n) := cell_at HB8.out
      have f2 : w8.cell? ⟨gb, 2, none⟩ = some (.string (strB2 dv.b)) := cell_at HB8.out
      have hk2 : (k : Int) < (d.length : Int) := by omega
      have hcc : ∀ W, Frm (fun _ => False) w8 W → W.cell? ⟨a, 1, none⟩ = some (.pointer (some ⟨p, 0, none⟩)) ∧ W.cell? ⟨p, 1, none⟩ = some (.slice (some ⟨gv, 0, none⟩) d.length cv) ∧ W.cell? ⟨gv, k * 3, none⟩ = some (.int .i64 dv.ty) ∧ W.cell? ⟨gv, k * 3 + 1, none⟩ = some (.int .u64 dv.n) ∧ W.cell? ⟨gv, k * 3 + 2, none⟩ = some (.string (strB2 dv.b)) ∧ W.cell? ⟨gb, 0, none⟩ = some (.int .i64 dv.ty) ∧ W.cell? ⟨gb, 1, none⟩ = some (.int .u64 dv.n) ∧ W.cell? ⟨gb, 2, none⟩ = some (.string (strB2 dv.b)) := fun W h => by
        have h5 := HF8.out.trans' h
        exact ⟨(HCC.out W (Sx.no h5)).2.1, h5.cell p1 (fun h => h), h5.cell v0 (fun h => h), h5.cell v1 (fun h => h), h5.cell v2 (fun h => h), h.cell f0 (fun h => h), h.cell f1 (fun h => h), h.cell f2 (fun h => h)⟩
      have HC9 := Lib.hid hcc
      have ha8 := Nat.lt_of_lt_of_le hal HF8.out.size
      have hp8 := Nat.lt_of_lt_of_le HPR5.out.r.lt HF8.out.size
      have hg8 := Nat.lt_of_lt_of_le l2 HF8.out.size
      have hb8 := lt_of_block HB8.out
      clear v0 v1 v2 p1 f0 f1 f2 cL cV h1 l1 l2 hcc hdv hfk hc HG2
      go_upto_region 14 with fail
      refine wp_region_held_drew (S := fun W => Frm (fun _ => False) w8 W) (by kernel_rfl) ((Frm.refl _ _).drew) (fun hHeld => ?_)
      refine wpAnyH_take (i := 0) (v := ?_) rfl (by kernel_rfl) (by kernel_rfl) (by kernel_rfl) (fun _ _ _ h => h) (Or.inl ⟨by rfl, ?_⟩) (by assumption) ?_; rotate_left; · (intro wq hSq; have hq := HC9.out wq hSq; go_split_ands; go_simp; (try with_reducible rfl))
      try simp only [Act.put, getElem_toArray, getElem_cons_zero, getElem_cons_succ, setIfInBounds_toArray, set_cons_zero, set_cons_succ]
      refine wpAnyH_take (i := 1) (v := ?_) rfl (by kernel_rfl) (by kernel_rfl) (by kernel_rfl) (fun _ _ _ h => h) (Or.inl ⟨by rfl, ?_⟩) (by assumption) ?_; rotate_left; · (intro wq hSq; have hq := HC9.out wq hSq; go_split_ands; go_simp; (try with_reducible rfl))
      try simp only [Act.put, getElem_toArray, getElem_cons_zero, getElem_cons_succ, setIfInBounds_toArray, set_cons_zero, set_cons_succ]
      refine wpAnyH_take (i := 2) (v := ?_) rfl (by kernel_rfl) (by kernel_rfl) (by kernel_rfl) (fun _ _ _ h => h) (Or.inl ⟨by rfl, ?_⟩) (by assumption) ?_; rotate_left; · (intro wq hSq; have hq := HC9.out wq hSq; go_split_ands; go_simp; (try with_reducible rfl))
      try simp only [Act.put, getElem_toArray, getElem_cons_zero, getElem_cons_succ, setIfInBounds_toArray, set_cons_zero, set_cons_succ]
      refine wpAnyH_take (i := 3) (v := ?_) rfl (by kernel_rfl) (by kernel_rfl) (by kernel_rfl) (fun _ _ _ h => h) (Or.inl ⟨by rfl, ?_⟩) (by assumption) ?_; rotate_left; · (intro wq hSq; have hq := HC9.out wq hSq; go_split_ands; go_simp; (try with_reducible rfl))
      try simp only [Act.put, getElem_toArray, getElem_cons_zero, getElem_cons_succ, setIfInBounds_toArray, set_cons_zero, set_cons_succ]
      refine wpAnyH_take (i := 4) (v := ?_) rfl (by kernel_rfl) (by kernel_rfl) (by kernel_rfl) (fun _ _ _ h => h) (Or.inl ⟨by rfl, ?_⟩) (by assumption) ?_; rotate_left; · (intro wq hSq; have hq := HC9.out wq hSq; go_split_ands; go_simp; (try with_reducible rfl))
      try simp only [Act.put, getElem_toArray, getElem_cons_zero, getElem_cons_succ, setIfInBounds_toArray, set_cons_zero, set_cons_succ]
      refine wpAnyH_take (i := 5) (v := ?_) rfl (by kernel_rfl) (by kernel_rfl) (by kernel_rfl) (fun _ _ _ h => h) (Or.inl ⟨by rfl, ?_⟩) (by assumption) ?_; rotate_left; · (intro wq hSq; have hq := HC9.out wq hSq; go_split_ands; go_simp; (try with_reducible rfl))
      try simp only [Act.put, getElem_toArray, getElem_cons_zero, getElem_cons_succ, setIfInBounds_toArray, set_cons_zero, set_cons_succ]
      refine wpAnyH_take (i := 6) (v := ?_) rfl (by kernel_rfl) (by kernel_rfl) (by kernel_rfl) (fun _ _ _ h => h) (Or.inl ⟨by rfl, ?_⟩) (by assumption) ?_; rotate_left; · (intro wq hSq; have hq := HC9.out wq hSq; go_split_ands; go_simp; (try with_reducible rfl))
      try simp only [Act.put, getElem_toArray, getElem_cons_zero, getElem_cons_succ, setIfInBounds_toArray, set_cons_zero, set_cons_succ]
      refine wpAnyH_take (i := 7) (v := ?_) rfl (by kernel_rfl) (by kernel_rfl) (by kernel_rfl) (fun _ _ _ h => h) (Or.inl ⟨by rfl, ?_⟩) (by assumption) ?_; rotate_left; · (intro wq hSq; have hq := HC9.out wq hSq; go_split_ands; go_simp; (try with_reducible rfl))
      try simp only [Act.put, getElem_toArray, getElem_cons_zero, getElem_cons_succ, setIfInBounds_toArray, set_cons_zero, set_cons_succ]
      refine wpAnyH_take (i := 8) (v := ?_) rfl (by kernel_rfl) (by kernel_rfl) (by kernel_rfl) (fun _ _ _ h => h) (Or.inl ⟨by rfl, ?_⟩) (by assumption) ?_; rotate_left; · (intro wq hSq; have hq := HC9.out wq hSq; go_split_ands; go_simp; (try with_reducible rfl))
      try simp only [Act.put, getElem_toArray, getElem_cons_zero, getElem_cons_succ, setIfInBounds_toArray, set_cons_zero, set_cons_succ]
      refine wpAnyH_take (i := 9) (v := ?_) rfl (by kernel_rfl) (by kernel_rfl) (by kernel_rfl) (fun _ _ _ h => h) (Or.inl ⟨by rfl, ?_⟩) (by assumption) ?_; rotate_left; · (intro wq hSq; have hq := HC9.out wq hSq; go_split_ands; go_simp; (try with_reducible rfl))
      try simp only [Act.put, getElem_toArray, getElem_cons_zero, getElem_cons_succ, setIfInBounds_toArray, set_cons_zero, set_cons_succ]
      refine wpAnyH_take (i := 10) (v := ?_) rfl (by kernel_rfl) (by kernel_rfl) (by kernel_rfl) (fun _ _ _ h => h) (Or.inl ⟨by rfl, ?_⟩) (by assumption) ?_; rotate_left; · (intro wq hSq; have hq := HC9.out wq hSq; go_split_ands; go_simp; (try with_reducible rfl))
      try simp only [Act.put, getElem_toArray, getElem_cons_zero, getElem_cons_succ, setIfInBounds_toArray, set_cons_zero, set_cons_succ]
      refine wpAnyH_take (i := 11) (v := ?_) rfl (by kernel_rfl) (by kernel_rfl) (by kernel_rfl) (fun _ _ _ h => h) (Or.inl ⟨by rfl, ?_⟩) (by assumption) ?_; rotate_left; · (intro wq hSq; have hq := HC9.out wq hSq; go_split_ands; go_simp; (try with_reducible rfl))
      try simp only [Act.put, getElem_toArray, getElem_cons_zero, getElem_cons_succ, setIfInBounds_toArray, set_cons_zero, set_cons_succ]
      refine wpAnyH_take (i := 12) (v := ?_) rfl (by kernel_rfl) (by kernel_rfl) (by kernel_rfl) (fun _ _ _ h => h) (Or.inl ⟨by rfl, ?_⟩) (by assumption) ?_; rotate_left; · (intro wq hSq; have hq := HC9.out wq hSq; go_split_ands; go_simp; (try with_reducible rfl))
      try simp only [Act.put, getElem_toArray, getElem_cons_zero, getElem_cons_succ, setIfInBounds_toArray, set_cons_zero, set_cons_succ]
      refine wpAnyH_take (i := 13) (v := ?_) rfl (by kernel_rfl) (by kernel_rfl) (by kernel_rfl) (fun _ _ _ h => h) (Or.inl ⟨by rfl, ?_⟩) (by assumption) ?_; rotate_left; · (intro wq hSq; have hq := HC9.out wq hSq; go_split_ands; go_simp; (try with_reducible rfl))
      try simp only [Act.put, getElem_toArray, getElem_cons_zero, getElem_cons_succ, setIfInBounds_toArray, set_cons_zero, set_cons_succ]
      refine wpAnyH_take (i := 14) (v := ?_) rfl (by kernel_rfl) (by kernel_rfl) (by kernel_rfl) (fun _ _ _ h => h) (Or.inl ⟨by rfl, ?_⟩) (by assumption) ?_; rotate_left; · (intro wq hSq; have hq := HC9.out wq hSq; go_split_ands; go_simp; (try with_reducible rfl))
      try simp only [Act.put, getElem_toArray, getElem_cons_zero, getElem_cons_succ, setIfInBounds_toArray, set_cons_zero, set_cons_succ]
      refine wpAnyH_take (i := 15) (v := ?_) rfl (by kernel_rfl) (by kernel_rfl) (by kernel_rfl) (fun _ _ _ h => h) (Or.inl ⟨by rfl, ?_⟩) (by assumption) ?_; rotate_left; · (intro wq hSq; have hq := HC9.out wq hSq; go_split_ands; go_simp; (try with_reducible rfl))
      try simp only [Act.put, getElem_toArray, getElem_cons_zero, getElem_cons_succ, setIfInBounds_toArray, set_cons_zero, set_cons_succ]
      refine wpAnyH_take (i := 16) (v := ?_) rfl (by kernel_rfl) (by kernel_rfl) (by kernel_rfl) (fun _ _ _ h => h) (Or.inl ⟨by rfl, ?_⟩) (by assumption) ?_; rotate_left; · (intro wq hSq; have hq := HC9.out wq hSq; go_split_ands; go_simp; (try with_reducible rfl))
      try simp only [Act.put, getElem_toArray, getElem_cons_zero, getElem_cons_succ, setIfInBounds_toArray, set_cons_zero, set_cons_succ]
      refine wpAnyH_done (by kernel_rfl) ?_ _
      have HH := Lib.hid hHeld
      clear hHeld
      go_wp2_with fail
      go_ret
      have hFF := hF.out.trans' HH.out
      exact ⟨rfl, l, HPR.out.grow hFF, HIM.out, rfl, Sx.no hFF⟩

set_option maxRecDepth 100000 in
set_option maxHeartbeats 2000000 in
theorem does3 (a b p B : Nat) (l : List (Nat × Im)) (d : List Im) (i s : Int) (bv : Value) (bs : List UInt8) (v : Va) (n : Int) (w : World) (h : Pr w a b p B l d) (hd : im l = d) (hf : Fit d) (hB : B ≤ w.heap.size) (hg : Arg w l p i s bv bs v n) :
    Calls Try.prog 23 #[ptr a, .agg #[.int .i64 3, .int .u16 i, .int .u8 s, bv, .int .i64 v.ty, .int .u64 v.n, .string (strB2 v.b), .int .u16 n]] w (DoesP a b p B l (setD d i s v).1 w) := by
  have HPR := Lib.hid h
  have HFIT := Lib.hid hf
  have HIM := Lib.hid hd
  have HBB := Lib.hid hB
  have HNO := Lib.hid hg.no
  have hs := Lib.hid hg.s
  have hvo := Lib.hid hg.v
  have hbl := hg.len
  have hb0 := hg.no w (Frm.refl _ _)
  obtain ⟨A3, c3, rfl, _, _, hn3⟩ := hb0.open_
  have HN3 := Lib.hid hn3
  have HLE : Hid ((bs.map encB).length = bs.length * 1) := by unfold Hid; simp
  have hm1 : 0 + bs.length ≤ maxLen := by unfold maxLen; omega
  have hm2 : (0 + bs.length) * 1 ≤ 140737488355328 := by omega
  have hn0 := hg.n.1
  have hn1 := hg.n.2
  clear h hf hd hB hg hb0 hn3
  unfold ptr
  have HSP := Lib.hid (fun W (hW : DAt W b l) => odSet_any b l i s v W hW (by rw [HIM.out]; exact HFIT.out.ok) hs.out hvo.out)
  have HSD := Lib.hid (fun W (hW : DR W p B d) (hz : B ≤ W.heap.size) => rDSet_any p B d i s v W hW HFIT.out.len hvo.out hz)
  unfold SetP at HSP
  unfold valV ptr at HSP HSD
  rw [HIM.out] at HSP
  generalize setD d i s v = r at *
  obtain ⟨dw, c⟩ := r
  simp only at HSP HSD ⊢
  go_enter Try.func23, Try.ntmps23
  go_upto_region 16 with (at_builtin; refine wpl_app_src rfl el_u8 (.tmp 15) (.tmp 17) rfl (B := w.heap.size + 1) (xs := []) (news := bs.map encB) rfl rfl (row_new (by simp) rfl rfl (by decide) (by simp)) HLE.out (fun h => (HN3.out h).grow (by (repeat' (first | (with_reducible exact Frm.refl _ _) | (with_reducible assumption) | (with_reducible refine Frm.alloc ?_ _) | (with_reducible refine Frm.drew ?_) | (with_reducible refine Frm.drewN ?_ _) | (with_reducible refine Frm.set1 ?_ _) | (with_reducible refine Frm.setCell ?_ ?_ _) | (exact fun h => absurd h (Nat.lt_irrefl _)) | (intro hlt; simp [World.size_alloc, One] at hlt ⊢; omega))))) (oneB _) hm1 hm2 (by simp) ?_; intro A5 c5 w5 hown5 hfr5; have hD5 := does_app hown5 hfr5; have HD5 := Lib.hid hD5; have k0 : w5.cell? ⟨w.heap.size, 0, none⟩ = some (.int .i64 3) := cell_at hD5.2.1; have kl := lt_of_block hD5.2.1; clear hown5 hfr5 hD5)
  clear k0
  have HF5 := Lib.hid HD5.out.1
  have HT5 := Lib.hid HD5.out.2.1
  have HPR5 := Lib.hid (HPR.out.grow HF5.out)
  have HCC := Lib.hid (does_cells HPR5.out HT5.out)
  have HAR := Lib.hid (does_args HPR5.out (fun hk => Pr.lt HPR.out hk) HD5.out.2.2)
  have HAB := Lib.hid (fun Wx (h : Frm (Sx l p) w5 Wx) => HNO.out Wx ((Sx.no HF5.out).trans' h))
  have hal := lt_of_block HPR5.out.hp
  have hBw : B ≤ w5.heap.size := Nat.le_trans HBB.out HF5.out.size
  clear HN3 HLE hm1 hm2 HD5
  refine wp_region_held_drew (S := (fun Wx => Frm (Sx l p) w5 Wx)) (by kernel_rfl) ((Frm.refl _ _).drew) (fun hHeld => ?_)
  refine wpAnyH_take (i := 0) (v := ?_) rfl (by kernel_rfl) (by kernel_rfl) (by kernel_rfl) (fun _ _ _ h => h) (Or.inl ⟨by rfl, ?_⟩) (by assumption) ?_; rotate_left; · (intro wq hSq; have hq := HCC.out wq hSq; go_split_ands; go_simp; (try with_reducible rfl))
  try simp only [Act.put, getElem_toArray, getElem_cons_zero, getElem_cons_succ, setIfInBounds_toArray, set_cons_zero, set_cons_succ]
  refine wpAnyH_take (i := 1) (v := ?_) rfl (by kernel_rfl) (by kernel_rfl) (by kernel_rfl) (fun _ _ _ h => h) (Or.inl ⟨by rfl, ?_⟩) (by assumption) ?_; rotate_left; · (intro wq hSq; have hq := HCC.out wq hSq; go_split_ands; go_simp; (try with_reducible rfl))
  try simp only [Act.put, getElem_toArray, getElem_cons_zero, getElem_cons_succ, setIfInBounds_toArray, set_cons_zero, set_cons_succ]
  refine wpAnyH_take (i := 2) (v := ?_) rfl (by kernel_rfl) (by kernel_rfl) (by kernel_rfl) (fun _ _ _ h => h) (Or.inl ⟨by rfl, ?_⟩) (by assumption) ?_; rotate_left; · (intro wq hSq; have hq := HCC.out wq hSq; go_split_ands; go_simp; (try with_reducible rfl))
  try simp only [Act.put, getElem_toArray, getElem_cons_zero, getElem_cons_succ, setIfInBounds_toArray, set_cons_zero, set_cons_succ]
  refine wpAnyH_take (i := 3) (v := ?_) rfl (by kernel_rfl) (by kernel_rfl) (by kernel_rfl) (fun _ _ _ h => h) (Or.inl ⟨by rfl, ?_⟩) (by assumption) ?_; rotate_left; · (intro wq hSq; have hq := HCC.out wq hSq; go_split_ands; go_simp; (try with_reducible rfl))
  try simp only [Act.put, getElem_toArray, getElem_cons_zero, getElem_cons_succ, setIfInBounds_toArray, set_cons_zero, set_cons_succ]
  refine wpAnyH_take (i := 4) (v := ?_) rfl (by kernel_rfl) (by kernel_rfl) (by kernel_rfl) (fun _ _ _ h => h) (Or.inl ⟨by rfl, ?_⟩) (by assumption) ?_; rotate_left; · (intro wq hSq; have hq := HCC.out wq hSq; go_split_ands; go_simp; (try with_reducible rfl))
  try simp only [Act.put, getElem_toArray, getElem_cons_zero, getElem_cons_succ, setIfInBounds_toArray, set_cons_zero, set_cons_succ]
  refine wpAnyH_take (i := 5) (v := ?_) rfl (by kernel_rfl) (by kernel_rfl) (by kernel_rfl) (fun _ _ _ h => h) (Or.inl ⟨by rfl, ?_⟩) (by assumption) ?_; rotate_left; · (intro wq hSq; have hq := HCC.out wq hSq; go_split_ands; go_simp; (try with_reducible rfl))
  try simp only [Act.put, getElem_toArray, getElem_cons_zero, getElem_cons_succ, setIfInBounds_toArray, set_cons_zero, set_cons_succ]
  refine wpAnyH_take (i := 6) (v := ?_) rfl (by kernel_rfl) (by kernel_rfl) (by kernel_rfl) (fun _ _ _ h => h) (Or.inl ⟨by rfl, ?_⟩) (by assumption) ?_; rotate_left; · (intro wq hSq; have hq := HCC.out wq hSq; go_split_ands; go_simp; (try with_reducible rfl))
  try simp only [Act.put, getElem_toArray, getElem_cons_zero, getElem_cons_succ, setIfInBounds_toArray, set_cons_zero, set_cons_succ]
  refine wpAnyH_take (i := 7) (v := ?_) rfl (by kernel_rfl) (by kernel_rfl) (by kernel_rfl) (fun _ _ _ h => h) (Or.inl ⟨by rfl, ?_⟩) (by assumption) ?_; rotate_left; · (intro wq hSq; have hq := HCC.out wq hSq; go_split_ands; go_simp; (try with_reducible rfl))
  try simp only [Act.put, getElem_toArray, getElem_cons_zero, getElem_cons_succ, setIfInBounds_toArray, set_cons_zero, set_cons_succ]
  refine wpAnyH_take (i := 8) (v := ?_) rfl (by kernel_rfl) (by kernel_rfl) (by kernel_rfl) (fun _ _ _ h => h) (Or.inl ⟨by rfl, ?_⟩) (by assumption) ?_; rotate_left; · (intro wq hSq; have hq := HCC.out wq hSq; go_split_ands; go_simp; (try with_reducible rfl))
  try simp only [Act.put, getElem_toArray, getElem_cons_zero, getElem_cons_succ, setIfInBounds_toArray, set_cons_zero, set_cons_succ]
  refine wpAnyH_take (i := 9) (v := ?_) rfl (by kernel_rfl) (by kernel_rfl) (by kernel_rfl) (fun _ _ _ h => h) (Or.inl ⟨by rfl, ?_⟩) (by assumption) ?_; rotate_left; · (intro wq hSq; have hq := HCC.out wq hSq; go_split_ands; go_simp; (try with_reducible rfl))
  try simp only [Act.put, getElem_toArray, getElem_cons_zero, getElem_cons_succ, setIfInBounds_toArray, set_cons_zero, set_cons_succ]
  refine wpAnyH_take (i := 11) (v := ?_) rfl (by kernel_rfl) (by kernel_rfl) (by kernel_rfl) (fun _ _ _ h => h) (Or.inl ⟨by rfl, ?_⟩) (by assumption) ?_; rotate_left; · (intro wq hSq; have hq := HCC.out wq hSq; go_split_ands; go_simp; (try with_reducible rfl))
  try simp only [Act.put, getElem_toArray, getElem_cons_zero, getElem_cons_succ, setIfInBounds_toArray, set_cons_zero, set_cons_succ]
  refine wpAnyH_take (i := 12) (v := ?_) rfl (by kernel_rfl) (by kernel_rfl) (by kernel_rfl) (fun _ _ _ h => h) (Or.inl ⟨by rfl, ?_⟩) (by assumption) ?_; rotate_left; · (intro wq hSq; have hq := HCC.out wq hSq; go_split_ands; go_simp; (try with_reducible rfl))
  try simp only [Act.put, getElem_toArray, getElem_cons_zero, getElem_cons_succ, setIfInBounds_toArray, set_cons_zero, set_cons_succ]
  refine wpAnyH_take (i := 13) (v := ?_) rfl (by kernel_rfl) (by kernel_rfl) (by kernel_rfl) (fun _ _ _ h => h) (Or.inl ⟨by rfl, ?_⟩) (by assumption) ?_; rotate_left; · (intro wq hSq; have hq := HCC.out wq hSq; go_split_ands; go_simp; (try with_reducible rfl))
  try simp only [Act.put, getElem_toArray, getElem_cons_zero, getElem_cons_succ, setIfInBounds_toArray, set_cons_zero, set_cons_succ]
  refine wpAnyH_take (i := 14) (v := ?_) rfl (by kernel_rfl) (by kernel_rfl) (by kernel_rfl) (fun _ _ _ h => h) (Or.inl ⟨by rfl, ?_⟩) (by assumption) ?_; rotate_left; · (intro wq hSq; have hq := HCC.out wq hSq; go_split_ands; go_simp; (try with_reducible rfl))
  try simp only [Act.put, getElem_toArray, getElem_cons_zero, getElem_cons_succ, setIfInBounds_toArray, set_cons_zero, set_cons_succ]
  refine wpAnyH_take (i := 15) (v := ?_) rfl (by kernel_rfl) (by kernel_rfl) (by kernel_rfl) (fun _ _ _ h => h) (Or.inl ⟨by rfl, ?_⟩) (by assumption) ?_; rotate_left; · (intro wq hSq; have hq := HCC.out wq hSq; go_split_ands; go_simp; (try with_reducible rfl))
  try simp only [Act.put, getElem_toArray, getElem_cons_zero, getElem_cons_succ, setIfInBounds_toArray, set_cons_zero, set_cons_succ]
  refine wpAnyH_take (i := 16) (v := ?_) rfl (by kernel_rfl) (by kernel_rfl) (by kernel_rfl) (fun _ _ _ h => h) (Or.inl ⟨by rfl, ?_⟩) (by assumption) ?_; rotate_left; · (intro wq hSq; have hq := HCC.out wq hSq; go_split_ands; go_simp; (try with_reducible rfl))
  try simp only [Act.put, getElem_toArray, getElem_cons_zero, getElem_cons_succ, setIfInBounds_toArray, set_cons_zero, set_cons_succ]
  refine wpAnyH_take (i := 17) (v := ?_) rfl (by kernel_rfl) (by kernel_rfl) (by kernel_rfl) (fun _ _ _ h => h) (Or.inl ⟨by rfl, ?_⟩) (by assumption) ?_; rotate_left; · (intro wq hSq; have hq := HCC.out wq hSq; go_split_ands; go_simp; (try with_reducible rfl))
  try simp only [Act.put, getElem_toArray, getElem_cons_zero, getElem_cons_succ, setIfInBounds_toArray, set_cons_zero, set_cons_succ]
  refine wpAnyH_take (i := 18) (v := ?_) rfl (by kernel_rfl) (by kernel_rfl) (by kernel_rfl) (fun _ _ _ h => h) (Or.inl ⟨by rfl, ?_⟩) (by assumption) ?_; rotate_left; · (intro wq hSq; have hq := HCC.out wq hSq; go_split_ands; go_simp; (try with_reducible rfl))
  try simp only [Act.put, getElem_toArray, getElem_cons_zero, getElem_cons_succ, setIfInBounds_toArray, set_cons_zero, set_cons_succ]
  refine wpAnyH_take (i := 19) (v := ?_) rfl (by kernel_rfl) (by kernel_rfl) (by kernel_rfl) (fun _ _ _ h => h) (Or.inl ⟨by rfl, ?_⟩) (by assumption) ?_; rotate_left; · (intro wq hSq; have hq := HCC.out wq hSq; go_split_ands; go_simp; (try with_reducible rfl))
  try simp only [Act.put, getElem_toArray, getElem_cons_zero, getElem_cons_succ, setIfInBounds_toArray, set_cons_zero, set_cons_succ]
  refine wpAnyH_take (i := 20) (v := ?_) rfl (by kernel_rfl) (by kernel_rfl) (by kernel_rfl) (fun _ _ _ h => h) (Or.inl ⟨by rfl, ?_⟩) (by assumption) ?_; rotate_left; · (intro wq hSq; have hq := HCC.out wq hSq; go_split_ands; go_simp; (try with_reducible rfl))
  try simp only [Act.put, getElem_toArray, getElem_cons_zero, getElem_cons_succ, setIfInBounds_toArray, set_cons_zero, set_cons_succ]
  refine wpAnyH_ready (rs := [10]) (by kernel_rfl) (by simp) ?_
  refine AllReadyH.cons rfl (fun K hK => ?_) AllReadyH.nil
  try simp only [getElem_toArray, getElem_cons_zero, getElem_cons_succ]
  go_simp
  refine (HSP.out _ (HPR5.out.d1.grow (Frm.refl _ _).drew)).mono ?_
  rintro e w8 ⟨rfl, l8, hd8, hi8, hf8, hF8⟩
  have HP8 := Lib.hid ((HPR5.out.grow (Frm.refl _ _).drew).prog hF8 hd8 hf8)
  have hz8 : B ≤ w8.heap.size := Nat.le_trans hBw (hHeld.trans' (Sx.l (p := p) hF8)).size
  go_wp2_with fail
  refine hK.out _ _ (hHeld.trans' (Sx.l hF8)) (fun hHeld => ?_)
  clear hK K
  try simp only [Act.put, setIfInBounds_toArray, set_cons_zero, set_cons_succ]
  refine wpAnyH_ready (rs := [21]) (by kernel_rfl) (by simp) ?_
  refine AllReadyH.cons rfl (fun K hK => ?_) AllReadyH.nil
  try simp only [getElem_toArray, getElem_cons_zero, getElem_cons_succ]
  go_simp
  refine (HSD.out _ HP8.out.r hz8).mono ?_
  rintro e w9 ⟨rfl, hd9, hF9⟩
  have HP9 := Lib.hid (HP8.out.doc hF9 hd9)
  go_wp2_with fail
  refine hK.out _ _ (hHeld.trans' (Sx.p hF9)) (fun hHeld => ?_)
  clear hK K
  try simp only [Act.put, setIfInBounds_toArray, set_cons_zero, set_cons_succ]
  refine wpAnyH_take (i := 22) (v := ?_) rfl (by kernel_rfl) (by kernel_rfl) (by kernel_rfl) (fun _ _ _ h => h) (Or.inl ⟨by rfl, ?_⟩) (by assumption) ?_; rotate_left; · (intro wq hSq; (try dsimp only at hSq); go_split_ands; go_simp; (try with_reducible rfl))
  try simp only [Act.put, getElem_toArray, getElem_cons_zero, getElem_cons_succ, setIfInBounds_toArray, set_cons_zero, set_cons_succ]
  refine wpAnyH_take (i := 23) (v := ?_) rfl (by kernel_rfl) (by kernel_rfl) (by kernel_rfl) (fun _ _ _ h => h) (Or.inl ⟨by rfl, ?_⟩) (by assumption) ?_; rotate_left; · (intro wq hSq; (try dsimp only at hSq); go_split_ands; go_simp; (try with_reducible rfl))
  try simp only [Act.put, getElem_toArray, getElem_cons_zero, getElem_cons_succ, setIfInBounds_toArray, set_cons_zero, set_cons_succ]
  refine wpAnyH_done (by kernel_rfl) ?_ _
  have HH := Lib.hid hHeld
  have HI8 := Lib.hid hi8
  have HF8 := Lib.hid hf8
  clear hHeld hF8 hF9 hd8 hd9 hi8 hf8
  go_wp2_with fail
  go_ret
  exact ⟨rfl, l8, HP9.out, HI8.out, HF8.out, (Sx.no HF5.out).trans' HH.out⟩

set_option maxRecDepth 100000 in
set_option maxHeartbeats 2000000 in
theorem does4 (a b p B : Nat) (l : List (Nat × Im)) (d : List Im) (i s : Int) (bv : Value) (bs : List UInt8) (v : Va) (n : Int) (w : World) (h : Pr w a b p B l d) (hd : im l = d) (hf : Fit d) (hB : B ≤ w.heap.size) (hg : Arg w l p i s bv bs v n) :
    Calls Try.prog 23 #[ptr a, .agg #[.int .i64 4, .int .u16 i, .int .u8 s, bv, .int .i64 v.ty, .int .u64 v.n, .string (strB2 v.b), .int .u16 n]] w (DoesP a b p B l (resetD d) w) := by
  have HPR := Lib.hid h
  have HFIT := Lib.hid hf
  have HIM := Lib.hid hd
  have HBB := Lib.hid hB
  have HNO := Lib.hid hg.no
  have hs := Lib.hid hg.s
  have hvo := Lib.hid hg.v
  have hbl := hg.len
  have hb0 := hg.no w (Frm.refl _ _)
  obtain ⟨A3, c3, rfl, _, _, hn3⟩ := hb0.open_
  have HN3 := Lib.hid hn3
  have HLE : Hid ((bs.map encB).length = bs.length * 1) := by unfold Hid; simp
  have hm1 : 0 + bs.length ≤ maxLen := by unfold maxLen; omega
  have hm2 : (0 + bs.length) * 1 ≤ 140737488355328 := by omega
  have hn0 := hg.n.1
  have hn1 := hg.n.2
  clear h hf hd hB hg hb0 hn3
  unfold ptr
  have HRP := Lib.hid (fun W (hW : DAt W b l) => odReset_any b l W hW (by have := HFIT.out.len; rw [← HIM.out] at this; simpa using this))
  have HRD := Lib.hid (fun W (hW : DR W p B d) (hz : B ≤ W.heap.size) => by
    obtain ⟨sL, sV, g1, g2, g3⟩ := hW.ex
    have h9 := rDReset_any p B (d.map (·.1)) sL sV W g1 (by rw [List.length_map]; exact g2) (by rw [List.length_map]; exact HFIT.out.len) hz
    rw [show (d.map (·.1)).map (fun x => (x, x.df)) = resetD d by unfold resetD; rw [List.map_map]; rfl] at h9
    exact h9)
  unfold ResetP at HRP
  unfold ptr at HRP HRD
  rw [HIM.out] at HRP
  generalize resetD d = dw at *
  go_enter Try.func23, Try.ntmps23
  go_upto_region 18 with (at_builtin; refine wpl_app_src rfl el_u8 (.tmp 15) (.tmp 17) rfl (B := w.heap.size + 1) (xs := []) (news := bs.map encB) rfl rfl (row_new (by simp) rfl rfl (by decide) (by simp)) HLE.out (fun h => (HN3.out h).grow (by (repeat' (first | (with_reducible exact Frm.refl _ _) | (with_reducible assumption) | (with_reducible refine Frm.alloc ?_ _) | (with_reducible refine Frm.drew ?_) | (with_reducible refine Frm.drewN ?_ _) | (with_reducible refine Frm.set1 ?_ _) | (with_reducible refine Frm.setCell ?_ ?_ _) | (exact fun h => absurd h (Nat.lt_irrefl _)) | (intro hlt; simp [World.size_alloc, One] at hlt ⊢; omega))))) (oneB _) hm1 hm2 (by simp) ?_; intro A5 c5 w5 hown5 hfr5; have hD5 := does_app hown5 hfr5; have HD5 := Lib.hid hD5; have k0 : w5.cell? ⟨w.heap.size, 0, none⟩ = some (.int .i64 4) := cell_at hD5.2.1; have kl := lt_of_block hD5.2.1; clear hown5 hfr5 hD5)
  clear k0
  have HF5 := Lib.hid HD5.out.1
  have HT5 := Lib.hid HD5.out.2.1
  have HPR5 := Lib.hid (HPR.out.grow HF5.out)
  have HCC := Lib.hid (does_cells HPR5.out HT5.out)
  have HAR := Lib.hid (does_args HPR5.out (fun hk => Pr.lt HPR.out hk) HD5.out.2.2)
  have HAB := Lib.hid (fun Wx (h : Frm (Sx l p) w5 Wx) => HNO.out Wx ((Sx.no HF5.out).trans' h))
  have hal := lt_of_block HPR5.out.hp
  have hBw : B ≤ w5.heap.size := Nat.le_trans HBB.out HF5.out.size
  clear HN3 HLE hm1 hm2 HD5
  obtain ⟨q0, q1, -⟩ := HCC.out w5 (Frm.refl _ _)
  go_upto_region 19 with (go_at_call 59; refine (HRP.out _ HPR5.out.d1).mono ?_; rintro e w8 ⟨rfl, l8, hd8, hi8, hf8, hF8⟩; clear q0 q1; have HP8 := Lib.hid (HPR5.out.prog hF8 hd8 hf8); have hz8 : B ≤ w8.heap.size := Nat.le_trans hBw hF8.size; have HF58 := Lib.hid (Sx.l (p := p) hF8); obtain ⟨q0, q1, -⟩ := HCC.out w8 HF58.out; have HI8 := Lib.hid hi8; have HF8 := Lib.hid hf8; have ha8 := lt_of_block HP8.out.hp; clear hF8 hd8 hi8 hf8)
  go_wp2_with (go_at_call 60; refine (HRD.out _ HP8.out.r hz8).mono ?_; rintro e w9 ⟨rfl, hd9, hF9⟩; clear q0 q1; have HP9 := Lib.hid (HP8.out.doc hF9 hd9); have HF9 := Lib.hid (HF58.out.trans' (Sx.p hF9)); clear hd9 hF9)
  go_ret
  exact ⟨rfl, l8, HP9.out, HI8.out, HF8.out, (Sx.no HF5.out).trans' HF9.out⟩
end Go.Proofs.Ytemjdmgfilbfaaa
namespace Go.Proofs.Ytemjdmgfilbfaaa
open Go.RowKit
set_option linter.unusedVariables false
set_option linter.unusedSimpArgs false

theorem wrap_id (z : Int) (h0 : 0 ≤ z) (h1 : z ≤ 9223372036854775807) : IntKind.i64.wrap z = z := by
  simp only [IntKind.wrap, IntKind.bits, IntKind.signed]
  simp
  omega
theorem wrap_id16 (z : Int) (h0 : 0 ≤ z) (h1 : z ≤ 65535) : IntKind.u16.wrap z = z := by
  rw [IntKind.wrap_u16]
  omega
/-- The numbers ahead of a saved value. -/
structure Head (b : List UInt8) (x0 x1 x2 x3 x4 x5 x6 n : Nat) : Prop where
  l0 : x0 < 256
  l1 : x1 < 256
  l2 : x2 < 256
  l3 : x3 < 256
  l4 : x4 < 256
  l5 : x5 < 256
  l6 : x6 < 256
  i' : (headP b).1 = (x0 : Int) + 256 * (x1 : Int)
  s' : (headP b).2.1 = (x2 : Int)
  bb : (headP b).2.2 = (b.drop 7).take n
  n' : numOf ((b.drop 3).take 4) = (n : Int)
  sum : (n : Int) = (x3 : Int) + 256 * (x4 : Int) + 65536 * (x5 : Int) + 16777216 * (x6 : Int)
theorem Head.pl {b : List UInt8} {x0 x1 x2 x3 x4 x5 x6 n : Nat} (h : Head b x0 x1 x2 x3 x4 x5 x6 n) : plP (headP b) = ((x0 : Int) + 256 * (x1 : Int)) * 256 + (x2 : Int) := by
  unfold plP
  rw [h.i', h.s']
theorem read7 {W : World} {g off at' : Nat} {bs : List UInt8} (hc : ∀ (i : Nat) (hi : i < bs.length), W.cell? ⟨g, off + i, none⟩ = some (.int .u8 (bs[i].toNat : Int))) (h7 : at' + 7 ≤ bs.length) :
    ∃ x0 x1 x2 x3 x4 x5 x6 n : Nat, Head (bs.drop at') x0 x1 x2 x3 x4 x5 x6 n ∧ ∀ Wx, Frm (fun _ => False) W Wx → Wx.cell? ⟨g, off + at', none⟩ = some (.int .u8 (x0 : Int)) ∧ Wx.cell? ⟨g, off + (at' + 1), none⟩ = some (.int .u8 (x1 : Int)) ∧ Wx.cell? ⟨g, off + (at' + 2), none⟩ = some (.int .u8 (x2 : Int)) ∧ Wx.cell? ⟨g, off + (at' + 3), none⟩ = some (.int .u8 (x3 : Int)) ∧ Wx.cell? ⟨g, off + (at' + 4), none⟩ = some (.int .u8 (x4 : Int)) ∧ Wx.cell? ⟨g, off + (at' + 5), none⟩ = some (.int .u8 (x5 : Int)) ∧ Wx.cell? ⟨g, off + (at' + 6), none⟩ = some (.int .u8 (x6 : Int)) := by
  have hl7 : 7 ≤ (bs.drop at').length := by rw [List.length_drop]; omega
  obtain ⟨a0, a1, a2, a3, a4, a5, a6, r, hrs⟩ : ∃ a0 a1 a2 a3 a4 a5 a6 r, bs.drop at' = a0 :: a1 :: a2 :: a3 :: a4 :: a5 :: a6 :: r := by
    match bs.drop at', hl7 with
    | a0 :: a1 :: a2 :: a3 :: a4 :: a5 :: a6 :: r, _ => exact ⟨_, _, _, _, _, _, _, _, rfl⟩
  have hcl : ∀ (i : Nat) (hi : i < 7) (a : UInt8), (bs.drop at')[i]? = some a → ∀ Wx, Frm (fun _ => False) W Wx → Wx.cell? ⟨g, off + (at' + i), none⟩ = some (.int .u8 (a.toNat : Int)) := fun i hi a ha Wx hF => by
    rw [List.getElem?_drop] at ha
    have hl9 : at' + i < bs.length := by omega
    rw [List.getElem?_eq_getElem hl9] at ha
    have := hF.cell (hc (at' + i) hl9) (fun h => h)
    rw [Option.some.inj ha] at this
    exact this
  have e : numOf (((bs.drop at').drop 3).take 4) = ((a3.toNat + 256 * a4.toNat + 65536 * a5.toNat + 16777216 * a6.toNat : Nat) : Int) := by
    rw [hrs]
    simp [numOf]
    omega
  refine ⟨a0.toNat, a1.toNat, a2.toNat, a3.toNat, a4.toNat, a5.toNat, a6.toNat, a3.toNat + 256 * a4.toNat + 65536 * a5.toNat + 16777216 * a6.toNat, ⟨a0.toNat_lt, a1.toNat_lt, a2.toNat_lt, a3.toNat_lt, a4.toNat_lt, a5.toNat_lt, a6.toNat_lt, ?_, ?_, ?_, e, by omega⟩, fun Wx hF => ⟨?_, ?_, ?_, ?_, ?_, ?_, ?_⟩⟩
  · rw [hrs]; simp [headP, numOf]
  · rw [hrs]; simp [headP]
  · have h1 : (headP (bs.drop at')).2.2 = ((bs.drop at').drop 7).take (numOf (((bs.drop at').drop 3).take 4)).toNat := rfl
    rw [h1, e, Int.toNat_natCast]
  · exact hcl 0 (by omega) a0 (by rw [hrs]; rfl) Wx hF
  · exact hcl 1 (by omega) a1 (by rw [hrs]; rfl) Wx hF
  · exact hcl 2 (by omega) a2 (by rw [hrs]; rfl) Wx hF
  · exact hcl 3 (by omega) a3 (by rw [hrs]; rfl) Wx hF
  · exact hcl 4 (by omega) a4 (by rw [hrs]; rfl) Wx hF
  · exact hcl 5 (by omega) a5 (by rw [hrs]; rfl) Wx hF
  · exact hcl 6 (by omega) a6 (by rw [hrs]; rfl) Wx hF
/-- Bytes that are saved values begin with one. -/
theorem prt_inv {last : Int} {b : List UInt8} {l : List It} (h : prtF b.length last b = some l) (h0 : 0 < b.length) {n : Nat} (hn : numOf ((b.drop 3).take 4) = (n : Int)) :
    7 ≤ b.length ∧ n ≤ b.length - 7 ∧ ∃ l', l = headP b :: l' ∧ prtF ((b.drop 7).drop n).length (plP (headP b)) ((b.drop 7).drop n) = some l' := by
  by_cases h7 : b.length < 7
  · rw [prt_bad h0 (.inl h7)] at h; cases h
  · by_cases hb : ((b.length - 7 : Nat) : Int) < numOf ((b.drop 3).take 4) ∨ plP (headP b) ≤ last
    · rw [prt_bad h0 (.inr ⟨by omega, hb⟩)] at h; cases h
    · have h1 : n ≤ b.length - 7 := by rw [hn] at hb; omega
      rw [prt_next (by omega) hn h1 (by omega)] at h
      obtain ⟨l', e1, e2⟩ := Option.map_eq_some_iff.1 h
      exact ⟨by omega, h1, l', e2.symm, e1⟩
theorem prt_inv7 {last : Int} {b : List UInt8} {l : List It} (h : prtF b.length last b = some l) (h0 : 0 < b.length) : 7 ≤ b.length := by
  by_cases h7 : b.length < 7
  · rw [prt_bad h0 (.inl h7)] at h; cases h
  · omega
theorem got_bad {d : List Im} {pre r : List It} {x : It} {c : Int} (h0 : (gotD d pre).1 = 0) (hx : ∀ r, (gotD d (x :: r)).1 = c) : (gotD d (pre ++ x :: r)).1 = c := by
  rw [gotD_join, if_neg (by simp [h0])]
  exact hx _
theorem got_good {d : List Im} {pre : List It} {x : It} {p : Nat × Va} (h0 : (gotD d pre).1 = 0) (hx : ∀ r, gotD d (x :: r) = ((gotD d r).1, p :: (gotD d r).2)) : gotD d (pre ++ [x]) = (0, (gotD d pre).2 ++ [p]) := by
  rw [gotD_join, if_neg (by simp [h0]), hx]
  simp [gotD]
theorem putAll_snd {d : List Im} {ps : List (Nat × Va)} {k : Nat} (hk : k < d.length) (v : Va) : (putAll d (ps ++ [(k, v)])).map (·.2) = ((putAll d ps).map (·.2)).set k v := by
  have e : putAll d (ps ++ [(k, v)]) = putD (putAll d ps) (k, v) := by simp [putAll]
  have hk' : k < (putAll d ps).length := by rw [putAll_len]; exact hk
  rw [e]
  unfold putD
  simp only [List.getElem?_eq_getElem hk']
  rw [List.map_set]
/-- Bytes out of the middle of a slice. -/
theorem bytes_mid {W0 : World} {A : Option Addr} {bs : List UInt8} {cap : Nat} (h : BytesAt W0 (.slice A bs.length cap) bs) (i n : Nat) (hn : i + n ≤ bs.length) :
    ∃ A1 c1, (∀ W (x y : Int), x = i → y = (i : Int) + n → (Instr.slice 33 (.slice A bs.length cap) (some (.int .i64 x)) (some (.int .i64 y)) none).run Try.prog W = .ok (.slice A1 n c1) W) ∧ BytesAt W0 (.slice A1 n c1) ((bs.drop i).take n) := by
  have ht : Try.prog.underlying 33 = some (.slice (Try.prog.elem 33)) := by kernel_rfl
  have he : Try.prog.elem 33 = 5 := by kernel_rfl
  obtain ⟨A', cap', e, h1, h2, h3⟩ := h
  simp only [Value.slice.injEq] at e
  obtain ⟨rfl, -, rfl⟩ := e
  have hl : ((bs.drop i).take n).length = n := by simp; omega
  refine ⟨if cap = i then A else A.map (·.add (i * 1)), cap - i, fun W x y hx hy => ?_, ⟨_, cap - i, by rw [hl], by rw [hl]; omega, by omega, fun h0 => ?_⟩⟩
  · subst hx hy
    rw [run_slice_lh W 33 _ _ _ ht .i64 .i64 _ _ (by omega) (by omega) (by omega), he, size_u8]
    have e1 : ((i : Int) + n).toNat = i + n := by omega
    simp [Result.andThen, sliced, e1]
  · rw [hl] at h0
    obtain ⟨g, off, rfl, hc⟩ := h3 (by omega)
    rw [if_neg (by omega)]
    refine ⟨g, off + i, ?_, fun j hj => ?_⟩
    · simp only [Option.map_some, Addr.add]
      by_cases h1 : i = 0
      · simp [h1]
      · simp [h1]
    · rw [hl] at hj
      have := hc (i + j) (by omega)
      rw [Nat.add_assoc, this]
      simp [List.getD_eq_getElem?_getD, hj]
theorem row_news {w : World} {B e size n c : Nat} {A : Option Addr} {xs : List Value} (h : w.ownsRow B e size (.slice A n c) n xs) : 0 < n → NewsOf w A xs := by
  intro h0
  have hlen := h.1
  obtain ⟨A', c', e, _, _, q3⟩ := row_open h
  simp only [Value.slice.injEq] at e
  obtain ⟨rfl, -, rfl⟩ := e
  obtain ⟨g, rfl, _, _, _, hcc⟩ := q3 h0
  refine ⟨g, 0, rfl, fun j u hj => ?_⟩
  have hlt := (List.getElem?_eq_some_iff.1 hj).1
  rw [Nat.zero_add, hcc j (by omega)]
  exact hj
end Go.Proofs.Ytemjdmgfilbfaaa
