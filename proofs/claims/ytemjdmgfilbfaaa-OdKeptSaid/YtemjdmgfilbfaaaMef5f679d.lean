/-
  The document's Load.
-/
import Derived.Test.YtemjdmgfilbfaaaMade23130
import Derived.Test.YtemjdmgfilbfaaaM92b9d176
set_option linter.unusedVariables false
set_option linter.unusedSimpArgs false
namespace Go.Proofs.Ytemjdmgfilbfaaa
open Go.RowKit
open List (getElem_toArray getElem_cons_zero getElem_cons_succ setIfInBounds_toArray set_cons_zero set_cons_succ)
set_option linter.unusedVariables false
set_option linter.unusedSimpArgs false

set_option maxRecDepth 100000 in
set_option maxHeartbeats 4000000 in
theorem rDLoad_any (p B : Nat) (d : List Im) (v : Value) (bs : List UInt8) (w : World) (h : DR w p B d) (hl : d.length ≤ 1024) (hok : ∀ x ∈ d, x.1.ok) (hv : BytesAt w v bs) (hb : bs.length ≤ 140737488351232) (hB : B ≤ w.heap.size) :
    Calls Try.prog 61 #[ptr p, v] w fun e w' => e = .returned (.int .i64 (loadD d bs).2) ∧ DR w' p B (loadD d bs).1 ∧ Frm (One p) w w' := by
  have HD := Lib.hid h
  have HBS := Lib.hid hv
  have HBL := Lib.hid hb
  have HBB := Lib.hid hB
  obtain ⟨A, cap, rfl, hn1, hn2, hcell⟩ := bytes_cell hv
  have hm : bs.length ≤ 9223372036854775807 := Nat.le_trans hn1 hn2
  have HCE := Lib.hid hcell
  have hb' : bs.length ≤ 140737488351232 := hb
  generalize hrr : loadD d bs = rr at *
  have HRR := Lib.hid hrr
  clear h hv hb hn1 hn2 hcell hrr hB
  unfold ptr
  go_enter Try.func61, Try.ntmps61
  go_wp2_with fail
  go_loopw [5, 6] (fun i lv wr => ∃ (at' : Nat) (pre : List It), at' ≤ bs.length ∧ i = .int .i64 at' ∧ lv = .int .i64 (lastP pre) ∧ -1 ≤ lastP pre ∧ lastP pre ≤ 16777215 ∧ partsD bs = (prtF (bs.drop at').length (lastP pre) (bs.drop at')).map (pre ++ ·) ∧ Frm (fun _ => False) w wr) (fun i _ _ => bs.length - (intOf i).toNat)
  case atStart => exact ⟨0, [], Nat.zero_le _, rfl, rfl, by simp [lastP], by simp [lastP], by simp [partsD, lastP], Frm.refl _ _⟩
  case round =>
    obtain ⟨at', pre, hat, rfl, rfl, hp1, hp2, hP, hF⟩ := hrel
    have HP := Lib.hid hP
    have HF := Lib.hid hF
    clear hP
    by_cases hlt : at' < bs.length
    · have hdl : (bs.drop at').length = bs.length - at' := List.length_drop
      have HDL := Lib.hid hdl
      clear hdl
      by_cases h7 : bs.length - at' < 7
      · have HN : Hid (partsD bs = none) := by unfold Hid; rw [HP.out, prt_bad (by rw [HDL.out]; omega) (.inl (by rw [HDL.out]; omega))]; rfl
        have HE : Hid (rr = (d, 8)) := by unfold Hid; rw [← HRR.out]; unfold loadD; rw [HN.out]
        have h7' : (bs.length : Int) - (at' : Int) < 7 := by omega
        go_wp2_with fail
        go_ret
        rw [HE.out]
        exact ⟨rfl, HD.out.grow HF.out, HF.out.mono (fun _ _ h => h.elim)⟩
      · have h7' : at' + 7 ≤ bs.length := by omega
        obtain ⟨g, off, rfl, hc2⟩ := HCE.out (by omega)
        obtain ⟨x0, x1, x2, x3, x4, x5, x6, n, hH, hcc⟩ := read7 hc2 h7'
        have HHD := Lib.hid hH
        obtain ⟨hb0, hb1, hb2, hb3, hb4, hb5, hb6, -, -, -, -, hsum⟩ := hH
        have HSUM := Lib.hid hsum
        have HPL := Lib.hid HHD.out.pl
        have hgl := Nat.lt_of_lt_of_le (World.block_lt_of_cell? w _ (hc2 0 (by omega))) hF.size
        have HCC := Lib.hid hcc
        have hnb : n < 4294967296 := by omega
        have hpp0 : 0 ≤ plP (headP (bs.drop at')) := by rw [HPL.out]; omega
        have hpp1 : plP (headP (bs.drop at')) ≤ 16777215 := by rw [HPL.out]; omega
        have HNX := Lib.hid (fun (h1 : n ≤ (bs.drop at').length - 7) (h2 : lastP pre < plP (headP (bs.drop at'))) => prt_next (by rw [HDL.out]; omega) HHD.out.n' h1 h2)
        have HBD := Lib.hid (fun (h : ((bs.drop at').length - 7 : Nat) < (n : Int) ∨ plP (headP (bs.drop at')) ≤ lastP pre) => prt_bad (last := lastP pre) (b := bs.drop at') (by rw [HDL.out]; omega) (.inr ⟨by rw [HDL.out]; omega, by rw [HHD.out.n']; exact h⟩))
        generalize hpp : plP (headP (bs.drop at')) = pp at *
        have HPE := Lib.hid hpp
        generalize hla : lastP pre = la at *
        have HLA := Lib.hid hla
        clear hc2 hcc hsum hF hpp hla
        have hw1 : IntKind.i64.wrap ((at' : Int) + 1) = (at' : Int) + 1 := wrap_id _ (by omega) (by omega)
        have ht1 : ((at' : Int) + 1).toNat = at' + 1 := by omega
        have hz1 : (0 : Int) ≤ (at' : Int) + 1 := by omega
        have hy1 : (at' : Int) + 1 < (bs.length : Int) := by omega
        have hw2 : IntKind.i64.wrap ((at' : Int) + 2) = (at' : Int) + 2 := wrap_id _ (by omega) (by omega)
        have ht2 : ((at' : Int) + 2).toNat = at' + 2 := by omega
        have hz2 : (0 : Int) ≤ (at' : Int) + 2 := by omega
        have hy2 : (at' : Int) + 2 < (bs.length : Int) := by omega
        have hw3 : IntKind.i64.wrap ((at' : Int) + 3) = (at' : Int) + 3 := wrap_id _ (by omega) (by omega)
        have ht3 : ((at' : Int) + 3).toNat = at' + 3 := by omega
        have hz3 : (0 : Int) ≤ (at' : Int) + 3 := by omega
        have hy3 : (at' : Int) + 3 < (bs.length : Int) := by omega
        have hw4 : IntKind.i64.wrap ((at' : Int) + 4) = (at' : Int) + 4 := wrap_id _ (by omega) (by omega)
        have ht4 : ((at' : Int) + 4).toNat = at' + 4 := by omega
        have hz4 : (0 : Int) ≤ (at' : Int) + 4 := by omega
        have hy4 : (at' : Int) + 4 < (bs.length : Int) := by omega
        have hw5 : IntKind.i64.wrap ((at' : Int) + 5) = (at' : Int) + 5 := wrap_id _ (by omega) (by omega)
        have ht5 : ((at' : Int) + 5).toNat = at' + 5 := by omega
        have hz5 : (0 : Int) ≤ (at' : Int) + 5 := by omega
        have hy5 : (at' : Int) + 5 < (bs.length : Int) := by omega
        have hw6 : IntKind.i64.wrap ((at' : Int) + 6) = (at' : Int) + 6 := wrap_id _ (by omega) (by omega)
        have ht6 : ((at' : Int) + 6).toNat = at' + 6 := by omega
        have hz6 : (0 : Int) ≤ (at' : Int) + 6 := by omega
        have hy6 : (at' : Int) + 6 < (bs.length : Int) := by omega
        have hx0 := wrap_id (x0 : Int) (by omega) (by omega)
        have hx1 := wrap_id (x1 : Int) (by omega) (by omega)
        have hx2 := wrap_id (x2 : Int) (by omega) (by omega)
        have hx3 := wrap_id (x3 : Int) (by omega) (by omega)
        have hx4 := wrap_id (x4 : Int) (by omega) (by omega)
        have hx5 := wrap_id (x5 : Int) (by omega) (by omega)
        have hx6 := wrap_id (x6 : Int) (by omega) (by omega)
        go_upto_region 5 with fail
        go_cut [7] (fun pv wx => pv = .int .i64 pp ∧ Frm (fun _ => False) wr wx)
        case first =>
          as_aux_lemma =>
          obtain ⟨wq, hwq⟩ : ∃ wq : World, wq = wr := ⟨_, rfl⟩
          subst hwq
          have HCR := Lib.hid (fun W (h : Frm (fun _ => False) wq W) => HCC.out W (HF.out.trans' h))
          refine wp_region_held_drew (S := fun W => Frm (fun _ => False) wq W) (by kernel_rfl) ((Frm.refl _ _).drew) (fun hHeld => ?_)
          refine wpAnyH_take (i := 0) (v := ?_) rfl (by kernel_rfl) (by kernel_rfl) (by kernel_rfl) (fun _ _ _ h => h) (Or.inl ⟨by rfl, ?_⟩) (by assumption) ?_; rotate_left; · (intro wq hSq; have hq := HCR.out wq hSq; go_split_ands; go_simp; (try with_reducible rfl))
          try simp only [Act.put, getElem_toArray, getElem_cons_zero, getElem_cons_succ, setIfInBounds_toArray, set_cons_zero, set_cons_succ]
          refine wpAnyH_take (i := 1) (v := ?_) rfl (by kernel_rfl) (by kernel_rfl) (by kernel_rfl) (fun _ _ _ h => h) (Or.inl ⟨by rfl, ?_⟩) (by assumption) ?_; rotate_left; · (intro wq hSq; have hq := HCR.out wq hSq; go_split_ands; go_simp; (try with_reducible rfl))
          try simp only [Act.put, getElem_toArray, getElem_cons_zero, getElem_cons_succ, setIfInBounds_toArray, set_cons_zero, set_cons_succ]
          refine wpAnyH_take (i := 2) (v := ?_) rfl (by kernel_rfl) (by kernel_rfl) (by kernel_rfl) (fun _ _ _ h => h) (Or.inl ⟨by rfl, ?_⟩) (by assumption) ?_; rotate_left; · (intro wq hSq; have hq := HCR.out wq hSq; go_split_ands; go_simp; (try with_reducible rfl))
          try simp only [Act.put, getElem_toArray, getElem_cons_zero, getElem_cons_succ, setIfInBounds_toArray, set_cons_zero, set_cons_succ]
          refine wpAnyH_take (i := 3) (v := ?_) rfl (by kernel_rfl) (by kernel_rfl) (by kernel_rfl) (fun _ _ _ h => h) (Or.inl ⟨by rfl, ?_⟩) (by assumption) ?_; rotate_left; · (intro wq hSq; have hq := HCR.out wq hSq; go_split_ands; go_simp; (try with_reducible rfl))
          try simp only [Act.put, getElem_toArray, getElem_cons_zero, getElem_cons_succ, setIfInBounds_toArray, set_cons_zero, set_cons_succ]
          refine wpAnyH_take (i := 4) (v := ?_) rfl (by kernel_rfl) (by kernel_rfl) (by kernel_rfl) (fun _ _ _ h => h) (Or.inl ⟨by rfl, ?_⟩) (by assumption) ?_; rotate_left; · (intro wq hSq; have hq := HCR.out wq hSq; go_split_ands; go_simp; (try with_reducible rfl))
          try simp only [Act.put, getElem_toArray, getElem_cons_zero, getElem_cons_succ, setIfInBounds_toArray, set_cons_zero, set_cons_succ]
          refine wpAnyH_take (i := 5) (v := ?_) rfl (by kernel_rfl) (by kernel_rfl) (by kernel_rfl) (fun _ _ _ h => h) (Or.inl ⟨by rfl, ?_⟩) (by assumption) ?_; rotate_left; · (intro wq hSq; have hq := HCR.out wq hSq; go_split_ands; go_simp; (try with_reducible rfl))
          try simp only [Act.put, getElem_toArray, getElem_cons_zero, getElem_cons_succ, setIfInBounds_toArray, set_cons_zero, set_cons_succ]
          refine wpAnyH_take (i := 6) (v := ?_) rfl (by kernel_rfl) (by kernel_rfl) (by kernel_rfl) (fun _ _ _ h => h) (Or.inl ⟨by rfl, ?_⟩) (by assumption) ?_; rotate_left; · (intro wq hSq; have hq := HCR.out wq hSq; go_split_ands; go_simp; (try with_reducible rfl))
          try simp only [Act.put, getElem_toArray, getElem_cons_zero, getElem_cons_succ, setIfInBounds_toArray, set_cons_zero, set_cons_succ]
          refine wpAnyH_take (i := 7) (v := ?_) rfl (by kernel_rfl) (by kernel_rfl) (by kernel_rfl) (fun _ _ _ h => h) (Or.inl ⟨by rfl, ?_⟩) (by assumption) ?_; rotate_left; · (intro wq hSq; have hq := HCR.out wq hSq; go_split_ands; go_simp; (try with_reducible rfl))
          try simp only [Act.put, getElem_toArray, getElem_cons_zero, getElem_cons_succ, setIfInBounds_toArray, set_cons_zero, set_cons_succ]
          refine wpAnyH_take (i := 8) (v := ?_) rfl (by kernel_rfl) (by kernel_rfl) (by kernel_rfl) (fun _ _ _ h => h) (Or.inl ⟨by rfl, ?_⟩) (by assumption) ?_; rotate_left; · (intro wq hSq; have hq := HCR.out wq hSq; go_split_ands; go_simp; (try with_reducible rfl))
          try simp only [Act.put, getElem_toArray, getElem_cons_zero, getElem_cons_succ, setIfInBounds_toArray, set_cons_zero, set_cons_succ]
          refine wpAnyH_take (i := 9) (v := ?_) rfl (by kernel_rfl) (by kernel_rfl) (by kernel_rfl) (fun _ _ _ h => h) (Or.inl ⟨by rfl, ?_⟩) (by assumption) ?_; rotate_left; · (intro wq hSq; have hq := HCR.out wq hSq; go_split_ands; go_simp; (try with_reducible rfl))
          try simp only [Act.put, getElem_toArray, getElem_cons_zero, getElem_cons_succ, setIfInBounds_toArray, set_cons_zero, set_cons_succ]
          refine wpAnyH_take (i := 10) (v := ?_) rfl (by kernel_rfl) (by kernel_rfl) (by kernel_rfl) (fun _ _ _ h => h) (Or.inl ⟨by rfl, ?_⟩) (by assumption) ?_; rotate_left; · (intro wq hSq; have hq := HCR.out wq hSq; go_split_ands; go_simp; (try with_reducible rfl))
          try simp only [Act.put, getElem_toArray, getElem_cons_zero, getElem_cons_succ, setIfInBounds_toArray, set_cons_zero, set_cons_succ]
          refine wpAnyH_take (i := 11) (v := ?_) rfl (by kernel_rfl) (by kernel_rfl) (by kernel_rfl) (fun _ _ _ h => h) (Or.inl ⟨by rfl, ?_⟩) (by assumption) ?_; rotate_left; · (intro wq hSq; have hq := HCR.out wq hSq; go_split_ands; go_simp; (try with_reducible rfl))
          try simp only [Act.put, getElem_toArray, getElem_cons_zero, getElem_cons_succ, setIfInBounds_toArray, set_cons_zero, set_cons_succ]
          refine wpAnyH_take (i := 12) (v := ?_) rfl (by kernel_rfl) (by kernel_rfl) (by kernel_rfl) (fun _ _ _ h => h) (Or.inl ⟨by rfl, ?_⟩) (by assumption) ?_; rotate_left; · (intro wq hSq; have hq := HCR.out wq hSq; go_split_ands; go_simp; (try with_reducible rfl))
          try simp only [Act.put, getElem_toArray, getElem_cons_zero, getElem_cons_succ, setIfInBounds_toArray, set_cons_zero, set_cons_succ]
          refine wpAnyH_take (i := 13) (v := ?_) rfl (by kernel_rfl) (by kernel_rfl) (by kernel_rfl) (fun _ _ _ h => h) (Or.inl ⟨by rfl, ?_⟩) (by assumption) ?_; rotate_left; · (intro wq hSq; have hq := HCR.out wq hSq; go_split_ands; go_simp; (try with_reducible rfl))
          try simp only [Act.put, getElem_toArray, getElem_cons_zero, getElem_cons_succ, setIfInBounds_toArray, set_cons_zero, set_cons_succ]
          refine wpAnyH_take (i := 14) (v := ?_) rfl (by kernel_rfl) (by kernel_rfl) (by kernel_rfl) (fun _ _ _ h => h) (Or.inl ⟨by rfl, ?_⟩) (by assumption) ?_; rotate_left; · (intro wq hSq; have hq := HCR.out wq hSq; go_split_ands; go_simp; (try with_reducible rfl))
          try simp only [Act.put, getElem_toArray, getElem_cons_zero, getElem_cons_succ, setIfInBounds_toArray, set_cons_zero, set_cons_succ]
          refine wpAnyH_take (i := 15) (v := ?_) rfl (by kernel_rfl) (by kernel_rfl) (by kernel_rfl) (fun _ _ _ h => h) (Or.inl ⟨by rfl, ?_⟩) (by assumption) ?_; rotate_left; · (intro wq hSq; have hq := HCR.out wq hSq; go_split_ands; go_simp; (try with_reducible rfl))
          try simp only [Act.put, getElem_toArray, getElem_cons_zero, getElem_cons_succ, setIfInBounds_toArray, set_cons_zero, set_cons_succ]
          refine wpAnyH_take (i := 16) (v := ?_) rfl (by kernel_rfl) (by kernel_rfl) (by kernel_rfl) (fun _ _ _ h => h) (Or.inl ⟨by rfl, ?_⟩) (by assumption) ?_; rotate_left; · (intro wq hSq; have hq := HCR.out wq hSq; go_split_ands; go_simp; (try with_reducible rfl))
          try simp only [Act.put, getElem_toArray, getElem_cons_zero, getElem_cons_succ, setIfInBounds_toArray, set_cons_zero, set_cons_succ]
          refine wpAnyH_take (i := 17) (v := ?_) rfl (by kernel_rfl) (by kernel_rfl) (by kernel_rfl) (fun _ _ _ h => h) (Or.inl ⟨by rfl, ?_⟩) (by assumption) ?_; rotate_left; · (intro wq hSq; have hq := HCR.out wq hSq; go_split_ands; go_simp; (try with_reducible rfl))
          try simp only [Act.put, getElem_toArray, getElem_cons_zero, getElem_cons_succ, setIfInBounds_toArray, set_cons_zero, set_cons_succ]
          refine wpAnyH_take (i := 18) (v := ?_) rfl (by kernel_rfl) (by kernel_rfl) (by kernel_rfl) (fun _ _ _ h => h) (Or.inl ⟨by rfl, ?_⟩) (by assumption) ?_; rotate_left; · (intro wq hSq; have hq := HCR.out wq hSq; go_split_ands; go_simp; (try with_reducible rfl))
          try simp only [Act.put, getElem_toArray, getElem_cons_zero, getElem_cons_succ, setIfInBounds_toArray, set_cons_zero, set_cons_succ]
          refine wpAnyH_take (i := 19) (v := ?_) rfl (by kernel_rfl) (by kernel_rfl) (by kernel_rfl) (fun _ _ _ h => h) (Or.inl ⟨by rfl, ?_⟩) (by assumption) ?_; rotate_left; · (intro wq hSq; have hq := HCR.out wq hSq; go_split_ands; go_simp; (try with_reducible rfl))
          try simp only [Act.put, getElem_toArray, getElem_cons_zero, getElem_cons_succ, setIfInBounds_toArray, set_cons_zero, set_cons_succ]
          refine wpAnyH_take (i := 20) (v := ?_) rfl (by kernel_rfl) (by kernel_rfl) (by kernel_rfl) (fun _ _ _ h => h) (Or.inl ⟨by rfl, ?_⟩) (by assumption) ?_; rotate_left; · (intro wq hSq; have hq := HCR.out wq hSq; go_split_ands; go_simp; (try with_reducible rfl))
          try simp only [Act.put, getElem_toArray, getElem_cons_zero, getElem_cons_succ, setIfInBounds_toArray, set_cons_zero, set_cons_succ]
          refine wpAnyH_take (i := 21) (v := ?_) rfl (by kernel_rfl) (by kernel_rfl) (by kernel_rfl) (fun _ _ _ h => h) (Or.inl ⟨by rfl, ?_⟩) (by assumption) ?_; rotate_left; · (intro wq hSq; have hq := HCR.out wq hSq; go_split_ands; go_simp; (try with_reducible rfl))
          try simp only [Act.put, getElem_toArray, getElem_cons_zero, getElem_cons_succ, setIfInBounds_toArray, set_cons_zero, set_cons_succ]
          refine wpAnyH_done (by kernel_rfl) ?_ _
          have HH := Lib.hid hHeld
          clear hHeld
          go_wp2_with fail
          go_meet
          refine ⟨?_, HH.out⟩
          have hs := HPL.out
          rw [wrap_id (256 * (x1 : Int)) (by omega) (by omega), wrap_id ((x0 : Int) + 256 * (x1 : Int)) (by omega) (by omega), wrap_id (((x0 : Int) + 256 * (x1 : Int)) * 256) (by omega) (by omega), wrap_id (((x0 : Int) + 256 * (x1 : Int)) * 256 + (x2 : Int)) (by omega) (by omega), ← hs]
        case rest =>
          obtain ⟨rfl, hF5⟩ := hcut
          have HF5 := Lib.hid (HF.out.trans' hF5)
          clear hF5
          obtain ⟨wq, hwq⟩ : ∃ wq : World, wq = wc := ⟨_, rfl⟩
          subst hwq
          go_upto_region 6 with fail
          go_cut [8] (fun nv wx => nv = .int .i64 (n : Int) ∧ Frm (fun _ => False) wq wx)
          case first =>
            as_aux_lemma =>
            have HCR := Lib.hid (fun W (h : Frm (fun _ => False) wq W) => HCC.out W (HF5.out.trans' h))
            · skip
              refine wp_region_held_drew (S := fun W => Frm (fun _ => False) wq W) (by kernel_rfl) ((Frm.refl _ _).drew) (fun hHeld => ?_)
              refine wpAnyH_take (i := 0) (v := ?_) rfl (by kernel_rfl) (by kernel_rfl) (by kernel_rfl) (fun _ _ _ h => h) (Or.inl ⟨by rfl, ?_⟩) (by assumption) ?_; rotate_left; · (intro wq hSq; have hq := HCR.out wq hSq; go_split_ands; go_simp; (try with_reducible rfl))
              try simp only [Act.put, getElem_toArray, getElem_cons_zero, getElem_cons_succ, setIfInBounds_toArray, set_cons_zero, set_cons_succ]
              refine wpAnyH_take (i := 1) (v := ?_) rfl (by kernel_rfl) (by kernel_rfl) (by kernel_rfl) (fun _ _ _ h => h) (Or.inl ⟨by rfl, ?_⟩) (by assumption) ?_; rotate_left; · (intro wq hSq; have hq := HCR.out wq hSq; go_split_ands; go_simp; (try with_reducible rfl))
              try simp only [Act.put, getElem_toArray, getElem_cons_zero, getElem_cons_succ, setIfInBounds_toArray, set_cons_zero, set_cons_succ]
              refine wpAnyH_take (i := 2) (v := ?_) rfl (by kernel_rfl) (by kernel_rfl) (by kernel_rfl) (fun _ _ _ h => h) (Or.inl ⟨by rfl, ?_⟩) (by assumption) ?_; rotate_left; · (intro wq hSq; have hq := HCR.out wq hSq; go_split_ands; go_simp; (try with_reducible rfl))
              try simp only [Act.put, getElem_toArray, getElem_cons_zero, getElem_cons_succ, setIfInBounds_toArray, set_cons_zero, set_cons_succ]
              refine wpAnyH_take (i := 3) (v := ?_) rfl (by kernel_rfl) (by kernel_rfl) (by kernel_rfl) (fun _ _ _ h => h) (Or.inl ⟨by rfl, ?_⟩) (by assumption) ?_; rotate_left; · (intro wq hSq; have hq := HCR.out wq hSq; go_split_ands; go_simp; (try with_reducible rfl))
              try simp only [Act.put, getElem_toArray, getElem_cons_zero, getElem_cons_succ, setIfInBounds_toArray, set_cons_zero, set_cons_succ]
              refine wpAnyH_take (i := 4) (v := ?_) rfl (by kernel_rfl) (by kernel_rfl) (by kernel_rfl) (fun _ _ _ h => h) (Or.inl ⟨by rfl, ?_⟩) (by assumption) ?_; rotate_left; · (intro wq hSq; have hq := HCR.out wq hSq; go_split_ands; go_simp; (try with_reducible rfl))
              try simp only [Act.put, getElem_toArray, getElem_cons_zero, getElem_cons_succ, setIfInBounds_toArray, set_cons_zero, set_cons_succ]
              refine wpAnyH_take (i := 5) (v := ?_) rfl (by kernel_rfl) (by kernel_rfl) (by kernel_rfl) (fun _ _ _ h => h) (Or.inl ⟨by rfl, ?_⟩) (by assumption) ?_; rotate_left; · (intro wq hSq; have hq := HCR.out wq hSq; go_split_ands; go_simp; (try with_reducible rfl))
              try simp only [Act.put, getElem_toArray, getElem_cons_zero, getElem_cons_succ, setIfInBounds_toArray, set_cons_zero, set_cons_succ]
              refine wpAnyH_take (i := 6) (v := ?_) rfl (by kernel_rfl) (by kernel_rfl) (by kernel_rfl) (fun _ _ _ h => h) (Or.inl ⟨by rfl, ?_⟩) (by assumption) ?_; rotate_left; · (intro wq hSq; have hq := HCR.out wq hSq; go_split_ands; go_simp; (try with_reducible rfl))
              try simp only [Act.put, getElem_toArray, getElem_cons_zero, getElem_cons_succ, setIfInBounds_toArray, set_cons_zero, set_cons_succ]
              refine wpAnyH_take (i := 7) (v := ?_) rfl (by kernel_rfl) (by kernel_rfl) (by kernel_rfl) (fun _ _ _ h => h) (Or.inl ⟨by rfl, ?_⟩) (by assumption) ?_; rotate_left; · (intro wq hSq; have hq := HCR.out wq hSq; go_split_ands; go_simp; (try with_reducible rfl))
              try simp only [Act.put, getElem_toArray, getElem_cons_zero, getElem_cons_succ, setIfInBounds_toArray, set_cons_zero, set_cons_succ]
              refine wpAnyH_take (i := 8) (v := ?_) rfl (by kernel_rfl) (by kernel_rfl) (by kernel_rfl) (fun _ _ _ h => h) (Or.inl ⟨by rfl, ?_⟩) (by assumption) ?_; rotate_left; · (intro wq hSq; have hq := HCR.out wq hSq; go_split_ands; go_simp; (try with_reducible rfl))
              try simp only [Act.put, getElem_toArray, getElem_cons_zero, getElem_cons_succ, setIfInBounds_toArray, set_cons_zero, set_cons_succ]
              refine wpAnyH_take (i := 9) (v := ?_) rfl (by kernel_rfl) (by kernel_rfl) (by kernel_rfl) (fun _ _ _ h => h) (Or.inl ⟨by rfl, ?_⟩) (by assumption) ?_; rotate_left; · (intro wq hSq; have hq := HCR.out wq hSq; go_split_ands; go_simp; (try with_reducible rfl))
              try simp only [Act.put, getElem_toArray, getElem_cons_zero, getElem_cons_succ, setIfInBounds_toArray, set_cons_zero, set_cons_succ]
              refine wpAnyH_take (i := 10) (v := ?_) rfl (by kernel_rfl) (by kernel_rfl) (by kernel_rfl) (fun _ _ _ h => h) (Or.inl ⟨by rfl, ?_⟩) (by assumption) ?_; rotate_left; · (intro wq hSq; have hq := HCR.out wq hSq; go_split_ands; go_simp; (try with_reducible rfl))
              try simp only [Act.put, getElem_toArray, getElem_cons_zero, getElem_cons_succ, setIfInBounds_toArray, set_cons_zero, set_cons_succ]
              refine wpAnyH_take (i := 11) (v := ?_) rfl (by kernel_rfl) (by kernel_rfl) (by kernel_rfl) (fun _ _ _ h => h) (Or.inl ⟨by rfl, ?_⟩) (by assumption) ?_; rotate_left; · (intro wq hSq; have hq := HCR.out wq hSq; go_split_ands; go_simp; (try with_reducible rfl))
              try simp only [Act.put, getElem_toArray, getElem_cons_zero, getElem_cons_succ, setIfInBounds_toArray, set_cons_zero, set_cons_succ]
              refine wpAnyH_take (i := 12) (v := ?_) rfl (by kernel_rfl) (by kernel_rfl) (by kernel_rfl) (fun _ _ _ h => h) (Or.inl ⟨by rfl, ?_⟩) (by assumption) ?_; rotate_left; · (intro wq hSq; have hq := HCR.out wq hSq; go_split_ands; go_simp; (try with_reducible rfl))
              try simp only [Act.put, getElem_toArray, getElem_cons_zero, getElem_cons_succ, setIfInBounds_toArray, set_cons_zero, set_cons_succ]
              refine wpAnyH_take (i := 13) (v := ?_) rfl (by kernel_rfl) (by kernel_rfl) (by kernel_rfl) (fun _ _ _ h => h) (Or.inl ⟨by rfl, ?_⟩) (by assumption) ?_; rotate_left; · (intro wq hSq; have hq := HCR.out wq hSq; go_split_ands; go_simp; (try with_reducible rfl))
              try simp only [Act.put, getElem_toArray, getElem_cons_zero, getElem_cons_succ, setIfInBounds_toArray, set_cons_zero, set_cons_succ]
              refine wpAnyH_take (i := 14) (v := ?_) rfl (by kernel_rfl) (by kernel_rfl) (by kernel_rfl) (fun _ _ _ h => h) (Or.inl ⟨by rfl, ?_⟩) (by assumption) ?_; rotate_left; · (intro wq hSq; have hq := HCR.out wq hSq; go_split_ands; go_simp; (try with_reducible rfl))
              try simp only [Act.put, getElem_toArray, getElem_cons_zero, getElem_cons_succ, setIfInBounds_toArray, set_cons_zero, set_cons_succ]
              refine wpAnyH_take (i := 15) (v := ?_) rfl (by kernel_rfl) (by kernel_rfl) (by kernel_rfl) (fun _ _ _ h => h) (Or.inl ⟨by rfl, ?_⟩) (by assumption) ?_; rotate_left; · (intro wq hSq; have hq := HCR.out wq hSq; go_split_ands; go_simp; (try with_reducible rfl))
              try simp only [Act.put, getElem_toArray, getElem_cons_zero, getElem_cons_succ, setIfInBounds_toArray, set_cons_zero, set_cons_succ]
              refine wpAnyH_take (i := 16) (v := ?_) rfl (by kernel_rfl) (by kernel_rfl) (by kernel_rfl) (fun _ _ _ h => h) (Or.inl ⟨by rfl, ?_⟩) (by assumption) ?_; rotate_left; · (intro wq hSq; have hq := HCR.out wq hSq; go_split_ands; go_simp; (try with_reducible rfl))
              try simp only [Act.put, getElem_toArray, getElem_cons_zero, getElem_cons_succ, setIfInBounds_toArray, set_cons_zero, set_cons_succ]
              refine wpAnyH_take (i := 17) (v := ?_) rfl (by kernel_rfl) (by kernel_rfl) (by kernel_rfl) (fun _ _ _ h => h) (Or.inl ⟨by rfl, ?_⟩) (by assumption) ?_; rotate_left; · (intro wq hSq; have hq := HCR.out wq hSq; go_split_ands; go_simp; (try with_reducible rfl))
              try simp only [Act.put, getElem_toArray, getElem_cons_zero, getElem_cons_succ, setIfInBounds_toArray, set_cons_zero, set_cons_succ]
              refine wpAnyH_take (i := 18) (v := ?_) rfl (by kernel_rfl) (by kernel_rfl) (by kernel_rfl) (fun _ _ _ h => h) (Or.inl ⟨by rfl, ?_⟩) (by assumption) ?_; rotate_left; · (intro wq hSq; have hq := HCR.out wq hSq; go_split_ands; go_simp; (try with_reducible rfl))
              try simp only [Act.put, getElem_toArray, getElem_cons_zero, getElem_cons_succ, setIfInBounds_toArray, set_cons_zero, set_cons_succ]
              refine wpAnyH_take (i := 19) (v := ?_) rfl (by kernel_rfl) (by kernel_rfl) (by kernel_rfl) (fun _ _ _ h => h) (Or.inl ⟨by rfl, ?_⟩) (by assumption) ?_; rotate_left; · (intro wq hSq; have hq := HCR.out wq hSq; go_split_ands; go_simp; (try with_reducible rfl))
              try simp only [Act.put, getElem_toArray, getElem_cons_zero, getElem_cons_succ, setIfInBounds_toArray, set_cons_zero, set_cons_succ]
              refine wpAnyH_take (i := 20) (v := ?_) rfl (by kernel_rfl) (by kernel_rfl) (by kernel_rfl) (fun _ _ _ h => h) (Or.inl ⟨by rfl, ?_⟩) (by assumption) ?_; rotate_left; · (intro wq hSq; have hq := HCR.out wq hSq; go_split_ands; go_simp; (try with_reducible rfl))
              try simp only [Act.put, getElem_toArray, getElem_cons_zero, getElem_cons_succ, setIfInBounds_toArray, set_cons_zero, set_cons_succ]
              refine wpAnyH_take (i := 21) (v := ?_) rfl (by kernel_rfl) (by kernel_rfl) (by kernel_rfl) (fun _ _ _ h => h) (Or.inl ⟨by rfl, ?_⟩) (by assumption) ?_; rotate_left; · (intro wq hSq; have hq := HCR.out wq hSq; go_split_ands; go_simp; (try with_reducible rfl))
              try simp only [Act.put, getElem_toArray, getElem_cons_zero, getElem_cons_succ, setIfInBounds_toArray, set_cons_zero, set_cons_succ]
              refine wpAnyH_take (i := 22) (v := ?_) rfl (by kernel_rfl) (by kernel_rfl) (by kernel_rfl) (fun _ _ _ h => h) (Or.inl ⟨by rfl, ?_⟩) (by assumption) ?_; rotate_left; · (intro wq hSq; have hq := HCR.out wq hSq; go_split_ands; go_simp; (try with_reducible rfl))
              try simp only [Act.put, getElem_toArray, getElem_cons_zero, getElem_cons_succ, setIfInBounds_toArray, set_cons_zero, set_cons_succ]
              refine wpAnyH_take (i := 23) (v := ?_) rfl (by kernel_rfl) (by kernel_rfl) (by kernel_rfl) (fun _ _ _ h => h) (Or.inl ⟨by rfl, ?_⟩) (by assumption) ?_; rotate_left; · (intro wq hSq; have hq := HCR.out wq hSq; go_split_ands; go_simp; (try with_reducible rfl))
              try simp only [Act.put, getElem_toArray, getElem_cons_zero, getElem_cons_succ, setIfInBounds_toArray, set_cons_zero, set_cons_succ]
              refine wpAnyH_take (i := 24) (v := ?_) rfl (by kernel_rfl) (by kernel_rfl) (by kernel_rfl) (fun _ _ _ h => h) (Or.inl ⟨by rfl, ?_⟩) (by assumption) ?_; rotate_left; · (intro wq hSq; have hq := HCR.out wq hSq; go_split_ands; go_simp; (try with_reducible rfl))
              try simp only [Act.put, getElem_toArray, getElem_cons_zero, getElem_cons_succ, setIfInBounds_toArray, set_cons_zero, set_cons_succ]
              refine wpAnyH_take (i := 25) (v := ?_) rfl (by kernel_rfl) (by kernel_rfl) (by kernel_rfl) (fun _ _ _ h => h) (Or.inl ⟨by rfl, ?_⟩) (by assumption) ?_; rotate_left; · (intro wq hSq; have hq := HCR.out wq hSq; go_split_ands; go_simp; (try with_reducible rfl))
              try simp only [Act.put, getElem_toArray, getElem_cons_zero, getElem_cons_succ, setIfInBounds_toArray, set_cons_zero, set_cons_succ]
              refine wpAnyH_take (i := 26) (v := ?_) rfl (by kernel_rfl) (by kernel_rfl) (by kernel_rfl) (fun _ _ _ h => h) (Or.inl ⟨by rfl, ?_⟩) (by assumption) ?_; rotate_left; · (intro wq hSq; have hq := HCR.out wq hSq; go_split_ands; go_simp; (try with_reducible rfl))
              try simp only [Act.put, getElem_toArray, getElem_cons_zero, getElem_cons_succ, setIfInBounds_toArray, set_cons_zero, set_cons_succ]
              refine wpAnyH_take (i := 27) (v := ?_) rfl (by kernel_rfl) (by kernel_rfl) (by kernel_rfl) (fun _ _ _ h => h) (Or.inl ⟨by rfl, ?_⟩) (by assumption) ?_; rotate_left; · (intro wq hSq; have hq := HCR.out wq hSq; go_split_ands; go_simp; (try with_reducible rfl))
              try simp only [Act.put, getElem_toArray, getElem_cons_zero, getElem_cons_succ, setIfInBounds_toArray, set_cons_zero, set_cons_succ]
              refine wpAnyH_take (i := 28) (v := ?_) rfl (by kernel_rfl) (by kernel_rfl) (by kernel_rfl) (fun _ _ _ h => h) (Or.inl ⟨by rfl, ?_⟩) (by assumption) ?_; rotate_left; · (intro wq hSq; have hq := HCR.out wq hSq; go_split_ands; go_simp; (try with_reducible rfl))
              try simp only [Act.put, getElem_toArray, getElem_cons_zero, getElem_cons_succ, setIfInBounds_toArray, set_cons_zero, set_cons_succ]
              refine wpAnyH_take (i := 29) (v := ?_) rfl (by kernel_rfl) (by kernel_rfl) (by kernel_rfl) (fun _ _ _ h => h) (Or.inl ⟨by rfl, ?_⟩) (by assumption) ?_; rotate_left; · (intro wq hSq; have hq := HCR.out wq hSq; go_split_ands; go_simp; (try with_reducible rfl))
              try simp only [Act.put, getElem_toArray, getElem_cons_zero, getElem_cons_succ, setIfInBounds_toArray, set_cons_zero, set_cons_succ]
              refine wpAnyH_take (i := 30) (v := ?_) rfl (by kernel_rfl) (by kernel_rfl) (by kernel_rfl) (fun _ _ _ h => h) (Or.inl ⟨by rfl, ?_⟩) (by assumption) ?_; rotate_left; · (intro wq hSq; have hq := HCR.out wq hSq; go_split_ands; go_simp; (try with_reducible rfl))
              try simp only [Act.put, getElem_toArray, getElem_cons_zero, getElem_cons_succ, setIfInBounds_toArray, set_cons_zero, set_cons_succ]
              refine wpAnyH_done (by kernel_rfl) ?_ _
              have HH := Lib.hid hHeld
              clear hHeld
              go_wp2_with fail
              go_meet
              refine ⟨?_, HH.out⟩
              have hs := HSUM.out
              rw [wrap_id (256 * (x4 : Int)) (by omega) (by omega), wrap_id ((x3 : Int) + 256 * (x4 : Int)) (by omega) (by omega), wrap_id (65536 * (x5 : Int)) (by omega) (by omega), wrap_id ((x3 : Int) + 256 * (x4 : Int) + 65536 * (x5 : Int)) (by omega) (by omega), wrap_id (16777216 * (x6 : Int)) (by omega) (by omega), wrap_id ((x3 : Int) + 256 * (x4 : Int) + 65536 * (x5 : Int) + 16777216 * (x6 : Int)) (by omega) (by omega), ← hs]
          case rest =>
            obtain ⟨rfl, hF6⟩ := hcut
            have HF6 := Lib.hid (HF5.out.trans' hF6)
            clear hF6 hw1 ht1 hz1 hy1 hw2 ht2 hz2 hy2 hw3 ht3 hz3 hy3 hw4 ht4 hz4 hy4 hw5 ht5 hz5 hy5 hw6 ht6 hz6 hy6 hx0 hx1 hx2 hx3 hx4 hx5 hx6 hb0 hb1 hb2 hb3 hb4 hb5 hb6
            by_cases hle : pp ≤ la
            · have HN : Hid (partsD bs = none) := by unfold Hid; rw [HP.out, HBD.out (.inr hle)]; rfl
              have HE : Hid (rr = (d, 8)) := by unfold Hid; rw [← HRR.out]; unfold loadD; rw [HN.out]
              go_wp2_with fail
              go_ret
              rw [HE.out]
              exact ⟨rfl, HD.out.grow HF6.out, HF6.out.mono (fun _ _ h => h.elim)⟩
            · have hle' : la < pp := by omega
              have e1 : decide (pp ≤ la) = false := by simpa using hle
              by_cases hnl : (bs.length : Int) - (at' : Int) - 7 < (n : Int)
              · have HN : Hid (partsD bs = none) := by unfold Hid; rw [HP.out, HBD.out (.inl (by rw [HDL.out]; omega))]; rfl
                have HE : Hid (rr = (d, 8)) := by unfold Hid; rw [← HRR.out]; unfold loadD; rw [HN.out]
                have e2 : decide ((bs.length : Int) - (at' : Int) - 7 < (n : Int)) = true := by simpa using hnl
                go_wp2_with fail
                go_ret
                rw [HE.out]
                exact ⟨rfl, HD.out.grow HF6.out, HF6.out.mono (fun _ _ h => h.elim)⟩
              · have e2 : decide ((bs.length : Int) - (at' : Int) - 7 < (n : Int)) = false := by simpa using hnl
                have HN : Hid (partsD bs = (prtF (bs.drop (at' + 7 + n)).length pp (bs.drop (at' + 7 + n))).map ((pre ++ [headP (bs.drop at')]) ++ ·)) := by
                  unfold Hid
                  rw [HP.out, HNX.out (by rw [HDL.out]; omega) hle', List.drop_drop, List.drop_drop, show at' + (7 + n) = at' + 7 + n by omega]
                  cases prtF (bs.drop (at' + 7 + n)).length pp (bs.drop (at' + 7 + n)) <;> simp
                have HLL : Hid (lastP (pre ++ [headP (bs.drop at')]) = pp) := by unfold Hid; rw [lastP_snoc, HPE.out]
                have hgo : at' + 7 + n ≤ bs.length := by omega
                have HGO := Lib.hid hgo
                go_wp2_with fail
                go_roundw
                case rel => exact ⟨at' + 7 + n, pre ++ [headP (bs.drop at')], HGO.out, by go_num, by rw [HLL.out], by rw [HLL.out]; omega, by rw [HLL.out]; omega, by rw [HLL.out]; exact HN.out, HF6.out⟩
                case measure => simp [intOf]; omega
    · have hz : (bs.drop at').length = 0 := by rw [List.length_drop]; omega
      have HPS : Hid (partsD bs = some pre) := by unfold Hid; rw [HP.out, prt_done _ _ hz]; simp
      have E : Hid (rr = if (gotD d pre).1 ≠ 0 then (d, (gotD d pre).1) else (putAll d (gotD d pre).2, 0)) := by unfold Hid; rw [← HRR.out]; unfold loadD; rw [HPS.out]
      have HPX : Hid (prtF (bs.drop 0).length (lastP []) (bs.drop 0) = some pre) := HPS.out
      clear hz HP hp1 hp2
      generalize pre = ls at *
      obtain ⟨sL, sV, g1, g2, g3⟩ := HD.out.ex
      obtain ⟨AV, cV, rfl, _, _, _⟩ := row_open g3
      have HNV := Lib.hid (row_news g3)
      have HVL : Hid ((cellsOf cellsV (d.map (·.2))).length = d.length * 3) := by unfold Hid; rw [cellsOf_length (sz := 3) (fun v => rfl), List.length_map]
      have HONE : Hid (∀ u ∈ cellsOf cellsV (d.map (·.2)), u.oneCell' = true) := fun u hu => by
        unfold cellsOf at hu
        obtain ⟨x, _, hx⟩ := List.mem_flatMap.1 hu
        simp only [cellsV, List.mem_cons, List.not_mem_nil, or_false] at hx
        rcases hx with rfl | rfl | rfl <;> rfl
      have hm1 : 0 + d.length ≤ maxLen := by unfold maxLen; omega
      have hm2 : (0 + d.length) * 32 ≤ 140737488355328 := by omega
      have hpr := hF.heap g1 (fun h => h)
      have c1 : wr.cell? ⟨p, 1, none⟩ = some (.slice AV d.length cV) := cell_at hpr
      have hpl := lt_of_block hpr
      have hcc : ∀ W, Frm (fun _ => False) w W → W.cell? ⟨p, 0, none⟩ = some sL ∧ W.cell? ⟨p, 1, none⟩ = some (.slice AV d.length cV) ∧ p < W.heap.size ∧ (∀ o, W.frozen? ⟨p, o, none⟩ = false) := fun W hF => by
        have kk := hF.heap g1 (fun h => h)
        exact ⟨cell_at kk, cell_at kk, lt_of_block kk, frees kk⟩
      have HCP := Lib.hid hcc
      have HG1 := Lib.hid g1
      have HG2 := Lib.hid g2
      have HFD := Lib.hid (fun (i s : Int) W (hW : Frm (fun _ => False) w W) => rDFind_any p B d i s W (HD.out.grow hW) hl)
      unfold ptr at HFD
      clear hF g1 g2 g3 hpr hcc
      obtain ⟨wo, hwo⟩ : ∃ wo : World, wo = wr := ⟨_, rfl⟩
      subst hwo
      go_wp2_with (at_builtin; refine wpl_app_src rfl el_Value (.tmp 92) (.tmp 96) rfl (B := wo.heap.size) (xs := []) (news := cellsOf cellsV (d.map fun (x : Im) => x.2)) rfl rfl (row_new (by simp) rfl rfl (by decide) (by simp)) HVL.out (fun h => (HNV.out h).grow (Frm.trans' HF.out (by (repeat' (first | (with_reducible exact Frm.refl _ _) | (with_reducible assumption) | (with_reducible refine Frm.alloc ?_ _) | (with_reducible refine Frm.drew ?_) | (with_reducible refine Frm.drewN ?_ _) | (with_reducible refine Frm.set1 ?_ _) | (with_reducible refine Frm.setCell ?_ ?_ _) | (exact fun h => absurd h (Nat.lt_irrefl _)) | (intro hlt; simp [World.size_alloc, One] at hlt ⊢; omega)))))) HONE.out hm1 hm2 (by simp) ?_; intro A5 c5 w5 hown5 hfr5)
      have hF5 : Frm (fun _ => False) wo w5 := Frm.trans (b := _) (T := fun j => (Value.slice (some ⟨wo.heap.size, 0, none⟩) 0 0).ownBlock = some j) (by (repeat' (first | (with_reducible exact Frm.refl _ _) | (with_reducible assumption) | (with_reducible refine Frm.alloc ?_ _) | (with_reducible refine Frm.drew ?_) | (with_reducible refine Frm.drewN ?_ _) | (with_reducible refine Frm.set1 ?_ _) | (with_reducible refine Frm.setCell ?_ ?_ _) | (exact fun h => absurd h (Nat.lt_irrefl _)) | (intro hlt; simp [World.size_alloc, One] at hlt ⊢; omega)))) hfr5 (fun i hi e => absurd hi (by cases e; simp))
      have HR5 : Hid (w5.ownsRow w.heap.size 36 3 (.slice A5 d.length c5) d.length (cellsOf cellsV (d.map (·.2)))) := by
        have h9 := row_base hown5 HF.out.size
        rw [Nat.zero_add, List.nil_append] at h9
        exact h9
      have HF5 := Lib.hid (HF.out.trans' hF5)
      clear hown5 hfr5 hF5 c1 hpl
      try rw [Nat.zero_add]
      go_loopw [5] (fun i wx => ∃ (at' : Nat) (pre rest : List It), at' ≤ bs.length ∧ i = .int .i64 at' ∧ ls = pre ++ rest ∧ prtF (bs.drop at').length (lastP pre) (bs.drop at') = some rest ∧ (gotD d pre).1 = 0 ∧ wx.ownsRow w.heap.size 36 3 (.slice A5 d.length c5) d.length (cellsOf cellsV ((putAll d (gotD d pre).2).map (·.2))) ∧ Frm (fun _ => False) w wx) (fun i _ => bs.length - (intOf i).toNat)
      case atStart => exact ⟨0, [], ls, Nat.zero_le _, rfl, rfl, HPX.out, rfl, HR5.out, HF5.out⟩
      case round =>
        obtain ⟨at', pre, rest, hat, rfl, hls, hpr, hg0, hrow, hF⟩ := hrel
        have HLS := Lib.hid hls
        have HPR := Lib.hid hpr
        have HG0 := Lib.hid hg0
        have HROW := Lib.hid hrow
        have HFR := Lib.hid hF
        clear hls hpr hg0 hrow hF
        have hdl : (bs.drop at').length = bs.length - at' := List.length_drop
        have HDL := Lib.hid hdl
        clear hdl
        by_cases hlt : at' < bs.length
        · have h7 := prt_inv7 HPR.out (by rw [HDL.out]; omega)
          rw [HDL.out] at h7
          have h7' : at' + 7 ≤ bs.length := by omega
          obtain ⟨g, off, rfl, hc2⟩ := HCE.out (by omega)
          obtain ⟨x0, x1, x2, x3, x4, x5, x6, n, hH, hcc⟩ := read7 hc2 h7'
          obtain ⟨-, hn7, rest', rfl, hpr'⟩ := prt_inv HPR.out (by rw [HDL.out]; omega) hH.n'
          rw [HDL.out] at hn7
          have hgo : at' + 7 + n ≤ bs.length := by omega
          rw [List.drop_drop, List.drop_drop, show at' + (7 + n) = at' + 7 + n by omega] at hpr'
          have HPRN := Lib.hid hpr'
          obtain ⟨A1, ca, hsl, hbm⟩ := bytes_mid HBS.out (at' + 7) n hgo
          rw [← List.drop_drop] at hbm
          rw [← hH.bb] at hbm
          have HBAD := Lib.hid (fun (c : Int) (hx : ∀ r, (gotD d (headP (bs.drop at') :: r)).1 = c) => by
            have h9 := got_bad (r := rest') HG0.out hx
            rw [← HLS.out] at h9
            exact h9)
          have HGOOD := Lib.hid (fun (q : Nat × Va) hx => got_good (x := headP (bs.drop at')) (p := q) HG0.out hx)
          have HSN : Hid (lastP (pre ++ [headP (bs.drop at')]) = plP (headP (bs.drop at'))) := lastP_snoc _ _
          obtain ⟨hb0, hb1, hb2, hb3, hb4, hb5, hb6, hi, hs, -, -, hsum⟩ := hH
          have HXL : Hid ((headP (bs.drop at')).2.2.length ≤ 140737488351232) := by
            obtain ⟨_, c9, e9, _, _, _⟩ := hbm.open_
            simp only [Value.slice.injEq] at e9
            have := e9.2.1
            unfold Hid
            omega
          generalize headP (bs.drop at') = hx at *
          obtain ⟨xi, xs, xb⟩ := hx
          simp only at hi hs hbm
          have HXL' : Hid (xb.length ≤ 140737488351232) := HXL.out
          have HI := Lib.hid hi
          have HS := Lib.hid hs
          have HSUM := Lib.hid hsum
          have HBM := Lib.hid hbm
          have HCC := Lib.hid hcc
          have hgl := Nat.lt_of_lt_of_le (World.block_lt_of_cell? w _ (hc2 0 (by omega))) HFR.out.size
          have hnb : n < 4294967296 := by omega
          clear hc2 hcc hsum hpr' hi hs hbm h7 HXL
          have HSL := Lib.hid hsl
          clear hsl
          have hw1 : IntKind.i64.wrap ((at' : Int) + 1) = (at' : Int) + 1 := wrap_id _ (by omega) (by omega)
          have ht1 : ((at' : Int) + 1).toNat = at' + 1 := by omega
          have hz1 : (0 : Int) ≤ (at' : Int) + 1 := by omega
          have hy1 : (at' : Int) + 1 < (bs.length : Int) := by omega
          have hw2 : IntKind.i64.wrap ((at' : Int) + 2) = (at' : Int) + 2 := wrap_id _ (by omega) (by omega)
          have ht2 : ((at' : Int) + 2).toNat = at' + 2 := by omega
          have hz2 : (0 : Int) ≤ (at' : Int) + 2 := by omega
          have hy2 : (at' : Int) + 2 < (bs.length : Int) := by omega
          have hw3 : IntKind.i64.wrap ((at' : Int) + 3) = (at' : Int) + 3 := wrap_id _ (by omega) (by omega)
          have ht3 : ((at' : Int) + 3).toNat = at' + 3 := by omega
          have hz3 : (0 : Int) ≤ (at' : Int) + 3 := by omega
          have hy3 : (at' : Int) + 3 < (bs.length : Int) := by omega
          have hw4 : IntKind.i64.wrap ((at' : Int) + 4) = (at' : Int) + 4 := wrap_id _ (by omega) (by omega)
          have ht4 : ((at' : Int) + 4).toNat = at' + 4 := by omega
          have hz4 : (0 : Int) ≤ (at' : Int) + 4 := by omega
          have hy4 : (at' : Int) + 4 < (bs.length : Int) := by omega
          have hw5 : IntKind.i64.wrap ((at' : Int) + 5) = (at' : Int) + 5 := wrap_id _ (by omega) (by omega)
          have ht5 : ((at' : Int) + 5).toNat = at' + 5 := by omega
          have hz5 : (0 : Int) ≤ (at' : Int) + 5 := by omega
          have hy5 : (at' : Int) + 5 < (bs.length : Int) := by omega
          have hw6 : IntKind.i64.wrap ((at' : Int) + 6) = (at' : Int) + 6 := wrap_id _ (by omega) (by omega)
          have ht6 : ((at' : Int) + 6).toNat = at' + 6 := by omega
          have hz6 : (0 : Int) ≤ (at' : Int) + 6 := by omega
          have hy6 : (at' : Int) + 6 < (bs.length : Int) := by omega
          have hx0 := wrap_id (x0 : Int) (by omega) (by omega)
          have hx1 := wrap_id (x1 : Int) (by omega) (by omega)
          have hx2 := wrap_id (x2 : Int) (by omega) (by omega)
          have hx3 := wrap_id (x3 : Int) (by omega) (by omega)
          have hx4 := wrap_id (x4 : Int) (by omega) (by omega)
          have hx5 := wrap_id (x5 : Int) (by omega) (by omega)
          have hx6 := wrap_id (x6 : Int) (by omega) (by omega)
          obtain ⟨wq, hwq⟩ : ∃ wq : World, wq = wr := ⟨_, rfl⟩
          subst hwq
          go_upto_region 13 with fail
          go_cut [10] (fun nv wx => nv = .int .i64 (n : Int) ∧ Frm (fun _ => False) wq wx)
          case first =>
            as_aux_lemma =>
            have HCR := Lib.hid (fun W (h : Frm (fun _ => False) wq W) => HCC.out W (HFR.out.trans' h))
            · skip
              refine wp_region_held_drew (S := fun W => Frm (fun _ => False) wq W) (by kernel_rfl) ((Frm.refl _ _).drew) (fun hHeld => ?_)
              refine wpAnyH_take (i := 0) (v := ?_) rfl (by kernel_rfl) (by kernel_rfl) (by kernel_rfl) (fun _ _ _ h => h) (Or.inl ⟨by rfl, ?_⟩) (by assumption) ?_; rotate_left; · (intro wq hSq; have hq := HCR.out wq hSq; go_split_ands; go_simp; (try with_reducible rfl))
              try simp only [Act.put, getElem_toArray, getElem_cons_zero, getElem_cons_succ, setIfInBounds_toArray, set_cons_zero, set_cons_succ]
              refine wpAnyH_take (i := 1) (v := ?_) rfl (by kernel_rfl) (by kernel_rfl) (by kernel_rfl) (fun _ _ _ h => h) (Or.inl ⟨by rfl, ?_⟩) (by assumption) ?_; rotate_left; · (intro wq hSq; have hq := HCR.out wq hSq; go_split_ands; go_simp; (try with_reducible rfl))
              try simp only [Act.put, getElem_toArray, getElem_cons_zero, getElem_cons_succ, setIfInBounds_toArray, set_cons_zero, set_cons_succ]
              refine wpAnyH_take (i := 2) (v := ?_) rfl (by kernel_rfl) (by kernel_rfl) (by kernel_rfl) (fun _ _ _ h => h) (Or.inl ⟨by rfl, ?_⟩) (by assumption) ?_; rotate_left; · (intro wq hSq; have hq := HCR.out wq hSq; go_split_ands; go_simp; (try with_reducible rfl))
              try simp only [Act.put, getElem_toArray, getElem_cons_zero, getElem_cons_succ, setIfInBounds_toArray, set_cons_zero, set_cons_succ]
              refine wpAnyH_take (i := 3) (v := ?_) rfl (by kernel_rfl) (by kernel_rfl) (by kernel_rfl) (fun _ _ _ h => h) (Or.inl ⟨by rfl, ?_⟩) (by assumption) ?_; rotate_left; · (intro wq hSq; have hq := HCR.out wq hSq; go_split_ands; go_simp; (try with_reducible rfl))
              try simp only [Act.put, getElem_toArray, getElem_cons_zero, getElem_cons_succ, setIfInBounds_toArray, set_cons_zero, set_cons_succ]
              refine wpAnyH_take (i := 4) (v := ?_) rfl (by kernel_rfl) (by kernel_rfl) (by kernel_rfl) (fun _ _ _ h => h) (Or.inl ⟨by rfl, ?_⟩) (by assumption) ?_; rotate_left; · (intro wq hSq; have hq := HCR.out wq hSq; go_split_ands; go_simp; (try with_reducible rfl))
              try simp only [Act.put, getElem_toArray, getElem_cons_zero, getElem_cons_succ, setIfInBounds_toArray, set_cons_zero, set_cons_succ]
              refine wpAnyH_take (i := 5) (v := ?_) rfl (by kernel_rfl) (by kernel_rfl) (by kernel_rfl) (fun _ _ _ h => h) (Or.inl ⟨by rfl, ?_⟩) (by assumption) ?_; rotate_left; · (intro wq hSq; have hq := HCR.out wq hSq; go_split_ands; go_simp; (try with_reducible rfl))
              try simp only [Act.put, getElem_toArray, getElem_cons_zero, getElem_cons_succ, setIfInBounds_toArray, set_cons_zero, set_cons_succ]
              refine wpAnyH_take (i := 6) (v := ?_) rfl (by kernel_rfl) (by kernel_rfl) (by kernel_rfl) (fun _ _ _ h => h) (Or.inl ⟨by rfl, ?_⟩) (by assumption) ?_; rotate_left; · (intro wq hSq; have hq := HCR.out wq hSq; go_split_ands; go_simp; (try with_reducible rfl))
              try simp only [Act.put, getElem_toArray, getElem_cons_zero, getElem_cons_succ, setIfInBounds_toArray, set_cons_zero, set_cons_succ]
              refine wpAnyH_take (i := 7) (v := ?_) rfl (by kernel_rfl) (by kernel_rfl) (by kernel_rfl) (fun _ _ _ h => h) (Or.inl ⟨by rfl, ?_⟩) (by assumption) ?_; rotate_left; · (intro wq hSq; have hq := HCR.out wq hSq; go_split_ands; go_simp; (try with_reducible rfl))
              try simp only [Act.put, getElem_toArray, getElem_cons_zero, getElem_cons_succ, setIfInBounds_toArray, set_cons_zero, set_cons_succ]
              refine wpAnyH_take (i := 8) (v := ?_) rfl (by kernel_rfl) (by kernel_rfl) (by kernel_rfl) (fun _ _ _ h => h) (Or.inl ⟨by rfl, ?_⟩) (by assumption) ?_; rotate_left; · (intro wq hSq; have hq := HCR.out wq hSq; go_split_ands; go_simp; (try with_reducible rfl))
              try simp only [Act.put, getElem_toArray, getElem_cons_zero, getElem_cons_succ, setIfInBounds_toArray, set_cons_zero, set_cons_succ]
              refine wpAnyH_take (i := 9) (v := ?_) rfl (by kernel_rfl) (by kernel_rfl) (by kernel_rfl) (fun _ _ _ h => h) (Or.inl ⟨by rfl, ?_⟩) (by assumption) ?_; rotate_left; · (intro wq hSq; have hq := HCR.out wq hSq; go_split_ands; go_simp; (try with_reducible rfl))
              try simp only [Act.put, getElem_toArray, getElem_cons_zero, getElem_cons_succ, setIfInBounds_toArray, set_cons_zero, set_cons_succ]
              refine wpAnyH_take (i := 10) (v := ?_) rfl (by kernel_rfl) (by kernel_rfl) (by kernel_rfl) (fun _ _ _ h => h) (Or.inl ⟨by rfl, ?_⟩) (by assumption) ?_; rotate_left; · (intro wq hSq; have hq := HCR.out wq hSq; go_split_ands; go_simp; (try with_reducible rfl))
              try simp only [Act.put, getElem_toArray, getElem_cons_zero, getElem_cons_succ, setIfInBounds_toArray, set_cons_zero, set_cons_succ]
              refine wpAnyH_take (i := 11) (v := ?_) rfl (by kernel_rfl) (by kernel_rfl) (by kernel_rfl) (fun _ _ _ h => h) (Or.inl ⟨by rfl, ?_⟩) (by assumption) ?_; rotate_left; · (intro wq hSq; have hq := HCR.out wq hSq; go_split_ands; go_simp; (try with_reducible rfl))
              try simp only [Act.put, getElem_toArray, getElem_cons_zero, getElem_cons_succ, setIfInBounds_toArray, set_cons_zero, set_cons_succ]
              refine wpAnyH_take (i := 12) (v := ?_) rfl (by kernel_rfl) (by kernel_rfl) (by kernel_rfl) (fun _ _ _ h => h) (Or.inl ⟨by rfl, ?_⟩) (by assumption) ?_; rotate_left; · (intro wq hSq; have hq := HCR.out wq hSq; go_split_ands; go_simp; (try with_reducible rfl))
              try simp only [Act.put, getElem_toArray, getElem_cons_zero, getElem_cons_succ, setIfInBounds_toArray, set_cons_zero, set_cons_succ]
              refine wpAnyH_take (i := 13) (v := ?_) rfl (by kernel_rfl) (by kernel_rfl) (by kernel_rfl) (fun _ _ _ h => h) (Or.inl ⟨by rfl, ?_⟩) (by assumption) ?_; rotate_left; · (intro wq hSq; have hq := HCR.out wq hSq; go_split_ands; go_simp; (try with_reducible rfl))
              try simp only [Act.put, getElem_toArray, getElem_cons_zero, getElem_cons_succ, setIfInBounds_toArray, set_cons_zero, set_cons_succ]
              refine wpAnyH_take (i := 14) (v := ?_) rfl (by kernel_rfl) (by kernel_rfl) (by kernel_rfl) (fun _ _ _ h => h) (Or.inl ⟨by rfl, ?_⟩) (by assumption) ?_; rotate_left; · (intro wq hSq; have hq := HCR.out wq hSq; go_split_ands; go_simp; (try with_reducible rfl))
              try simp only [Act.put, getElem_toArray, getElem_cons_zero, getElem_cons_succ, setIfInBounds_toArray, set_cons_zero, set_cons_succ]
              refine wpAnyH_take (i := 15) (v := ?_) rfl (by kernel_rfl) (by kernel_rfl) (by kernel_rfl) (fun _ _ _ h => h) (Or.inl ⟨by rfl, ?_⟩) (by assumption) ?_; rotate_left; · (intro wq hSq; have hq := HCR.out wq hSq; go_split_ands; go_simp; (try with_reducible rfl))
              try simp only [Act.put, getElem_toArray, getElem_cons_zero, getElem_cons_succ, setIfInBounds_toArray, set_cons_zero, set_cons_succ]
              refine wpAnyH_take (i := 16) (v := ?_) rfl (by kernel_rfl) (by kernel_rfl) (by kernel_rfl) (fun _ _ _ h => h) (Or.inl ⟨by rfl, ?_⟩) (by assumption) ?_; rotate_left; · (intro wq hSq; have hq := HCR.out wq hSq; go_split_ands; go_simp; (try with_reducible rfl))
              try simp only [Act.put, getElem_toArray, getElem_cons_zero, getElem_cons_succ, setIfInBounds_toArray, set_cons_zero, set_cons_succ]
              refine wpAnyH_take (i := 17) (v := ?_) rfl (by kernel_rfl) (by kernel_rfl) (by kernel_rfl) (fun _ _ _ h => h) (Or.inl ⟨by rfl, ?_⟩) (by assumption) ?_; rotate_left; · (intro wq hSq; have hq := HCR.out wq hSq; go_split_ands; go_simp; (try with_reducible rfl))
              try simp only [Act.put, getElem_toArray, getElem_cons_zero, getElem_cons_succ, setIfInBounds_toArray, set_cons_zero, set_cons_succ]
              refine wpAnyH_take (i := 18) (v := ?_) rfl (by kernel_rfl) (by kernel_rfl) (by kernel_rfl) (fun _ _ _ h => h) (Or.inl ⟨by rfl, ?_⟩) (by assumption) ?_; rotate_left; · (intro wq hSq; have hq := HCR.out wq hSq; go_split_ands; go_simp; (try with_reducible rfl))
              try simp only [Act.put, getElem_toArray, getElem_cons_zero, getElem_cons_succ, setIfInBounds_toArray, set_cons_zero, set_cons_succ]
              refine wpAnyH_take (i := 19) (v := ?_) rfl (by kernel_rfl) (by kernel_rfl) (by kernel_rfl) (fun _ _ _ h => h) (Or.inl ⟨by rfl, ?_⟩) (by assumption) ?_; rotate_left; · (intro wq hSq; have hq := HCR.out wq hSq; go_split_ands; go_simp; (try with_reducible rfl))
              try simp only [Act.put, getElem_toArray, getElem_cons_zero, getElem_cons_succ, setIfInBounds_toArray, set_cons_zero, set_cons_succ]
              refine wpAnyH_take (i := 20) (v := ?_) rfl (by kernel_rfl) (by kernel_rfl) (by kernel_rfl) (fun _ _ _ h => h) (Or.inl ⟨by rfl, ?_⟩) (by assumption) ?_; rotate_left; · (intro wq hSq; have hq := HCR.out wq hSq; go_split_ands; go_simp; (try with_reducible rfl))
              try simp only [Act.put, getElem_toArray, getElem_cons_zero, getElem_cons_succ, setIfInBounds_toArray, set_cons_zero, set_cons_succ]
              refine wpAnyH_take (i := 21) (v := ?_) rfl (by kernel_rfl) (by kernel_rfl) (by kernel_rfl) (fun _ _ _ h => h) (Or.inl ⟨by rfl, ?_⟩) (by assumption) ?_; rotate_left; · (intro wq hSq; have hq := HCR.out wq hSq; go_split_ands; go_simp; (try with_reducible rfl))
              try simp only [Act.put, getElem_toArray, getElem_cons_zero, getElem_cons_succ, setIfInBounds_toArray, set_cons_zero, set_cons_succ]
              refine wpAnyH_take (i := 22) (v := ?_) rfl (by kernel_rfl) (by kernel_rfl) (by kernel_rfl) (fun _ _ _ h => h) (Or.inl ⟨by rfl, ?_⟩) (by assumption) ?_; rotate_left; · (intro wq hSq; have hq := HCR.out wq hSq; go_split_ands; go_simp; (try with_reducible rfl))
              try simp only [Act.put, getElem_toArray, getElem_cons_zero, getElem_cons_succ, setIfInBounds_toArray, set_cons_zero, set_cons_succ]
              refine wpAnyH_take (i := 23) (v := ?_) rfl (by kernel_rfl) (by kernel_rfl) (by kernel_rfl) (fun _ _ _ h => h) (Or.inl ⟨by rfl, ?_⟩) (by assumption) ?_; rotate_left; · (intro wq hSq; have hq := HCR.out wq hSq; go_split_ands; go_simp; (try with_reducible rfl))
              try simp only [Act.put, getElem_toArray, getElem_cons_zero, getElem_cons_succ, setIfInBounds_toArray, set_cons_zero, set_cons_succ]
              refine wpAnyH_take (i := 24) (v := ?_) rfl (by kernel_rfl) (by kernel_rfl) (by kernel_rfl) (fun _ _ _ h => h) (Or.inl ⟨by rfl, ?_⟩) (by assumption) ?_; rotate_left; · (intro wq hSq; have hq := HCR.out wq hSq; go_split_ands; go_simp; (try with_reducible rfl))
              try simp only [Act.put, getElem_toArray, getElem_cons_zero, getElem_cons_succ, setIfInBounds_toArray, set_cons_zero, set_cons_succ]
              refine wpAnyH_take (i := 25) (v := ?_) rfl (by kernel_rfl) (by kernel_rfl) (by kernel_rfl) (fun _ _ _ h => h) (Or.inl ⟨by rfl, ?_⟩) (by assumption) ?_; rotate_left; · (intro wq hSq; have hq := HCR.out wq hSq; go_split_ands; go_simp; (try with_reducible rfl))
              try simp only [Act.put, getElem_toArray, getElem_cons_zero, getElem_cons_succ, setIfInBounds_toArray, set_cons_zero, set_cons_succ]
              refine wpAnyH_take (i := 26) (v := ?_) rfl (by kernel_rfl) (by kernel_rfl) (by kernel_rfl) (fun _ _ _ h => h) (Or.inl ⟨by rfl, ?_⟩) (by assumption) ?_; rotate_left; · (intro wq hSq; have hq := HCR.out wq hSq; go_split_ands; go_simp; (try with_reducible rfl))
              try simp only [Act.put, getElem_toArray, getElem_cons_zero, getElem_cons_succ, setIfInBounds_toArray, set_cons_zero, set_cons_succ]
              refine wpAnyH_take (i := 27) (v := ?_) rfl (by kernel_rfl) (by kernel_rfl) (by kernel_rfl) (fun _ _ _ h => h) (Or.inl ⟨by rfl, ?_⟩) (by assumption) ?_; rotate_left; · (intro wq hSq; have hq := HCR.out wq hSq; go_split_ands; go_simp; (try with_reducible rfl))
              try simp only [Act.put, getElem_toArray, getElem_cons_zero, getElem_cons_succ, setIfInBounds_toArray, set_cons_zero, set_cons_succ]
              refine wpAnyH_take (i := 28) (v := ?_) rfl (by kernel_rfl) (by kernel_rfl) (by kernel_rfl) (fun _ _ _ h => h) (Or.inl ⟨by rfl, ?_⟩) (by assumption) ?_; rotate_left; · (intro wq hSq; have hq := HCR.out wq hSq; go_split_ands; go_simp; (try with_reducible rfl))
              try simp only [Act.put, getElem_toArray, getElem_cons_zero, getElem_cons_succ, setIfInBounds_toArray, set_cons_zero, set_cons_succ]
              refine wpAnyH_take (i := 29) (v := ?_) rfl (by kernel_rfl) (by kernel_rfl) (by kernel_rfl) (fun _ _ _ h => h) (Or.inl ⟨by rfl, ?_⟩) (by assumption) ?_; rotate_left; · (intro wq hSq; have hq := HCR.out wq hSq; go_split_ands; go_simp; (try with_reducible rfl))
              try simp only [Act.put, getElem_toArray, getElem_cons_zero, getElem_cons_succ, setIfInBounds_toArray, set_cons_zero, set_cons_succ]
              refine wpAnyH_take (i := 30) (v := ?_) rfl (by kernel_rfl) (by kernel_rfl) (by kernel_rfl) (fun _ _ _ h => h) (Or.inl ⟨by rfl, ?_⟩) (by assumption) ?_; rotate_left; · (intro wq hSq; have hq := HCR.out wq hSq; go_split_ands; go_simp; (try with_reducible rfl))
              try simp only [Act.put, getElem_toArray, getElem_cons_zero, getElem_cons_succ, setIfInBounds_toArray, set_cons_zero, set_cons_succ]
              refine wpAnyH_done (by kernel_rfl) ?_ _
              have HH := Lib.hid hHeld
              clear hHeld
              go_wp2_with fail
              go_meet
              refine ⟨?_, HH.out⟩
              have hs := HSUM.out
              rw [wrap_id (256 * (x4 : Int)) (by omega) (by omega), wrap_id ((x3 : Int) + 256 * (x4 : Int)) (by omega) (by omega), wrap_id (65536 * (x5 : Int)) (by omega) (by omega), wrap_id ((x3 : Int) + 256 * (x4 : Int) + 65536 * (x5 : Int)) (by omega) (by omega), wrap_id (16777216 * (x6 : Int)) (by omega) (by omega), wrap_id ((x3 : Int) + 256 * (x4 : Int) + 65536 * (x5 : Int) + 16777216 * (x6 : Int)) (by omega) (by omega), ← hs]
          case rest =>
            obtain ⟨rfl, hF6⟩ := hcut
            have HF6 := Lib.hid (HFR.out.trans' hF6)
            have HROW6 := Lib.hid (hF6.row HROW.out (fun _ _ h => h))
            clear hF6 hx3 hx4 hx5 hx6 hb3 hb4 hb5 hb6 HROW
            obtain ⟨wq, hwq⟩ : ∃ wq : World, wq = wc := ⟨_, rfl⟩
            subst hwq
            have hu0 := wrap_id16 (x0 : Int) (by omega) (by omega)
            have hu1 := wrap_id16 (x1 : Int) (by omega) (by omega)
            go_upto_region 14 with fail
            go_cut [11, 12] (fun kv cv wx => kv = .int .i64 (((findD d xi xs).getD 0 : Nat) : Int) ∧ cv = .int .u32 (findC d xi xs) ∧ Frm (fun _ => False) wq wx)
            case first =>
              as_aux_lemma =>
              have HCR := Lib.hid (fun W (h : Frm (fun _ => False) wq W) => HCC.out W (HF6.out.trans' h))
              refine wp_region_held_drew (S := fun W => Frm (fun _ => False) wq W) (by kernel_rfl) ((Frm.refl _ _).drew) (fun hHeld => ?_)
              refine wpAnyH_take (i := 0) (v := ?_) rfl (by kernel_rfl) (by kernel_rfl) (by kernel_rfl) (fun _ _ _ h => h) (Or.inl ⟨by rfl, ?_⟩) (by assumption) ?_; rotate_left; · (intro wq hSq; have hq := HCR.out wq hSq; go_split_ands; go_simp; (try with_reducible rfl))
              try simp only [Act.put, getElem_toArray, getElem_cons_zero, getElem_cons_succ, setIfInBounds_toArray, set_cons_zero, set_cons_succ]
              refine wpAnyH_take (i := 1) (v := ?_) rfl (by kernel_rfl) (by kernel_rfl) (by kernel_rfl) (fun _ _ _ h => h) (Or.inl ⟨by rfl, ?_⟩) (by assumption) ?_; rotate_left; · (intro wq hSq; have hq := HCR.out wq hSq; go_split_ands; go_simp; (try with_reducible rfl))
              try simp only [Act.put, getElem_toArray, getElem_cons_zero, getElem_cons_succ, setIfInBounds_toArray, set_cons_zero, set_cons_succ]
              refine wpAnyH_take (i := 2) (v := ?_) rfl (by kernel_rfl) (by kernel_rfl) (by kernel_rfl) (fun _ _ _ h => h) (Or.inl ⟨by rfl, ?_⟩) (by assumption) ?_; rotate_left; · (intro wq hSq; have hq := HCR.out wq hSq; go_split_ands; go_simp; (try with_reducible rfl))
              try simp only [Act.put, getElem_toArray, getElem_cons_zero, getElem_cons_succ, setIfInBounds_toArray, set_cons_zero, set_cons_succ]
              refine wpAnyH_take (i := 3) (v := ?_) rfl (by kernel_rfl) (by kernel_rfl) (by kernel_rfl) (fun _ _ _ h => h) (Or.inl ⟨by rfl, ?_⟩) (by assumption) ?_; rotate_left; · (intro wq hSq; have hq := HCR.out wq hSq; go_split_ands; go_simp; (try with_reducible rfl))
              try simp only [Act.put, getElem_toArray, getElem_cons_zero, getElem_cons_succ, setIfInBounds_toArray, set_cons_zero, set_cons_succ]
              refine wpAnyH_take (i := 4) (v := ?_) rfl (by kernel_rfl) (by kernel_rfl) (by kernel_rfl) (fun _ _ _ h => h) (Or.inl ⟨by rfl, ?_⟩) (by assumption) ?_; rotate_left; · (intro wq hSq; have hq := HCR.out wq hSq; go_split_ands; go_simp; (try with_reducible rfl))
              try simp only [Act.put, getElem_toArray, getElem_cons_zero, getElem_cons_succ, setIfInBounds_toArray, set_cons_zero, set_cons_succ]
              refine wpAnyH_take (i := 5) (v := ?_) rfl (by kernel_rfl) (by kernel_rfl) (by kernel_rfl) (fun _ _ _ h => h) (Or.inl ⟨by rfl, ?_⟩) (by assumption) ?_; rotate_left; · (intro wq hSq; have hq := HCR.out wq hSq; go_split_ands; go_simp; (try with_reducible rfl))
              try simp only [Act.put, getElem_toArray, getElem_cons_zero, getElem_cons_succ, setIfInBounds_toArray, set_cons_zero, set_cons_succ]
              refine wpAnyH_take (i := 6) (v := ?_) rfl (by kernel_rfl) (by kernel_rfl) (by kernel_rfl) (fun _ _ _ h => h) (Or.inl ⟨by rfl, ?_⟩) (by assumption) ?_; rotate_left; · (intro wq hSq; have hq := HCR.out wq hSq; go_split_ands; go_simp; (try with_reducible rfl))
              try simp only [Act.put, getElem_toArray, getElem_cons_zero, getElem_cons_succ, setIfInBounds_toArray, set_cons_zero, set_cons_succ]
              refine wpAnyH_take (i := 7) (v := ?_) rfl (by kernel_rfl) (by kernel_rfl) (by kernel_rfl) (fun _ _ _ h => h) (Or.inl ⟨by rfl, ?_⟩) (by assumption) ?_; rotate_left; · (intro wq hSq; have hq := HCR.out wq hSq; go_split_ands; go_simp; (try with_reducible rfl))
              try simp only [Act.put, getElem_toArray, getElem_cons_zero, getElem_cons_succ, setIfInBounds_toArray, set_cons_zero, set_cons_succ]
              refine wpAnyH_take (i := 8) (v := ?_) rfl (by kernel_rfl) (by kernel_rfl) (by kernel_rfl) (fun _ _ _ h => h) (Or.inl ⟨by rfl, ?_⟩) (by assumption) ?_; rotate_left; · (intro wq hSq; have hq := HCR.out wq hSq; go_split_ands; go_simp; (try with_reducible rfl))
              try simp only [Act.put, getElem_toArray, getElem_cons_zero, getElem_cons_succ, setIfInBounds_toArray, set_cons_zero, set_cons_succ]
              refine wpAnyH_take (i := 9) (v := ?_) rfl (by kernel_rfl) (by kernel_rfl) (by kernel_rfl) (fun _ _ _ h => h) (Or.inl ⟨by rfl, ?_⟩) (by assumption) ?_; rotate_left; · (intro wq hSq; have hq := HCR.out wq hSq; go_split_ands; go_simp; (try with_reducible rfl))
              try simp only [Act.put, getElem_toArray, getElem_cons_zero, getElem_cons_succ, setIfInBounds_toArray, set_cons_zero, set_cons_succ]
              refine wpAnyH_take (i := 10) (v := ?_) rfl (by kernel_rfl) (by kernel_rfl) (by kernel_rfl) (fun _ _ _ h => h) (Or.inl ⟨by rfl, ?_⟩) (by assumption) ?_; rotate_left; · (intro wq hSq; have hq := HCR.out wq hSq; go_split_ands; go_simp; (try with_reducible rfl))
              try simp only [Act.put, getElem_toArray, getElem_cons_zero, getElem_cons_succ, setIfInBounds_toArray, set_cons_zero, set_cons_succ]
              refine wpAnyH_take (i := 11) (v := ?_) rfl (by kernel_rfl) (by kernel_rfl) (by kernel_rfl) (fun _ _ _ h => h) (Or.inl ⟨by rfl, ?_⟩) (by assumption) ?_; rotate_left; · (intro wq hSq; have hq := HCR.out wq hSq; go_split_ands; go_simp; (try with_reducible rfl))
              try simp only [Act.put, getElem_toArray, getElem_cons_zero, getElem_cons_succ, setIfInBounds_toArray, set_cons_zero, set_cons_succ]
              refine wpAnyH_take (i := 12) (v := ?_) rfl (by kernel_rfl) (by kernel_rfl) (by kernel_rfl) (fun _ _ _ h => h) (Or.inl ⟨by rfl, ?_⟩) (by assumption) ?_; rotate_left; · (intro wq hSq; have hq := HCR.out wq hSq; go_split_ands; go_simp; (try with_reducible rfl))
              try simp only [Act.put, getElem_toArray, getElem_cons_zero, getElem_cons_succ, setIfInBounds_toArray, set_cons_zero, set_cons_succ]
              refine wpAnyH_take (i := 13) (v := ?_) rfl (by kernel_rfl) (by kernel_rfl) (by kernel_rfl) (fun _ _ _ h => h) (Or.inl ⟨by rfl, ?_⟩) (by assumption) ?_; rotate_left; · (intro wq hSq; have hq := HCR.out wq hSq; go_split_ands; go_simp; (try with_reducible rfl))
              try simp only [Act.put, getElem_toArray, getElem_cons_zero, getElem_cons_succ, setIfInBounds_toArray, set_cons_zero, set_cons_succ]
              refine wpAnyH_take (i := 14) (v := ?_) rfl (by kernel_rfl) (by kernel_rfl) (by kernel_rfl) (fun _ _ _ h => h) (Or.inl ⟨by rfl, ?_⟩) (by assumption) ?_; rotate_left; · (intro wq hSq; have hq := HCR.out wq hSq; go_split_ands; go_simp; (try with_reducible rfl))
              try simp only [Act.put, getElem_toArray, getElem_cons_zero, getElem_cons_succ, setIfInBounds_toArray, set_cons_zero, set_cons_succ]
              refine wpAnyH_take (i := 15) (v := ?_) rfl (by kernel_rfl) (by kernel_rfl) (by kernel_rfl) (fun _ _ _ h => h) (Or.inl ⟨by rfl, ?_⟩) (by assumption) ?_; rotate_left; · (intro wq hSq; have hq := HCR.out wq hSq; go_split_ands; go_simp; (try with_reducible rfl))
              try simp only [Act.put, getElem_toArray, getElem_cons_zero, getElem_cons_succ, setIfInBounds_toArray, set_cons_zero, set_cons_succ]
              refine wpAnyH_take (i := 16) (v := ?_) rfl (by kernel_rfl) (by kernel_rfl) (by kernel_rfl) (fun _ _ _ h => h) (Or.inl ⟨by rfl, ?_⟩) (by assumption) ?_; rotate_left; · (intro wq hSq; have hq := HCR.out wq hSq; go_split_ands; go_simp; (try with_reducible rfl))
              try simp only [Act.put, getElem_toArray, getElem_cons_zero, getElem_cons_succ, setIfInBounds_toArray, set_cons_zero, set_cons_succ]
              refine wpAnyH_take (i := 17) (v := ?_) rfl (by kernel_rfl) (by kernel_rfl) (by kernel_rfl) (fun _ _ _ h => h) (Or.inl ⟨by rfl, ?_⟩) (by assumption) ?_; rotate_left; · (intro wq hSq; have hq := HCR.out wq hSq; go_split_ands; go_simp; (try with_reducible rfl))
              try simp only [Act.put, getElem_toArray, getElem_cons_zero, getElem_cons_succ, setIfInBounds_toArray, set_cons_zero, set_cons_succ]
              refine wpAnyH_take (i := 18) (v := ?_) rfl (by kernel_rfl) (by kernel_rfl) (by kernel_rfl) (fun _ _ _ h => h) (Or.inl ⟨by rfl, ?_⟩) (by assumption) ?_; rotate_left; · (intro wq hSq; have hq := HCR.out wq hSq; go_split_ands; go_simp; (try with_reducible rfl))
              try simp only [Act.put, getElem_toArray, getElem_cons_zero, getElem_cons_succ, setIfInBounds_toArray, set_cons_zero, set_cons_succ]
              refine wpAnyH_ready (rs := [19]) (by kernel_rfl) (by simp) ?_
              refine AllReadyH.cons rfl (fun K hK => ?_) AllReadyH.nil
              try simp only [getElem_toArray, getElem_cons_zero, getElem_cons_succ]
              go_simp
              refine (HFD.out _ _ _ (HF6.out.trans' hHeld)).mono ?_
              rintro e w8 ⟨rfl, hF8⟩
              go_wp2_with fail
              refine hK.out _ _ (hHeld.trans' hF8) (fun hHeld => ?_)
              clear hK K
              try simp only [Act.put, setIfInBounds_toArray, set_cons_zero, set_cons_succ]
              refine wpAnyH_take (i := 20) (v := ?_) rfl (by kernel_rfl) (by kernel_rfl) (by kernel_rfl) (fun _ _ _ h => h) (Or.inl ⟨by rfl, ?_⟩) (by assumption) ?_; rotate_left; · (intro wq hSq; (try dsimp only at hSq); go_split_ands; go_simp; (try with_reducible rfl))
              try simp only [Act.put, getElem_toArray, getElem_cons_zero, getElem_cons_succ, setIfInBounds_toArray, set_cons_zero, set_cons_succ]
              refine wpAnyH_take (i := 21) (v := ?_) rfl (by kernel_rfl) (by kernel_rfl) (by kernel_rfl) (fun _ _ _ h => h) (Or.inl ⟨by rfl, ?_⟩) (by assumption) ?_; rotate_left; · (intro wq hSq; (try dsimp only at hSq); go_split_ands; go_simp; (try with_reducible rfl))
              try simp only [Act.put, getElem_toArray, getElem_cons_zero, getElem_cons_succ, setIfInBounds_toArray, set_cons_zero, set_cons_succ]
              refine wpAnyH_take (i := 22) (v := ?_) rfl (by kernel_rfl) (by kernel_rfl) (by kernel_rfl) (fun _ _ _ h => h) (Or.inl ⟨by rfl, ?_⟩) (by assumption) ?_; rotate_left; · (intro wq hSq; (try dsimp only at hSq); go_split_ands; go_simp; (try with_reducible rfl))
              try simp only [Act.put, getElem_toArray, getElem_cons_zero, getElem_cons_succ, setIfInBounds_toArray, set_cons_zero, set_cons_succ]
              refine wpAnyH_take (i := 23) (v := ?_) rfl (by kernel_rfl) (by kernel_rfl) (by kernel_rfl) (fun _ _ _ h => h) (Or.inl ⟨by rfl, ?_⟩) (by assumption) ?_; rotate_left; · (intro wq hSq; (try dsimp only at hSq); go_split_ands; go_simp; (try with_reducible rfl))
              try simp only [Act.put, getElem_toArray, getElem_cons_zero, getElem_cons_succ, setIfInBounds_toArray, set_cons_zero, set_cons_succ]
              refine wpAnyH_take (i := 24) (v := ?_) rfl (by kernel_rfl) (by kernel_rfl) (by kernel_rfl) (fun _ _ _ h => h) (Or.inl ⟨by rfl, ?_⟩) (by assumption) ?_; rotate_left; · (intro wq hSq; (try dsimp only at hSq); go_split_ands; go_simp; (try with_reducible rfl))
              try simp only [Act.put, getElem_toArray, getElem_cons_zero, getElem_cons_succ, setIfInBounds_toArray, set_cons_zero, set_cons_succ]
              refine wpAnyH_done (by kernel_rfl) ?_ _
              have HH := Lib.hid hHeld
              clear hHeld hF8
              go_wp2_with fail
              go_meet
              have e9 : IntKind.u16.wrap ((x0 : Int) + IntKind.u16.wrap (256 * (x1 : Int))) = xi := by
                rw [wrap_id16 (256 * (x1 : Int)) (by omega) (by omega), wrap_id16 _ (by omega) (by omega), HI.out]
              have e8 := HS.out
              refine ⟨?_, ?_, HH.out⟩
              · rw [e9, ← e8]
              · rw [e9, ← e8]
            case rest =>
              obtain ⟨rfl, rfl, hF8⟩ := hcut
              have HF8 := Lib.hid (HF6.out.trans' hF8)
              have HROW8 := Lib.hid (hF8.row HROW6.out (fun _ _ h => h))
              clear hF8 hu0 hu1 hx0 hx1 hx2 hb0 hb1 hb2 hw1 ht1 hz1 hy1 hw2 ht2 hz2 hy2 hw3 ht3 hz3 hy3 hw4 ht4 hz4 hy4 hw5 ht5 hz5 hy5 hw6 ht6 hz6 hy6 HROW6
              obtain ⟨wq, hwq⟩ : ∃ wq : World, wq = wc := ⟨_, rfl⟩
              subst hwq
              cases hf : findD d xi xs with
              | none =>
                have H4 := Lib.hid (HBAD.out 4 (fun r => by rw [gotD_none (by exact hf)]))
                have hne : (findC d xi xs != 0) = true := by
                  unfold findC
                  rw [hf]
                  simp only [Option.isSome_none, Bool.false_eq_true, if_false]
                  split <;> decide
                generalize findC d xi xs = cc at *
                clear hf
                go_wp2_with fail
                go_ret
                rw [E.out, if_pos (by rw [H4.out]; decide), H4.out]
                exact ⟨rfl, HD.out.grow HF8.out, HF8.out.mono (fun _ _ h => h.elim)⟩
              | some kk =>
                have hk := find_lt hf
                have hc0 : findC d xi xs = 0 := by unfold findC; rw [hf]; rfl
                rw [hc0]
                simp only [Option.getD_some]
                have hdk : d[kk]? = some d[kk] := List.getElem?_eq_getElem hk
                obtain ⟨gl, gv, cl, cv, h1, l1, l2, cL, cV'⟩ := HD.out.at_ hk
                have h1' := HG1.out
                rw [h1] at h1'
                simp only [Option.some.injEq, Obj.cells.injEq, Array.mk.injEq, List.cons.injEq, and_true, true_and, Value.slice.injEq, Addr.mk.injEq] at h1'
                obtain ⟨rfl, -, -⟩ := h1'
                have k2 : w.cell? ⟨gl, kk * 14 + 2, none⟩ = some (.int .i64 d[kk].1.acc) := cL 2 (by decide)
                have k11 : w.cell? ⟨gl, kk * 14 + 11, none⟩ = some (.int .i64 d[kk].1.df.ty) := cL 11 (by decide)
                have HCD := Lib.hid (fun W (hW : Frm (fun _ => False) w W) => (⟨(HCP.out W hW).1, (HCP.out W hW).2.2.1, hW.cell k2 (fun h => h), hW.cell k11 (fun h => h), Nat.lt_of_lt_of_le l1 hW.size⟩ : W.cell? ⟨p, 0, none⟩ = some (.slice (some ⟨gl, 0, none⟩) d.length cl) ∧ p < W.heap.size ∧ W.cell? ⟨gl, kk * 14 + 2, none⟩ = some (.int .i64 d[kk].1.acc) ∧ W.cell? ⟨gl, kk * 14 + 11, none⟩ = some (.int .i64 d[kk].1.df.ty) ∧ gl < W.heap.size))
                have HACC := Lib.hid (fun (h1 : d[kk].1.acc ≠ 2) => HBAD.out 4 (fun r => by rw [gotD_acc (x := (xi, xs, xb)) (by exact hf) hdk h1]))
                have HDEC := Lib.hid (fun (h1 : d[kk].1.acc = 2) (h2 : (decV d[kk].1.df.ty xb).2 ≠ 0) => HBAD.out 8 (fun r => by rw [gotD_dec (x := (xi, xs, xb)) (by exact hf) hdk h1 h2]))
                have HNEXT := Lib.hid (fun (h1 : d[kk].1.acc = 2) (h2 : (decV d[kk].1.df.ty xb).2 = 0) => HGOOD.out (kk, (decV d[kk].1.df.ty xb).1) (fun r => by rw [gotD_next (x := (xi, xs, xb)) (by exact hf) hdk h1 h2]))
                have HDE := Lib.hid (fun W (hW : Frm (fun _ => False) wq W) => rDec_any d[kk].1.df.ty (.slice A1 n ca) xb W ((HBM.out.grow HF8.out).grow hW) HXL'.out)
                have hkm : (kk : Int) < (d.length : Int) := by omega
                clear hf hc0 hdk h1 l1 l2 cL cV' k2 k11 HBAD HGOOD
                generalize d[kk].1.acc = ac at *
                generalize hty : d[kk].1.df.ty = ty at *
                clear hty
                generalize decV ty xb = dd at *
                obtain ⟨dv, de⟩ := dd
                unfold DecP valV at HDE
                simp only at HDE
                obtain ⟨q0, q1, q2, q3, q4⟩ := HCD.out wq HF8.out
                by_cases ha : ac = 2
                case neg =>
                  have b1 : (ac != 2) = true := by simpa using ha
                  have H4 := Lib.hid (HACC.out ha)
                  clear ha HACC HDEC HNEXT
                  go_wp2_with fail
                  go_ret
                  rw [E.out, if_pos (by rw [H4.out]; decide), H4.out]
                  exact ⟨rfl, HD.out.grow HF8.out, HF8.out.mono (fun _ _ h => h.elim)⟩
                case pos =>
                  have HDEC2 := Lib.hid (HDEC.out ha)
                  have HNEXT2 := Lib.hid (HNEXT.out ha)
                  have b1 : (ac != 2) = false := by simpa using ha
                  clear HACC HDEC HNEXT ha
                  go_upto_region 17 with fail
                  clear q0 q1 q2 q3 q4
                  have hw7 : IntKind.i64.wrap ((at' : Int) + 7) = (at' : Int) + 7 := wrap_id _ (by omega) (by omega)
                  have hwn : IntKind.i64.wrap ((at' : Int) + 7 + (n : Int)) = (at' : Int) + 7 + (n : Int) := wrap_id _ (by omega) (by omega)
                  go_cut [13, 14] (fun pv ev wz => DecC wq dv de pv ev wz)
                  case first =>
                    as_aux_lemma =>
                    have HCR := Lib.hid (fun W (h : Frm (fun _ => False) wq W) => HCD.out W (HF8.out.trans' h))
                    have hsl : ∀ W, (Instr.slice 33 (.slice (some ⟨g, off, none⟩) bs.length cap) (some (.int .i64 ((at' : Int) + 7))) (some (.int .i64 ((at' : Int) + 7 + (n : Int)))) none).run Try.prog W = .ok (.slice A1 n ca) W := fun W => HSL.out W _ _ (by omega) (by omega)
                    · skip
                      refine wp_region_held_drew (S := fun W => Frm (fun _ => False) wq W) (by kernel_rfl) ((Frm.refl _ _).drew) (fun hHeld => ?_)
                      refine wpAnyH_take (i := 0) (v := ?_) rfl (by kernel_rfl) (by kernel_rfl) (by kernel_rfl) (fun _ _ _ h => h) (Or.inl ⟨by rfl, ?_⟩) (by assumption) ?_; rotate_left; · (intro wq hSq; have hq := HCR.out wq hSq; go_split_ands; go_simp; (try with_reducible rfl))
                      try simp only [Act.put, getElem_toArray, getElem_cons_zero, getElem_cons_succ, setIfInBounds_toArray, set_cons_zero, set_cons_succ]
                      refine wpAnyH_take (i := 1) (v := ?_) rfl (by kernel_rfl) (by kernel_rfl) (by kernel_rfl) (fun _ _ _ h => h) (Or.inl ⟨by rfl, ?_⟩) (by assumption) ?_; rotate_left; · (intro wq hSq; have hq := HCR.out wq hSq; go_split_ands; go_simp; (try with_reducible rfl))
                      try simp only [Act.put, getElem_toArray, getElem_cons_zero, getElem_cons_succ, setIfInBounds_toArray, set_cons_zero, set_cons_succ]
                      refine wpAnyH_take (i := 2) (v := ?_) rfl (by kernel_rfl) (by kernel_rfl) (by kernel_rfl) (fun _ _ _ h => h) (Or.inl ⟨by rfl, ?_⟩) (by assumption) ?_; rotate_left; · (intro wq hSq; have hq := HCR.out wq hSq; go_split_ands; go_simp; (try with_reducible rfl))
                      try simp only [Act.put, getElem_toArray, getElem_cons_zero, getElem_cons_succ, setIfInBounds_toArray, set_cons_zero, set_cons_succ]
                      refine wpAnyH_take (i := 3) (v := ?_) rfl (by kernel_rfl) (by kernel_rfl) (by kernel_rfl) (fun _ _ _ h => h) (Or.inl ⟨by rfl, ?_⟩) (by assumption) ?_; rotate_left; · (intro wq hSq; have hq := HCR.out wq hSq; go_split_ands; go_simp; (try with_reducible rfl))
                      try simp only [Act.put, getElem_toArray, getElem_cons_zero, getElem_cons_succ, setIfInBounds_toArray, set_cons_zero, set_cons_succ]
                      refine wpAnyH_take (i := 4) (v := ?_) rfl (by kernel_rfl) (by kernel_rfl) (by kernel_rfl) (fun _ _ _ h => h) (Or.inl ⟨by rfl, ?_⟩) (by assumption) ?_; rotate_left; · (intro wq hSq; have hq := HCR.out wq hSq; go_split_ands; go_simp; (try with_reducible rfl))
                      try simp only [Act.put, getElem_toArray, getElem_cons_zero, getElem_cons_succ, setIfInBounds_toArray, set_cons_zero, set_cons_succ]
                      refine wpAnyH_take (i := 5) (v := ?_) rfl (by kernel_rfl) (by kernel_rfl) (by kernel_rfl) (fun _ _ _ h => h) (Or.inl ⟨by rfl, ?_⟩) (by assumption) ?_; rotate_left; · (intro wq hSq; have hq := HCR.out wq hSq; go_split_ands; go_simp; (try with_reducible rfl))
                      try simp only [Act.put, getElem_toArray, getElem_cons_zero, getElem_cons_succ, setIfInBounds_toArray, set_cons_zero, set_cons_succ]
                      refine wpAnyH_take (i := 6) (v := ?_) rfl (by kernel_rfl) (by kernel_rfl) (by kernel_rfl) (fun _ _ _ h => h) (Or.inl ⟨by rfl, ?_⟩) (by assumption) ?_; rotate_left; · (intro wq hSq; have hq := HCR.out wq hSq; go_split_ands; go_simp; (try with_reducible rfl))
                      try simp only [Act.put, getElem_toArray, getElem_cons_zero, getElem_cons_succ, setIfInBounds_toArray, set_cons_zero, set_cons_succ]
                      refine wpAnyH_take (i := 7) (v := ?_) rfl (by kernel_rfl) (by kernel_rfl) (by kernel_rfl) (fun _ _ _ h => h) (Or.inl ⟨by rfl, ?_⟩) (by assumption) ?_; rotate_left; · (intro wq hSq; have hq := HCR.out wq hSq; go_split_ands; go_simp; (try with_reducible rfl))
                      try simp only [Act.put, getElem_toArray, getElem_cons_zero, getElem_cons_succ, setIfInBounds_toArray, set_cons_zero, set_cons_succ]
                      refine wpAnyH_take (i := 8) (v := ?_) rfl (by kernel_rfl) (by kernel_rfl) (by kernel_rfl) (fun _ _ _ h => h) (Or.inl ⟨by rfl, ?_⟩) (by assumption) ?_; rotate_left; · (intro wq hSq; have hq := HCR.out wq hSq; go_split_ands; go_simp; (try with_reducible rfl))
                      try simp only [Act.put, getElem_toArray, getElem_cons_zero, getElem_cons_succ, setIfInBounds_toArray, set_cons_zero, set_cons_succ]
                      refine wpAnyH_take (i := 9) (v := ?_) rfl (by kernel_rfl) (by kernel_rfl) (by kernel_rfl) (fun _ _ _ h => h) (Or.inl ⟨by rfl, ?_⟩) (by assumption) ?_; rotate_left; · (intro wq hSq; have hq := HCR.out wq hSq; go_split_ands; go_simp; (try with_reducible rfl))
                      try simp only [Act.put, getElem_toArray, getElem_cons_zero, getElem_cons_succ, setIfInBounds_toArray, set_cons_zero, set_cons_succ]
                      refine wpAnyH_take (i := 10) (v := ?_) rfl (by kernel_rfl) (by kernel_rfl) (by kernel_rfl) (fun _ _ _ h => h) (Or.inl ⟨by rfl, ?_⟩) (by assumption) ?_; rotate_left; · (intro wq hSq; have hq := HCR.out wq hSq; go_split_ands; go_simp; (try with_reducible rfl))
                      try simp only [Act.put, getElem_toArray, getElem_cons_zero, getElem_cons_succ, setIfInBounds_toArray, set_cons_zero, set_cons_succ]
                      refine wpAnyH_take (i := 11) (v := ?_) rfl (by kernel_rfl) (by kernel_rfl) (by kernel_rfl) (fun _ _ _ h => h) (Or.inl ⟨by rfl, ?_⟩) (by assumption) ?_; rotate_left; · (intro wq hSq; have hq := HCR.out wq hSq; go_split_ands; go_simp; (try with_reducible rfl))
                      try simp only [Act.put, getElem_toArray, getElem_cons_zero, getElem_cons_succ, setIfInBounds_toArray, set_cons_zero, set_cons_succ]
                      refine wpAnyH_take (i := 12) (v := ?_) rfl (by kernel_rfl) (by kernel_rfl) (by kernel_rfl) (fun _ _ _ h => h) (Or.inl ⟨by rfl, ?_⟩) (by assumption) ?_; rotate_left; · (intro wq hSq; have hq := HCR.out wq hSq; go_split_ands; go_simp; (try with_reducible rfl))
                      try simp only [Act.put, getElem_toArray, getElem_cons_zero, getElem_cons_succ, setIfInBounds_toArray, set_cons_zero, set_cons_succ]
                      refine wpAnyH_take (i := 13) (v := ?_) rfl (by kernel_rfl) (by kernel_rfl) (by kernel_rfl) (fun _ _ _ h => h) (Or.inl ⟨by rfl, ?_⟩) (by assumption) ?_; rotate_left; · (intro wq hSq; have hq := HCR.out wq hSq; go_split_ands; go_simp; (try with_reducible rfl))
                      try simp only [Act.put, getElem_toArray, getElem_cons_zero, getElem_cons_succ, setIfInBounds_toArray, set_cons_zero, set_cons_succ]
                      refine wpAnyH_take (i := 14) (v := ?_) rfl (by kernel_rfl) (by kernel_rfl) (by kernel_rfl) (fun _ _ _ h => h) (Or.inl ⟨by rfl, ?_⟩) (by assumption) ?_; rotate_left; · (intro wq hSq; have hq := HCR.out wq hSq; go_split_ands; go_simp; (try with_reducible rfl))
                      try simp only [Act.put, getElem_toArray, getElem_cons_zero, getElem_cons_succ, setIfInBounds_toArray, set_cons_zero, set_cons_succ]
                      refine wpAnyH_take (i := 15) (v := ?_) rfl (by kernel_rfl) (by kernel_rfl) (by kernel_rfl) (fun _ _ _ h => h) (Or.inl ⟨by rfl, ?_⟩) (by assumption) ?_; rotate_left; · (intro wq hSq; have hq := HCR.out wq hSq; go_split_ands; go_simp; (try with_reducible rfl))
                      try simp only [Act.put, getElem_toArray, getElem_cons_zero, getElem_cons_succ, setIfInBounds_toArray, set_cons_zero, set_cons_succ]
                      refine wpAnyH_take (i := 16) (v := ?_) rfl (by kernel_rfl) (by kernel_rfl) (by kernel_rfl) (fun _ _ _ h => h) (Or.inl ⟨by rfl, ?_⟩) (by assumption) ?_; rotate_left; · (intro wq hSq; have hq := HCR.out wq hSq; go_split_ands; go_simp; (try with_reducible rfl))
                      try simp only [Act.put, getElem_toArray, getElem_cons_zero, getElem_cons_succ, setIfInBounds_toArray, set_cons_zero, set_cons_succ]
                      refine wpAnyH_ready (rs := [17, 21]) (by kernel_rfl) (by simp) ?_
                      refine AllReadyH.cons rfl (fun K hK => ?_) (AllReadyH.cons rfl (fun K hK => ?_) AllReadyH.nil)
                      · try simp only [getElem_toArray, getElem_cons_zero, getElem_cons_succ]
                        go_simp
                        refine (HDE.out _ hHeld).mono ?_
                        rintro e w6 ⟨rfl, hF6⟩
                        go_wp2_with fail
                        refine hK.out _ _ (hHeld.trans' hF6) (fun hHeld => ?_)
                        clear hK K
                        try simp only [Act.put, setIfInBounds_toArray, set_cons_zero, set_cons_succ]
                        refine wpAnyH_take (i := 18) (v := ?_) rfl (by kernel_rfl) (by kernel_rfl) (by kernel_rfl) (fun _ _ _ h => h) (Or.inl ⟨by rfl, ?_⟩) (by assumption) ?_; rotate_left; · (intro wq hSq; have hq := HCR.out wq hSq; go_split_ands; go_simp; (try with_reducible rfl))
                        try simp only [Act.put, getElem_toArray, getElem_cons_zero, getElem_cons_succ, setIfInBounds_toArray, set_cons_zero, set_cons_succ]
                        refine wpAnyH_take (i := 19) (v := ?_) rfl (by kernel_rfl) (by kernel_rfl) (by kernel_rfl) (fun _ _ _ h => h) (Or.inl ⟨by rfl, ?_⟩) (by assumption) ?_; rotate_left; · (intro wq hSq; have hq := HCR.out wq hSq; go_split_ands; go_simp; (try with_reducible rfl))
                        try simp only [Act.put, getElem_toArray, getElem_cons_zero, getElem_cons_succ, setIfInBounds_toArray, set_cons_zero, set_cons_succ]
                        refine wpAnyH_take (i := 20) (v := ?_) rfl (by kernel_rfl) (by kernel_rfl) (by kernel_rfl) (fun _ _ _ h => h) (Or.inl ⟨by rfl, ?_⟩) (by assumption) ?_; rotate_left; · (intro wq hSq; have hq := HCR.out wq hSq; go_split_ands; go_simp; (try with_reducible rfl))
                        try simp only [Act.put, getElem_toArray, getElem_cons_zero, getElem_cons_succ, setIfInBounds_toArray, set_cons_zero, set_cons_succ]
                        have hH6 := hHeld
                        refine wpAnyH_ready (rs := [21]) (by kernel_rfl) (by simp) ?_
                        refine AllReadyH.cons rfl (fun K hK => ?_) AllReadyH.nil
                        try simp only [getElem_toArray, getElem_cons_zero, getElem_cons_succ]
                        go_simp
                        refine hK.out _ _ (hHeld.alloc _) (fun hHeld => ?_)
                        clear hK K
                        try simp only [Act.put, setIfInBounds_toArray, set_cons_zero, set_cons_succ]
                        refine wpAnyH_ready (rs := [22]) (by kernel_rfl) (by simp) ?_
                        refine AllReadyH.cons rfl (fun K hK => ?_) AllReadyH.nil
                        try simp only [getElem_toArray, getElem_cons_zero, getElem_cons_succ]
                        go_simp
                        refine hK.out _ _ (hH6.alloc _) (fun hHeld => ?_)
                        clear hK K
                        try simp only [Act.put, setIfInBounds_toArray, set_cons_zero, set_cons_succ]
                        refine wpAnyH_take (i := 23) (v := ?_) rfl (by kernel_rfl) (by kernel_rfl) (by kernel_rfl) (fun _ _ _ h => h) (Or.inl ⟨by rfl, ?_⟩) (by assumption) ?_; rotate_left; · (intro wq hSq; have hq := HCR.out wq hSq; go_split_ands; go_simp; (try with_reducible rfl))
                        try simp only [Act.put, getElem_toArray, getElem_cons_zero, getElem_cons_succ, setIfInBounds_toArray, set_cons_zero, set_cons_succ]
                        refine wpAnyH_done (by kernel_rfl) ?_ _
                        have hB6 := Lib.hid (heap_new w6 (.cells #[.int .i64 dv.ty, .int .u64 dv.n, .string (strB2 dv.b)] 36))
                        have hyF := Lib.hid (hH6.alloc (.cells #[.int .i64 dv.ty, .int .u64 dv.n, .string (strB2 dv.b)] 36))
                        have hs6 := Lib.hid hH6.size
                        clear hHeld hH6 hF6
                        go_wp2_with fail
                        go_meet
                        exact ⟨_, rfl, rfl, hB6.out, hyF.out, hs6.out⟩
                      · try simp only [getElem_toArray, getElem_cons_zero, getElem_cons_succ]
                        go_simp
                        refine hK.out _ _ (hHeld.alloc _) (fun hHeld => ?_)
                        clear hK K
                        try simp only [Act.put, setIfInBounds_toArray, set_cons_zero, set_cons_succ]
                        refine wpAnyH_ready (rs := [17]) (by kernel_rfl) (by simp) ?_
                        refine AllReadyH.cons rfl (fun K hK => ?_) AllReadyH.nil
                        try simp only [getElem_toArray, getElem_cons_zero, getElem_cons_succ]
                        go_simp
                        refine (HDE.out _ hHeld).mono ?_
                        rintro e w6 ⟨rfl, hF6⟩
                        have kz : w6.heap[wq.heap.size]? = some (.cells #[.int .i64 0, .int .u64 0, .string ⟨#[]⟩] 36 (0, 0)) := hF6.heap (by first | exact heap_new wq.drew _ | exact heap_drew' (heap_new wq _) | exact heap_drew' (heap_new_at rfl)) (fun h => h)
                        go_wp2_with fail
                        refine hK.out _ _ (hHeld.trans' hF6) (fun hHeld => ?_)
                        clear hK K
                        try simp only [Act.put, setIfInBounds_toArray, set_cons_zero, set_cons_succ]
                        refine wpAnyH_take (i := 18) (v := ?_) rfl (by kernel_rfl) (by kernel_rfl) (by kernel_rfl) (fun _ _ _ h => h) (Or.inl ⟨by rfl, ?_⟩) (by assumption) ?_; rotate_left; · (intro wq hSq; have hq := HCR.out wq hSq; go_split_ands; go_simp; (try with_reducible rfl))
                        try simp only [Act.put, getElem_toArray, getElem_cons_zero, getElem_cons_succ, setIfInBounds_toArray, set_cons_zero, set_cons_succ]
                        refine wpAnyH_take (i := 19) (v := ?_) rfl (by kernel_rfl) (by kernel_rfl) (by kernel_rfl) (fun _ _ _ h => h) (Or.inl ⟨by rfl, ?_⟩) (by assumption) ?_; rotate_left; · (intro wq hSq; have hq := HCR.out wq hSq; go_split_ands; go_simp; (try with_reducible rfl))
                        try simp only [Act.put, getElem_toArray, getElem_cons_zero, getElem_cons_succ, setIfInBounds_toArray, set_cons_zero, set_cons_succ]
                        refine wpAnyH_take (i := 20) (v := ?_) rfl (by kernel_rfl) (by kernel_rfl) (by kernel_rfl) (fun _ _ _ h => h) (Or.inl ⟨by rfl, ?_⟩) (by assumption) ?_; rotate_left; · (intro wq hSq; have hq := HCR.out wq hSq; go_split_ands; go_simp; (try with_reducible rfl))
                        try simp only [Act.put, getElem_toArray, getElem_cons_zero, getElem_cons_succ, setIfInBounds_toArray, set_cons_zero, set_cons_succ]
                        have n0 : w6.cell? ⟨wq.heap.size, 0, none⟩ = some (.int .i64 0) := cell_at kz
                        have n1 : w6.cell? ⟨wq.heap.size, 1, none⟩ = some (.int .u64 0) := cell_at kz
                        have n2 : w6.cell? ⟨wq.heap.size, 2, none⟩ = some (.string ⟨#[]⟩) := cell_at kz
                        have nf := frees kz
                        refine wpAnyH_ready (rs := [22]) (by kernel_rfl) (by simp) ?_
                        refine AllReadyH.cons rfl (fun K hK => ?_) AllReadyH.nil
                        try simp only [getElem_toArray, getElem_cons_zero, getElem_cons_succ]
                        go_simp
                        refine hK.out _ _ (((hHeld.setCell (p := ⟨wq.heap.size, 0, none⟩) (fun h => absurd h (Nat.lt_irrefl _)) _).setCell (p := ⟨wq.heap.size, 1, none⟩) (fun h => absurd h (Nat.lt_irrefl _)) _).setCell (p := ⟨wq.heap.size, 2, none⟩) (fun h => absurd h (Nat.lt_irrefl _)) _) (fun hHeld => ?_)
                        clear hK K
                        try simp only [Act.put, setIfInBounds_toArray, set_cons_zero, set_cons_succ]
                        refine wpAnyH_take (i := 23) (v := ?_) rfl (by kernel_rfl) (by kernel_rfl) (by kernel_rfl) (fun _ _ _ h => h) (Or.inl ⟨by rfl, ?_⟩) (by assumption) ?_; rotate_left; · (intro wq hSq; have hq := HCR.out wq hSq; go_split_ands; go_simp; (try with_reducible rfl))
                        try simp only [Act.put, getElem_toArray, getElem_cons_zero, getElem_cons_succ, setIfInBounds_toArray, set_cons_zero, set_cons_succ]
                        refine wpAnyH_done (by kernel_rfl) ?_ _
                        have hB6 := Lib.hid (store3c (c0 := .int .i64 dv.ty) (c1 := .int .u64 dv.n) (c2 := .string (strB2 dv.b)) kz)
                        have hyF := Lib.hid hHeld
                        clear hHeld hF6 kz n0 n1 n2 nf
                        go_wp2_with fail
                        go_meet
                        exact ⟨_, rfl, rfl, hB6.out, hyF.out, Nat.le_refl _⟩
                  case rest =>
                    obtain ⟨gb, rfl, rfl, hB, hFc, hgb⟩ := hcut
                    have f0 : wc.cell? ⟨gb, 0, none⟩ = some (.int .i64 dv.ty) := cell_at hB
                    have f1 : wc.cell? ⟨gb, 1, none⟩ = some (.int .u64 dv.n) := cell_at hB
                    have f2 : wc.cell? ⟨gb, 2, none⟩ = some (.string (strB2 dv.b)) := cell_at hB
                    have hgbl := lt_of_block hB
                    have HFC := Lib.hid (HF8.out.trans' hFc)
                    have HROWC := Lib.hid (hFc.row HROW8.out (fun _ _ h => h))
                    clear hB hFc HDE HROW8 HCD HSL
                    obtain ⟨wq, hwq⟩ : ∃ wq : World, wq = wc := ⟨_, rfl⟩
                    subst hwq
                    by_cases hde : de = 0
                    case neg =>
                      have H8 := Lib.hid (HDEC2.out hde)
                      have b2 : (de != 0) = true := by simpa using hde
                      clear hde HDEC2 HNEXT2
                      go_wp2_with fail
                      go_ret
                      rw [E.out, if_pos (by rw [H8.out]; decide), H8.out]
                      exact ⟨rfl, HD.out.grow HFC.out, HFC.out.mono (fun _ _ h => h.elim)⟩
                    case pos =>
                      subst hde
                      have HN := Lib.hid (HNEXT2.out rfl)
                      obtain ⟨A7, c7, e7, _, _, q7⟩ := row_open HROWC.out
                      simp only [Value.slice.injEq] at e7
                      obtain ⟨rfl, -, rfl⟩ := e7
                      obtain ⟨g5, rfl, hg5b, ⟨cur5, hc5⟩, _, hcc7⟩ := q7 (by omega)
                      have hl7 : (cellsOf cellsV ((putAll d (gotD d pre).2).map (·.2))).length = d.length * 3 := by rw [cellsOf_length (sz := 3) (fun v => rfl), List.length_map, putAll_len]
                      have f : ∀ o, o < 3 → ∃ z, wq.cell? ⟨g5, kk * 3 + o, none⟩ = some z := fun o ho => ⟨_, (hcc7 _ (by omega)).trans (List.getElem?_eq_getElem (by omega))⟩
                      obtain ⟨z0, n0⟩ := f 0 (by omega)
                      obtain ⟨z1, n1⟩ := f 1 (by omega)
                      obtain ⟨z2, n2⟩ := f 2 (by omega)
                      have n0 : wq.cell? ⟨g5, kk * 3, none⟩ = some z0 := n0
                      have nf := frees hc5
                      have hgl5 := lt_of_block hc5
                      have HRZ := Lib.hid (row_set3 (k := kk) HROWC.out (by rw [List.length_map, putAll_len]) (by omega) dv)
                      have HSND := Lib.hid (putAll_snd (ps := (gotD d pre).2) hk dv)
                      have HG5 := Lib.hid hg5b
                      clear hcc7 q7 hl7 f hc5 HDEC2 HNEXT2 hg5b
                      go_wp2_with fail
                      go_roundw
                      case rel =>
                        refine ⟨at' + 7 + n, pre ++ [(xi, xs, xb)], rest', hgo, by go_num, by rw [HLS.out]; simp, by rw [HSN.out]; exact HPRN.out, by rw [HN.out], ?_, ?_⟩
                        · rw [HN.out, HSND.out]
                          exact HRZ.out
                        · exact HFC.out.trans (T := One g5) ((((Frm.refl _ _).set1 _).set1 _).set1 _) (fun i hi e => by cases e; exact absurd hi (Nat.not_lt.2 HG5.out))
                      case measure => simp [intOf]; omega
        · have hz : (bs.drop at').length = 0 := by rw [HDL.out]; omega
          have hre : rest = [] := by
            have := HPR.out
            rw [prt_done _ _ hz] at this
            exact (Option.some.inj this).symm
          subst hre
          have hlp : ls = pre := by rw [HLS.out, List.append_nil]
          subst hlp
          have E2 : Hid (rr = (putAll d (gotD d ls).2, 0)) := by unfold Hid; rw [E.out, if_neg (by rw [HG0.out]; decide)]
          obtain ⟨q0, q1, q2, q3⟩ := HCP.out wr HFR.out
          have HPW := Lib.hid (HFR.out.heap HG1.out (fun h => h))
          clear hz
          go_wp2_with fail
          go_ret
          rw [E2.out]
          have hFp : Frm (One p) wr (wr.setCell ⟨p, 1, none⟩ (.slice A5 d.length c5)) := (Frm.refl _ _).set1 _
          refine ⟨rfl, ⟨_, _, heap_set_at HPW.out rfl, ?_, ?_⟩, (HFR.out.mono (fun _ _ h => h.elim)).trans' hFp⟩
          · rw [putAll_fst, putAll_len]
            refine hFp.row (HFR.out.row HG2.out (fun _ _ h => h)) (fun j hj e => ?_)
            have e : j = p := e
            subst e
            obtain ⟨_, cur, hc⟩ := row_block HG2.out hj
            exact block_ne hc HG1.out (by decide) rfl
          · rw [putAll_len]
            refine hFp.row (row_base HROW.out HBB.out) (fun j hj e => ?_)
            have e : j = p := e
            subst e
            obtain ⟨_, cur, hc⟩ := row_block HROW.out hj
            exact block_ne hc HPW.out (by decide) rfl
end Go.Proofs.Ytemjdmgfilbfaaa
