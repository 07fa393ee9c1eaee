/-
  OdKept: the law. (Printed by wip/gen_ke.py.)
-/
import Derived.Test.YtemjdmgfilbfaaaM2a8e0fa2
set_option linter.unusedVariables false
set_option linter.unusedSimpArgs false
namespace Go.Proofs.Ytemjdmgfilbfaaa
open Go.RowKit
open List (getElem_toArray getElem_cons_zero getElem_cons_succ setIfInBounds_toArray set_cons_zero set_cons_succ)
set_option linter.unusedVariables false
set_option linter.unusedSimpArgs false

set_option maxRecDepth 100000 in
set_option maxHeartbeats 4000000 in
theorem kept_any (v0 v1 : Value) (xs : List En) (acs : List ActO) (W : World) (h0 : SlAt cellsE 14 W v0 xs) (hx : ∀ x ∈ xs, x.ok) (hby : xs.length * 120 ≤ 140737488351232) (h1 : SlAt encO 8 W v1 acs) (hg : ∀ a ∈ acs, a.good W) :
    Calls Try.prog 6 #[v0, v1] W fun e w' => e = .returned (.bool true) ∧ Frm (fun _ => False) W w' := by
  have HX := Lib.hid hx
  have HBEG := Lib.hid (begins_any v0 xs W h0 hx hby)
  obtain ⟨A, cap, rfl, hc1, hc2, hnews, hlen⟩ := news_entries h0
  have HNW := Lib.hid hnews
  have HLEN := Lib.hid hlen
  have HONE := Lib.hid (oneE xs)
  have hm1 : 0 + xs.length ≤ maxLen := by omega
  have hm2 : (0 + xs.length) * 120 ≤ 140737488355328 := by omega
  have HNEW := Lib.hid (fun v W h => odNew_any v xs W h hx)
  have H0 := Lib.hid h0
  have HLV := Lib.hid (fun W => livesO_any W)
  obtain ⟨A1, cap1, rfl, b1, b2, hA1⟩ := h1
  have HA1 := Lib.hid hA1
  have HG := Lib.hid hg
  unfold BeginP at HBEG
  unfold ONewP at HNEW
  have ha63 : acs.length ≤ 9223372036854775807 := Nat.le_trans b1 b2
  have hx63 : xs.length ≤ 9223372036854775807 := Nat.le_trans hc1 hc2
  clear hby hg hA1 hc1 hc2 b1 b2 hx h0 hnews hlen
  by_cases hz : checkE xs = 0
  case neg =>
    have HZ := Lib.hid hz
    clear hz
    go_enter Try.func6, Try.ntmps6
    go_wp2_with (first | (go_at_call 19; refine HBEG.out.mono ?_; rintro e w2 ⟨hF2, ⟨hne, rfl⟩ | h⟩; rotate_left; exact absurd h.1 HZ.out; have HF2 := Lib.hid hF2) | (go_at_call 14; refine (HLV.out _).mono ?_; rintro e w4 ⟨rfl, hF4⟩))
    go_ret
    exact ⟨rfl, HF2.out.trans' hF4⟩
  case pos =>
    have HFN := Lib.hid (Fit.new hz HX.out)
    have HGN := Lib.hid (GoodD.new hz)
    have HZ := Lib.hid hz
    have hxl : xs.length ≤ 1024 := (check_facts hz).1
    clear hz
    go_enter Try.func6, Try.ntmps6
    go_upto_region 6 with (go_at_call 19; refine HBEG.out.mono ?_; rintro e w2 ⟨hF2, h | ⟨-, a, b, p, l, N, rfl, hPa, hD, hl, hDR, hb0, hbN, hlN, hpN, haN⟩⟩; exact absurd HZ.out h.1; have HF2 := Lib.hid hF2; have HL := Lib.hid hl; have HB0 := Lib.hid hb0; have HPR0 : Hid (Pr w2 a b p N l (newD xs)) := ⟨hPa, hD, hDR, hbN, hlN, hpN⟩; unfold ptr)
    have HNB : Hid (N ≤ w2.heap.size) := Nat.le_trans HPR0.out.pB (Nat.le_of_lt HPR0.out.r.lt)
    clear hF2 hPa hD hl hb0 hbN hlN hDR hpN haN HBEG
    go_wp2_with fail
    go_loopw [7] (fun i wr => ∃ (k : Nat) (l1 : List (Nat × Im)) (d : List Im), k ≤ acs.length ∧ i = .int .i64 k ∧ Pr wr a b p N l1 d ∧ im l1 = d ∧ Fit d ∧ GoodD d ∧ d.map (·.1) = (newD xs).map (·.1) ∧ Frm (fun _ => False) W wr ∧ N ≤ wr.heap.size) (fun i _ => acs.length - (intOf i).toNat)
    case atStart => exact ⟨0, l, newD xs, Nat.zero_le _, rfl, HPR0.out, HL.out, HFN.out, HGN.out, rfl, HF2.out, HNB.out⟩
    case round =>
      obtain ⟨k, l1, d, hk, rfl, hP, hI, hfit, hgd, hdf, hF, hN⟩ := hrel
      have HP := Lib.hid hP
      have HI := Lib.hid hI
      have HFIT := Lib.hid hfit
      have HGD := Lib.hid hgd
      have HDF := Lib.hid hdf
      have HFR := Lib.hid hF
      have HN := Lib.hid hN
      by_cases hlt : k < acs.length
      · obtain ⟨g, off, rfl, hgl, hcell⟩ := HA1.out (by omega)
        have hga := HG.out _ (List.getElem_mem hlt)
        have q := fun j hj => hF.cell ((hcell k hlt j hj).trans (List.getElem?_eq_getElem (by rw [encO_len]; exact hj))) (fun h => h)
        generalize acs[k] = act at *
        have HKL : Hid (k + 1 ≤ acs.length) := hlt
        have q0 := q 0 (by decide)
        have q1 := q 1 (by decide)
        have q2 := q 2 (by decide)
        have q3 := q 3 (by decide)
        have q4 := q 4 (by decide)
        have q5 := q 5 (by decide)
        have q6 := q 6 (by decide)
        have q7 := q 7 (by decide)
        simp only [encO, getElem_cons_succ, getElem_cons_zero, Nat.add_zero] at q0 q1 q2 q3 q4 q5 q6 q7
        have hgl2 := Nat.lt_of_lt_of_le hgl hF.size
        have hgv := hga.2.2.2.2.2.2.1
        have HDO := Lib.hid (does_any act.kind a b p N l1 d act.idx act.sub act.bv act.bs act.v act.n wr hP hI hfit hN (arg_of hP HB0.out hF hga))
        have HFD := Lib.hid (hfit.does act.kind act.idx act.sub act.bs act.v act.n hgv)
        have HGX := Lib.hid (hgd.does hfit.pl act.kind act.idx act.sub act.bs act.v act.n)
        have HDX := Lib.hid ((doD_fst d act.kind act.idx act.sub act.bs act.v act.n hgv).trans hdf)
        have hsx : ∀ w2, Frm (Sx l1 p) wr w2 → Frm (fun _ => False) W w2 := fun w2 h => hF.trans h (fun i hi hs => absurd hi (Nat.not_lt.2 (Nat.le_trans HB0.out (hP.ge hs))))
        have HSX := Lib.hid hsx
        generalize doD d act.kind act.idx act.sub act.bs act.v act.n = d2 at *
        obtain ⟨A3, c3, e3, _, _, _⟩ := hga.2.2.2.2.1.open_
        rw [e3] at q3 HDO
        unfold DoesP at HDO
        unfold ptr at HDO
        clear hP hI hfit hgd hdf hF hN hga hgv hcell q e3 hsx
        go_wp2_with (go_at_call 23; refine HDO.out.mono ?_; rintro e w5 ⟨rfl, l5, hP5, hi5, hf5, hF5⟩; clear q0 q1 q2 q3 q4 q5 q6 q7; have HP5 := Lib.hid hP5; have HI5 := Lib.hid hi5; have HS5 := Lib.hid hF5.size; have HF5 := Lib.hid (HSX.out _ hF5); clear hP5 hi5 hf5 hF5)
        go_roundw
        case rel => exact ⟨k + 1, l5, d2, HKL.out, by go_num, HP5.out, HI5.out, HFD.out, HGX.out, HDX.out, HF5.out, Nat.le_trans HN.out HS5.out⟩
        case measure => have := HKL.out; simp [intOf]; omega
      · obtain ⟨h1, h2, h3⟩ := load_save hdf HFN.out.ok hfit.ok hgd
        have HSVE := Lib.hid (save_load hdf HFN.out.ok hfit.ok hgd)
        have HGB := Lib.hid (fun (x : En) hm => get_both HX.out hdf HFN.out.ok hfit.ok hgd (x := x) hm)
        have HDL := Lib.hid (load_ok HFN.out.ok (saveD d))
        have HLO := Lib.hid (fun b2 l2 u W (hW : DAt W b2 l2) (hi : im l2 = newD xs) (hu : BytesAt W u (saveD d)) => odLoad_any b2 l2 u (saveD d) W hW (by rw [hi]; exact HFN.out.ok) hu (by
          have h8 := saveD_len d
          have h9 : d.length * 65543 ≤ 1024 * 65543 := Nat.mul_le_mul_right _ HFIT.out.len
          omega))
        have HSP1 := Lib.hid (fun W (hW : DAt W b l1) => odSave_any b l1 W hW (by rw [HI.out]; exact HFIT.out.ok))
        unfold LoadP at HLO
        unfold SaveP at HSP1
        rw [HI.out] at HSP1
        have HLO2 : Hid (∀ (b2 : Nat) (l2 : List (Nat × Im)) (u : Value) (W : World), DAt W b2 l2 → im l2 = newD xs → BytesAt W u (saveD d) → Calls Try.prog 24 #[.pointer (some ⟨b2, 0, none⟩), u] W fun e w' => e = .returned (.int .i64 0) ∧ ∃ l', DAt w' b2 l' ∧ im l' = (loadD (newD xs) (saveD d)).1 ∧ l'.map (·.1) = l2.map (·.1) ∧ Frm (fun j => ∃ q ∈ l2, j = q.1) W w') := fun b2 l2 u W hW hi hu => by
          have h9 := HLO.out b2 l2 u W hW hi hu
          rw [hi, h1] at h9
          exact h9
        have HCK := HZ
        unfold ptr at HSP1
        generalize (loadD (newD xs) (saveD d)).1 = dl at *
        have hDb := hP.d1
        have q0 : wr.cell? ⟨a, 0, none⟩ = some (.pointer (some ⟨b, 0, none⟩)) := cell_at hP.hp
        have hal := lt_of_block hP.hp
        have HBL := Lib.hid (fun q hq => hDb.lt q hq)
        have HBB := Lib.hid hDb.blt
        clear h1 h2 h3 hP hI hfit hgd hdf hF hN hDb HLO
        obtain ⟨wo, hwo⟩ : ∃ wo : World, wo = wr := ⟨_, rfl⟩
        subst hwo
        go_upto_region 12 with (first | (at_builtin; refine wpl_app_src rfl el_Entry (.tmp 39) (.tmp 40) rfl (B := wo.heap.size) (xs := []) (news := cellsOf cellsE xs) rfl rfl (row_new (by simp) rfl rfl (by decide) (by simp)) HLEN.out (fun h => ((HNW.out h).grow HFR.out).grow (by (repeat' (first | (with_reducible exact Frm.refl _ _) | (with_reducible assumption) | (with_reducible refine Frm.alloc ?_ _) | (with_reducible refine Frm.drew ?_) | (with_reducible refine Frm.drewN ?_ _) | (with_reducible refine Frm.set1 ?_ _) | (with_reducible refine Frm.setCell ?_ ?_ _) | (exact fun h => absurd h (Nat.lt_irrefl _)) | (intro hlt; simp [World.size_alloc, One] at hlt ⊢; omega))))) HONE.out hm1 hm2 (by simp) ?_; intro A2 cap2 w1 hown1 hfr1) | (go_at_call 12; have hsl1 : SlAt cellsE 14 w1 (.slice A2 xs.length cap2) xs := SlAt.of_row cellsE_len (by simpa using hown1); have hF1 : Frm (fun _ => False) wo w1 := (Frm.trans (b := _) (T := fun k => (Value.slice (some ⟨wo.heap.size, 0, none⟩) 0 0).ownBlock = some k) (by (repeat' (first | (with_reducible exact Frm.refl _ _) | (with_reducible assumption) | (with_reducible refine Frm.alloc ?_ _) | (with_reducible refine Frm.drew ?_) | (with_reducible refine Frm.drewN ?_ _) | (with_reducible refine Frm.set1 ?_ _) | (with_reducible refine Frm.setCell ?_ ?_ _) | (exact fun h => absurd h (Nat.lt_irrefl _)) | (intro hlt; simp [World.size_alloc, One] at hlt ⊢; omega)))) hfr1 (fun i hi e => absurd hi (by cases e; exact Nat.lt_irrefl _))); refine (HNEW.out _ _ hsl1).mono ?_; rintro e w3 ⟨hF3, h | ⟨-, b2, l2, rfl, hD2, hl2, hb2⟩⟩; exact absurd HZ.out h.1; have HF3 := Lib.hid (hF1.trans' hF3); have HD2 := Lib.hid hD2; have HL2 := Lib.hid hl2; have HB2 : Hid (wo.heap.size ≤ b2) := Nat.le_trans hF1.size hb2; have q0 : w3.cell? ⟨a, 0, none⟩ = some (.pointer (some ⟨b, 0, none⟩)) := HF3.out.cell (cell_at HP.out.hp) (fun h => h)))
        clear hfr1 hown1 hsl1 hF1 hF3 hD2 hl2 hb2
        have HDU3 : Hid (Duo w3 a b p b2 wo.heap.size l1 l2) := ⟨HF3.out.heap HP.out.hp (fun h => h), HP.out.d1.grow HF3.out, HD2.out, HBL.out, HBB.out, HB2.out⟩
        have hal3 := lt_of_block HDU3.out.hp
        unfold ptr
        go_upto_region 14 with (first | (go_at_call 21; refine (HSP1.out _ HDU3.out.d1).mono ?_; rintro e w4 ⟨v4, rfl, hr4, hF4⟩; have HB4 := Lib.hid (BytesAt.of_row hr4); have HF4 := Lib.hid hF4; clear hr4 hF4) | (go_at_call 24; refine (HLO2.out _ _ _ _ (HD2.out.grow HF4.out) HL2.out HB4.out).mono ?_; rintro e w9 ⟨rfl, l9, hD9, hi9, hf9, hF9⟩; have HDU9 := Lib.hid ((HDU3.out.grow HF4.out).w2 hF9 hD9); have HI9 := Lib.hid hi9; have HFX : Hid (Frm (fun _ => False) W w9) := ((HFR.out.trans' HF3.out).trans' HF4.out).trans hF9 (fun i hi h => absurd hi (Nat.not_lt.2 (HDU3.out.lo2 HB0.out h))); clear hD9 hi9 hf9 hF9))
        have HSP2 := Lib.hid (fun W (hW : DAt W b2 l9) => odSave_any b2 l9 W hW (by rw [HI9.out]; exact HDL.out))
        have HG1 := Lib.hid (fun (i s : Int) W (hW : DAt W b l1) (hs : 0 ≤ s ∧ s ≤ 255) => odGet_any b l1 i s W hW (by rw [HI.out]; exact HFIT.out.ok) hs)
        have HG2 := Lib.hid (fun (i s : Int) W (hW : DAt W b2 l9) (hs : 0 ≤ s ∧ s ≤ 255) => odGet_any b2 l9 i s W hW (by rw [HI9.out]; exact HDL.out) hs)
        unfold SaveP at HSP2
        unfold ptr at HSP2 HG1 HG2
        rw [HI9.out, HSVE.out] at HSP2
        rw [HI9.out] at HG2
        rw [HI.out] at HG1
        clear q0 hal hal3 HNEW HLO2 HNW HLEN HONE hm1 hm2
        go_wp2_with fail
        go_loopw [10] (fun i wr => ∃ k : Nat, k ≤ xs.length ∧ i = .int .i64 k ∧ Frm (fun _ => False) w9 wr) (fun i _ => xs.length - (intOf i).toNat)
        case atStart => exact ⟨0, Nat.zero_le _, rfl, Frm.refl _ _⟩
        case round =>
          obtain ⟨k, hk, rfl, hF⟩ := hrel
          have HFY := Lib.hid hF
          by_cases hlt : k < xs.length
          · obtain ⟨A', cap', eA, _, _, hA⟩ := H0.out
            simp only [Value.slice.injEq] at eA
            obtain ⟨rfl, -, rfl⟩ := eA
            obtain ⟨g, off, rfl, hgl, hcell⟩ := hA (by omega)
            have hm := List.getElem_mem hlt
            have hxo := HX.out _ hm
            obtain ⟨v, v', e1, e2, e3⟩ := HGB.out _ hm
            have hFW := HFX.out.trans' hF
            have q := fun j hj => hFW.cell ((hcell k hlt j hj).trans (List.getElem?_eq_getElem (by rw [cellsE_len]; exact hj))) (fun h => h)
            have HGA : Hid (∀ Wx, Frm (fun _ => False) w9 Wx → Calls Try.prog 16 #[.pointer (some ⟨b, 0, none⟩), .int .u16 xs[k].idx, .int .u8 xs[k].sub] Wx fun e w' => e = .returned (.tuple #[valV v, .int .i64 0]) ∧ Frm (fun _ => False) Wx w') := fun Wx hW => by
              have h9 := HG1.out xs[k].idx xs[k].sub Wx (HDU9.out.d1.grow hW) ⟨hxo.2.2.1, hxo.2.2.2.1⟩
              rw [e1] at h9
              exact h9
            have HGC : Hid (∀ Wx, Frm (fun _ => False) w9 Wx → Calls Try.prog 16 #[.pointer (some ⟨b2, 0, none⟩), .int .u16 xs[k].idx, .int .u8 xs[k].sub] Wx fun e w' => e = .returned (.tuple #[valV v', .int .i64 0]) ∧ Frm (fun _ => False) Wx w') := fun Wx hW => by
              have h9 := HG2.out xs[k].idx xs[k].sub Wx (HDU9.out.d2.grow hW) ⟨hxo.2.2.1, hxo.2.2.2.1⟩
              rw [e2] at h9
              exact h9
            have HEQ := Lib.hid e3
            generalize xs[k] = x at *
            have HKL : Hid (k + 1 ≤ xs.length) := hlt
            have hgl2 := Nat.lt_of_lt_of_le hgl hFW.size
            have hal := Nat.lt_of_lt_of_le (lt_of_block HDU9.out.hp) hF.size
            have hc : ∀ Wx, Frm (fun _ => False) wr Wx → Wx.cell? ⟨g, off + k * 14, none⟩ = some (.int .u16 x.idx) ∧ Wx.cell? ⟨g, off + k * 14 + 1, none⟩ = some (.int .u8 x.sub) := fun Wx h => ⟨h.cell (q 0 (by decide)) (fun h => h), h.cell (q 1 (by decide)) (fun h => h)⟩
            have HC2 := Lib.hid (fun Wx (h : Frm (fun _ => False) wr Wx) => h.cell (q 2 (by decide)) (fun h => h))
            have HCN1 := Lib.hid hc
            have HCN0 := Lib.hid (fun Wx (h : Frm (fun _ => False) wr Wx) => (hF.trans' h).cell (cell_at HDU9.out.hp) (fun h => h) (p := ⟨a, 0, none⟩))
            have HCT := Lib.hid (fun W (h : Frm (fun _ => False) wr W) => trivial)
            have HGA' := Lib.hid (fun Wx (h : Frm (fun _ => False) wr Wx) => HGA.out Wx (hF.trans' h))
            unfold valV ptr at *
            simp only [cellsE, getElem_cons_succ, getElem_cons_zero] at HC2
            clear hc q hcell hA hm hxo e1 e2 e3 hFW hF
            obtain ⟨wq, hwq⟩ : ∃ wq : World, wq = wr := ⟨_, rfl⟩
            subst hwq
            go_upto_region 17 with fail
            go_cut [11, 12] (fun pv ev wz => DecC wq v 0 pv ev wz)
            case first =>
              as_aux_lemma =>
              refine wp_region_held_drew (S := fun W => Frm (fun _ => False) wq W) (by kernel_rfl) ((Frm.refl _ _).drew) (fun hHeld => ?_)
              refine wpAnyH_take (i := 0) (v := ?_) rfl (by kernel_rfl) (by kernel_rfl) (by kernel_rfl) (fun _ _ _ h => h) (Or.inl ⟨by rfl, ?_⟩) (by assumption) ?_; rotate_left; · (intro wq hSq; have hq := HCN0.out wq hSq; go_split_ands; go_simp; (try with_reducible rfl))
              try simp only [Act.put, getElem_toArray, getElem_cons_zero, getElem_cons_succ, setIfInBounds_toArray, set_cons_zero, set_cons_succ]
              refine wpAnyH_take (i := 1) (v := ?_) rfl (by kernel_rfl) (by kernel_rfl) (by kernel_rfl) (fun _ _ _ h => h) (Or.inl ⟨by rfl, ?_⟩) (by assumption) ?_; rotate_left; · (intro wq hSq; have hq := HCN0.out wq hSq; go_split_ands; go_simp; (try with_reducible rfl))
              try simp only [Act.put, getElem_toArray, getElem_cons_zero, getElem_cons_succ, setIfInBounds_toArray, set_cons_zero, set_cons_succ]
              refine wpAnyH_take (i := 2) (v := ?_) rfl (by kernel_rfl) (by kernel_rfl) (by kernel_rfl) (fun _ _ _ h => h) (Or.inl ⟨by rfl, ?_⟩) (by assumption) ?_; rotate_left; · (intro wq hSq; have hq := HCN0.out wq hSq; go_split_ands; go_simp; (try with_reducible rfl))
              try simp only [Act.put, getElem_toArray, getElem_cons_zero, getElem_cons_succ, setIfInBounds_toArray, set_cons_zero, set_cons_succ]
              refine wpAnyH_take (i := 3) (v := ?_) rfl (by kernel_rfl) (by kernel_rfl) (by kernel_rfl) (fun _ _ _ h => h) (Or.inl ⟨by rfl, ?_⟩) (by assumption) ?_; rotate_left; · (intro wq hSq; have hq := HCN0.out wq hSq; go_split_ands; go_simp; (try with_reducible rfl))
              try simp only [Act.put, getElem_toArray, getElem_cons_zero, getElem_cons_succ, setIfInBounds_toArray, set_cons_zero, set_cons_succ]
              refine wpAnyH_take (i := 4) (v := ?_) rfl (by kernel_rfl) (by kernel_rfl) (by kernel_rfl) (fun _ _ _ h => h) (Or.inl ⟨by rfl, ?_⟩) (by assumption) ?_; rotate_left; · (intro wq hSq; have hq := HCN1.out wq hSq; go_split_ands; go_simp; (try with_reducible rfl))
              try simp only [Act.put, getElem_toArray, getElem_cons_zero, getElem_cons_succ, setIfInBounds_toArray, set_cons_zero, set_cons_succ]
              refine wpAnyH_take (i := 5) (v := ?_) rfl (by kernel_rfl) (by kernel_rfl) (by kernel_rfl) (fun _ _ _ h => h) (Or.inl ⟨by rfl, ?_⟩) (by assumption) ?_; rotate_left; · (intro wq hSq; have hq := HCN1.out wq hSq; go_split_ands; go_simp; (try with_reducible rfl))
              try simp only [Act.put, getElem_toArray, getElem_cons_zero, getElem_cons_succ, setIfInBounds_toArray, set_cons_zero, set_cons_succ]
              refine wpAnyH_take (i := 6) (v := ?_) rfl (by kernel_rfl) (by kernel_rfl) (by kernel_rfl) (fun _ _ _ h => h) (Or.inl ⟨by rfl, ?_⟩) (by assumption) ?_; rotate_left; · (intro wq hSq; have hq := HCN1.out wq hSq; go_split_ands; go_simp; (try with_reducible rfl))
              try simp only [Act.put, getElem_toArray, getElem_cons_zero, getElem_cons_succ, setIfInBounds_toArray, set_cons_zero, set_cons_succ]
              refine wpAnyH_take (i := 7) (v := ?_) rfl (by kernel_rfl) (by kernel_rfl) (by kernel_rfl) (fun _ _ _ h => h) (Or.inl ⟨by rfl, ?_⟩) (by assumption) ?_; rotate_left; · (intro wq hSq; have hq := HCN1.out wq hSq; go_split_ands; go_simp; (try with_reducible rfl))
              try simp only [Act.put, getElem_toArray, getElem_cons_zero, getElem_cons_succ, setIfInBounds_toArray, set_cons_zero, set_cons_succ]
              refine wpAnyH_take (i := 8) (v := ?_) rfl (by kernel_rfl) (by kernel_rfl) (by kernel_rfl) (fun _ _ _ h => h) (Or.inl ⟨by rfl, ?_⟩) (by assumption) ?_; rotate_left; · (intro wq hSq; have hq := HCN1.out wq hSq; go_split_ands; go_simp; (try with_reducible rfl))
              try simp only [Act.put, getElem_toArray, getElem_cons_zero, getElem_cons_succ, setIfInBounds_toArray, set_cons_zero, set_cons_succ]
              refine wpAnyH_take (i := 9) (v := ?_) rfl (by kernel_rfl) (by kernel_rfl) (by kernel_rfl) (fun _ _ _ h => h) (Or.inl ⟨by rfl, ?_⟩) (by assumption) ?_; rotate_left; · (intro wq hSq; have hq := HCN1.out wq hSq; go_split_ands; go_simp; (try with_reducible rfl))
              try simp only [Act.put, getElem_toArray, getElem_cons_zero, getElem_cons_succ, setIfInBounds_toArray, set_cons_zero, set_cons_succ]
              refine wpAnyH_take (i := 10) (v := ?_) rfl (by kernel_rfl) (by kernel_rfl) (by kernel_rfl) (fun _ _ _ h => h) (Or.inl ⟨by rfl, ?_⟩) (by assumption) ?_; rotate_left; · (intro wq hSq; have hq := HCN1.out wq hSq; go_split_ands; go_simp; (try with_reducible rfl))
              try simp only [Act.put, getElem_toArray, getElem_cons_zero, getElem_cons_succ, setIfInBounds_toArray, set_cons_zero, set_cons_succ]
              refine wpAnyH_take (i := 11) (v := ?_) rfl (by kernel_rfl) (by kernel_rfl) (by kernel_rfl) (fun _ _ _ h => h) (Or.inl ⟨by rfl, ?_⟩) (by assumption) ?_; rotate_left; · (intro wq hSq; have hq := HCN1.out wq hSq; go_split_ands; go_simp; (try with_reducible rfl))
              try simp only [Act.put, getElem_toArray, getElem_cons_zero, getElem_cons_succ, setIfInBounds_toArray, set_cons_zero, set_cons_succ]
              refine wpAnyH_take (i := 12) (v := ?_) rfl (by kernel_rfl) (by kernel_rfl) (by kernel_rfl) (fun _ _ _ h => h) (Or.inl ⟨by rfl, ?_⟩) (by assumption) ?_; rotate_left; · (intro wq hSq; have hq := HCN1.out wq hSq; go_split_ands; go_simp; (try with_reducible rfl))
              try simp only [Act.put, getElem_toArray, getElem_cons_zero, getElem_cons_succ, setIfInBounds_toArray, set_cons_zero, set_cons_succ]
              refine wpAnyH_take (i := 13) (v := ?_) rfl (by kernel_rfl) (by kernel_rfl) (by kernel_rfl) (fun _ _ _ h => h) (Or.inl ⟨by rfl, ?_⟩) (by assumption) ?_; rotate_left; · (intro wq hSq; have hq := HCN1.out wq hSq; go_split_ands; go_simp; (try with_reducible rfl))
              try simp only [Act.put, getElem_toArray, getElem_cons_zero, getElem_cons_succ, setIfInBounds_toArray, set_cons_zero, set_cons_succ]
              refine wpAnyH_ready (rs := [14, 18]) (by kernel_rfl) (by simp) ?_
              refine AllReadyH.cons rfl (fun K hK => ?_) (AllReadyH.cons rfl (fun K hK => ?_) AllReadyH.nil)
              · try simp only [getElem_toArray, getElem_cons_zero, getElem_cons_succ]
                go_simp
                refine (HGA'.out _ (Frm.refl _ _).drew).mono ?_
                rintro e w6 ⟨rfl, hF6⟩
                go_wp2_with fail
                refine hK.out _ _ (hHeld.trans' hF6) (fun hHeld => ?_)
                clear hK K
                try simp only [Act.put, setIfInBounds_toArray, set_cons_zero, set_cons_succ]
                refine wpAnyH_take (i := 15) (v := ?_) rfl (by kernel_rfl) (by kernel_rfl) (by kernel_rfl) (fun _ _ _ h => h) (Or.inl ⟨by rfl, ?_⟩) (by assumption) ?_; rotate_left; · (intro wq hSq; have hq := HCT.out wq hSq; go_split_ands; go_simp; (try with_reducible rfl))
                try simp only [Act.put, getElem_toArray, getElem_cons_zero, getElem_cons_succ, setIfInBounds_toArray, set_cons_zero, set_cons_succ]
                refine wpAnyH_take (i := 16) (v := ?_) rfl (by kernel_rfl) (by kernel_rfl) (by kernel_rfl) (fun _ _ _ h => h) (Or.inl ⟨by rfl, ?_⟩) (by assumption) ?_; rotate_left; · (intro wq hSq; have hq := HCT.out wq hSq; go_split_ands; go_simp; (try with_reducible rfl))
                try simp only [Act.put, getElem_toArray, getElem_cons_zero, getElem_cons_succ, setIfInBounds_toArray, set_cons_zero, set_cons_succ]
                refine wpAnyH_take (i := 17) (v := ?_) rfl (by kernel_rfl) (by kernel_rfl) (by kernel_rfl) (fun _ _ _ h => h) (Or.inl ⟨by rfl, ?_⟩) (by assumption) ?_; rotate_left; · (intro wq hSq; have hq := HCT.out wq hSq; go_split_ands; go_simp; (try with_reducible rfl))
                try simp only [Act.put, getElem_toArray, getElem_cons_zero, getElem_cons_succ, setIfInBounds_toArray, set_cons_zero, set_cons_succ]
                have hH6 := hHeld
                refine wpAnyH_ready (rs := [18]) (by kernel_rfl) (by simp) ?_
                refine AllReadyH.cons rfl (fun K hK => ?_) AllReadyH.nil
                try simp only [getElem_toArray, getElem_cons_zero, getElem_cons_succ]
                go_simp
                refine hK.out _ _ (hHeld.alloc _) (fun hHeld => ?_)
                clear hK K
                try simp only [Act.put, setIfInBounds_toArray, set_cons_zero, set_cons_succ]
                refine wpAnyH_ready (rs := [19]) (by kernel_rfl) (by simp) ?_
                refine AllReadyH.cons rfl (fun K hK => ?_) AllReadyH.nil
                try simp only [getElem_toArray, getElem_cons_zero, getElem_cons_succ]
                go_simp
                refine hK.out _ _ (hH6.alloc _) (fun hHeld => ?_)
                clear hK K
                try simp only [Act.put, setIfInBounds_toArray, set_cons_zero, set_cons_succ]
                refine wpAnyH_take (i := 20) (v := ?_) rfl (by kernel_rfl) (by kernel_rfl) (by kernel_rfl) (fun _ _ _ h => h) (Or.inl ⟨by rfl, ?_⟩) (by assumption) ?_; rotate_left; · (intro wq hSq; have hq := HCT.out wq hSq; go_split_ands; go_simp; (try with_reducible rfl))
                try simp only [Act.put, getElem_toArray, getElem_cons_zero, getElem_cons_succ, setIfInBounds_toArray, set_cons_zero, set_cons_succ]
                refine wpAnyH_done (by kernel_rfl) ?_ _
                have hB6 := Lib.hid (heap_new w6 (.cells #[.int .i64 v.ty, .int .u64 v.n, .string (strB2 v.b)] 36))
                have hyF := Lib.hid (hH6.alloc (.cells #[.int .i64 v.ty, .int .u64 v.n, .string (strB2 v.b)] 36))
                have hs6 := Lib.hid hH6.size
                clear hHeld hH6 hF6
                go_wp2_with fail
                go_meet
                exact ⟨_, rfl, rfl, hB6.out, hyF.out, hs6.out⟩
              · try simp only [getElem_toArray, getElem_cons_zero, getElem_cons_succ]
                go_simp
                refine hK.out _ _ (hHeld.alloc _) (fun hHeld => ?_)
                clear hK K
                try simp only [Act.put, setIfInBounds_toArray, set_cons_zero, set_cons_succ]
                refine wpAnyH_ready (rs := [14]) (by kernel_rfl) (by simp) ?_
                refine AllReadyH.cons rfl (fun K hK => ?_) AllReadyH.nil
                try simp only [getElem_toArray, getElem_cons_zero, getElem_cons_succ]
                go_simp
                refine (HGA'.out _ hHeld).mono ?_
                rintro e w6 ⟨rfl, hF6⟩
                have kz : w6.heap[wq.heap.size]? = some (.cells #[.int .i64 0, .int .u64 0, .string ⟨#[]⟩] 36 (0, 0)) := hF6.heap (by first | exact heap_new wq.drew _ | exact heap_drew' (heap_new wq _) | exact heap_drew' (heap_new_at rfl)) (fun h => h)
                go_wp2_with fail
                refine hK.out _ _ (hHeld.trans' hF6) (fun hHeld => ?_)
                clear hK K
                try simp only [Act.put, setIfInBounds_toArray, set_cons_zero, set_cons_succ]
                refine wpAnyH_take (i := 15) (v := ?_) rfl (by kernel_rfl) (by kernel_rfl) (by kernel_rfl) (fun _ _ _ h => h) (Or.inl ⟨by rfl, ?_⟩) (by assumption) ?_; rotate_left; · (intro wq hSq; have hq := HCT.out wq hSq; go_split_ands; go_simp; (try with_reducible rfl))
                try simp only [Act.put, getElem_toArray, getElem_cons_zero, getElem_cons_succ, setIfInBounds_toArray, set_cons_zero, set_cons_succ]
                refine wpAnyH_take (i := 16) (v := ?_) rfl (by kernel_rfl) (by kernel_rfl) (by kernel_rfl) (fun _ _ _ h => h) (Or.inl ⟨by rfl, ?_⟩) (by assumption) ?_; rotate_left; · (intro wq hSq; have hq := HCT.out wq hSq; go_split_ands; go_simp; (try with_reducible rfl))
                try simp only [Act.put, getElem_toArray, getElem_cons_zero, getElem_cons_succ, setIfInBounds_toArray, set_cons_zero, set_cons_succ]
                refine wpAnyH_take (i := 17) (v := ?_) rfl (by kernel_rfl) (by kernel_rfl) (by kernel_rfl) (fun _ _ _ h => h) (Or.inl ⟨by rfl, ?_⟩) (by assumption) ?_; rotate_left; · (intro wq hSq; have hq := HCT.out wq hSq; go_split_ands; go_simp; (try with_reducible rfl))
                try simp only [Act.put, getElem_toArray, getElem_cons_zero, getElem_cons_succ, setIfInBounds_toArray, set_cons_zero, set_cons_succ]
                have n0 : w6.cell? ⟨wq.heap.size, 0, none⟩ = some (.int .i64 0) := cell_at kz
                have n1 : w6.cell? ⟨wq.heap.size, 1, none⟩ = some (.int .u64 0) := cell_at kz
                have n2 : w6.cell? ⟨wq.heap.size, 2, none⟩ = some (.string ⟨#[]⟩) := cell_at kz
                have nf := frees kz
                refine wpAnyH_ready (rs := [19]) (by kernel_rfl) (by simp) ?_
                refine AllReadyH.cons rfl (fun K hK => ?_) AllReadyH.nil
                try simp only [getElem_toArray, getElem_cons_zero, getElem_cons_succ]
                go_simp
                refine hK.out _ _ (by (repeat' (first | (with_reducible exact Frm.refl _ _) | (with_reducible assumption) | (with_reducible refine Frm.alloc ?_ _) | (with_reducible refine Frm.drew ?_) | (with_reducible refine Frm.drewN ?_ _) | (with_reducible refine Frm.set1 ?_ _) | (with_reducible refine Frm.setCell ?_ ?_ _) | (exact fun h => absurd h (Nat.lt_irrefl _)) | (intro hlt; simp [World.size_alloc, One] at hlt ⊢; omega)))) (fun hHeld => ?_)
                clear hK K
                try simp only [Act.put, setIfInBounds_toArray, set_cons_zero, set_cons_succ]
                refine wpAnyH_take (i := 20) (v := ?_) rfl (by kernel_rfl) (by kernel_rfl) (by kernel_rfl) (fun _ _ _ h => h) (Or.inl ⟨by rfl, ?_⟩) (by assumption) ?_; rotate_left; · (intro wq hSq; have hq := HCT.out wq hSq; go_split_ands; go_simp; (try with_reducible rfl))
                try simp only [Act.put, getElem_toArray, getElem_cons_zero, getElem_cons_succ, setIfInBounds_toArray, set_cons_zero, set_cons_succ]
                refine wpAnyH_done (by kernel_rfl) ?_ _
                have hB6 := Lib.hid (store3c (c0 := .int .i64 v.ty) (c1 := .int .u64 v.n) (c2 := .string (strB2 v.b)) kz)
                have hyF := Lib.hid hHeld
                clear hHeld hF6 kz n0 n1 n2 nf
                go_wp2_with fail
                go_meet
                exact ⟨_, rfl, rfl, hB6.out, hyF.out, Nat.le_refl _⟩
            case rest =>
              obtain ⟨gv, rfl, rfl, hB, hFc, -⟩ := hcut
              have HBV := Lib.hid hB
              have HFC := Lib.hid hFc
              have hgl3 := Nat.lt_of_lt_of_le hgl2 hFc.size
              have HC3 := Lib.hid (fun Wx (h : Frm (fun _ => False) wc Wx) => HC2.out Wx (hFc.trans' h))
              have HCN3 := Lib.hid (fun Wx (h : Frm (fun _ => False) wc Wx) => HCN1.out Wx (hFc.trans' h))
              have HGB' := Lib.hid (fun Wx (h : Frm (fun _ => False) wc Wx) => HGC.out Wx ((HFY.out.trans' HFC.out).trans' h))
              have HFZ := Lib.hid (HFY.out.trans' hFc)
              clear hB hFc HCN1 HCN0 HCT HC2 HGA HGA' HGC hgl2 hal
              have HCT := Lib.hid (fun W (h : Frm (fun _ => False) wc W) => trivial)
              obtain ⟨wo2, hwo2⟩ : ∃ wo2 : World, wo2 = wc := ⟨_, rfl⟩
              subst hwo2
              go_upto_region 18 with fail
              go_cut [13, 14] (fun pv ev wz => DecC wo2 v' 0 pv ev wz)
              case first =>
                as_aux_lemma =>
                refine wp_region_held_drew (S := fun W => Frm (fun _ => False) wo2 W) (by kernel_rfl) ((Frm.refl _ _).drew) (fun hHeld => ?_)
                refine wpAnyH_take (i := 0) (v := ?_) rfl (by kernel_rfl) (by kernel_rfl) (by kernel_rfl) (fun _ _ _ h => h) (Or.inl ⟨by rfl, ?_⟩) (by assumption) ?_; rotate_left; · (intro wq hSq; have hq := HCN3.out wq hSq; go_split_ands; go_simp; (try with_reducible rfl))
                try simp only [Act.put, getElem_toArray, getElem_cons_zero, getElem_cons_succ, setIfInBounds_toArray, set_cons_zero, set_cons_succ]
                refine wpAnyH_take (i := 1) (v := ?_) rfl (by kernel_rfl) (by kernel_rfl) (by kernel_rfl) (fun _ _ _ h => h) (Or.inl ⟨by rfl, ?_⟩) (by assumption) ?_; rotate_left; · (intro wq hSq; have hq := HCN3.out wq hSq; go_split_ands; go_simp; (try with_reducible rfl))
                try simp only [Act.put, getElem_toArray, getElem_cons_zero, getElem_cons_succ, setIfInBounds_toArray, set_cons_zero, set_cons_succ]
                refine wpAnyH_take (i := 2) (v := ?_) rfl (by kernel_rfl) (by kernel_rfl) (by kernel_rfl) (fun _ _ _ h => h) (Or.inl ⟨by rfl, ?_⟩) (by assumption) ?_; rotate_left; · (intro wq hSq; have hq := HCN3.out wq hSq; go_split_ands; go_simp; (try with_reducible rfl))
                try simp only [Act.put, getElem_toArray, getElem_cons_zero, getElem_cons_succ, setIfInBounds_toArray, set_cons_zero, set_cons_succ]
                refine wpAnyH_take (i := 3) (v := ?_) rfl (by kernel_rfl) (by kernel_rfl) (by kernel_rfl) (fun _ _ _ h => h) (Or.inl ⟨by rfl, ?_⟩) (by assumption) ?_; rotate_left; · (intro wq hSq; have hq := HCN3.out wq hSq; go_split_ands; go_simp; (try with_reducible rfl))
                try simp only [Act.put, getElem_toArray, getElem_cons_zero, getElem_cons_succ, setIfInBounds_toArray, set_cons_zero, set_cons_succ]
                refine wpAnyH_take (i := 4) (v := ?_) rfl (by kernel_rfl) (by kernel_rfl) (by kernel_rfl) (fun _ _ _ h => h) (Or.inl ⟨by rfl, ?_⟩) (by assumption) ?_; rotate_left; · (intro wq hSq; have hq := HCN3.out wq hSq; go_split_ands; go_simp; (try with_reducible rfl))
                try simp only [Act.put, getElem_toArray, getElem_cons_zero, getElem_cons_succ, setIfInBounds_toArray, set_cons_zero, set_cons_succ]
                refine wpAnyH_take (i := 5) (v := ?_) rfl (by kernel_rfl) (by kernel_rfl) (by kernel_rfl) (fun _ _ _ h => h) (Or.inl ⟨by rfl, ?_⟩) (by assumption) ?_; rotate_left; · (intro wq hSq; have hq := HCN3.out wq hSq; go_split_ands; go_simp; (try with_reducible rfl))
                try simp only [Act.put, getElem_toArray, getElem_cons_zero, getElem_cons_succ, setIfInBounds_toArray, set_cons_zero, set_cons_succ]
                refine wpAnyH_take (i := 6) (v := ?_) rfl (by kernel_rfl) (by kernel_rfl) (by kernel_rfl) (fun _ _ _ h => h) (Or.inl ⟨by rfl, ?_⟩) (by assumption) ?_; rotate_left; · (intro wq hSq; have hq := HCN3.out wq hSq; go_split_ands; go_simp; (try with_reducible rfl))
                try simp only [Act.put, getElem_toArray, getElem_cons_zero, getElem_cons_succ, setIfInBounds_toArray, set_cons_zero, set_cons_succ]
                refine wpAnyH_take (i := 7) (v := ?_) rfl (by kernel_rfl) (by kernel_rfl) (by kernel_rfl) (fun _ _ _ h => h) (Or.inl ⟨by rfl, ?_⟩) (by assumption) ?_; rotate_left; · (intro wq hSq; have hq := HCN3.out wq hSq; go_split_ands; go_simp; (try with_reducible rfl))
                try simp only [Act.put, getElem_toArray, getElem_cons_zero, getElem_cons_succ, setIfInBounds_toArray, set_cons_zero, set_cons_succ]
                refine wpAnyH_take (i := 8) (v := ?_) rfl (by kernel_rfl) (by kernel_rfl) (by kernel_rfl) (fun _ _ _ h => h) (Or.inl ⟨by rfl, ?_⟩) (by assumption) ?_; rotate_left; · (intro wq hSq; have hq := HCN3.out wq hSq; go_split_ands; go_simp; (try with_reducible rfl))
                try simp only [Act.put, getElem_toArray, getElem_cons_zero, getElem_cons_succ, setIfInBounds_toArray, set_cons_zero, set_cons_succ]
                refine wpAnyH_take (i := 9) (v := ?_) rfl (by kernel_rfl) (by kernel_rfl) (by kernel_rfl) (fun _ _ _ h => h) (Or.inl ⟨by rfl, ?_⟩) (by assumption) ?_; rotate_left; · (intro wq hSq; have hq := HCN3.out wq hSq; go_split_ands; go_simp; (try with_reducible rfl))
                try simp only [Act.put, getElem_toArray, getElem_cons_zero, getElem_cons_succ, setIfInBounds_toArray, set_cons_zero, set_cons_succ]
                refine wpAnyH_take (i := 10) (v := ?_) rfl (by kernel_rfl) (by kernel_rfl) (by kernel_rfl) (fun _ _ _ h => h) (Or.inl ⟨by rfl, ?_⟩) (by assumption) ?_; rotate_left; · (intro wq hSq; have hq := HCN3.out wq hSq; go_split_ands; go_simp; (try with_reducible rfl))
                try simp only [Act.put, getElem_toArray, getElem_cons_zero, getElem_cons_succ, setIfInBounds_toArray, set_cons_zero, set_cons_succ]
                refine wpAnyH_ready (rs := [11, 15]) (by kernel_rfl) (by simp) ?_
                refine AllReadyH.cons rfl (fun K hK => ?_) (AllReadyH.cons rfl (fun K hK => ?_) AllReadyH.nil)
                · try simp only [getElem_toArray, getElem_cons_zero, getElem_cons_succ]
                  go_simp
                  refine (HGB'.out _ (Frm.refl _ _).drew).mono ?_
                  rintro e w6 ⟨rfl, hF6⟩
                  go_wp2_with fail
                  refine hK.out _ _ (hHeld.trans' hF6) (fun hHeld => ?_)
                  clear hK K
                  try simp only [Act.put, setIfInBounds_toArray, set_cons_zero, set_cons_succ]
                  refine wpAnyH_take (i := 12) (v := ?_) rfl (by kernel_rfl) (by kernel_rfl) (by kernel_rfl) (fun _ _ _ h => h) (Or.inl ⟨by rfl, ?_⟩) (by assumption) ?_; rotate_left; · (intro wq hSq; have hq := HCT.out wq hSq; go_split_ands; go_simp; (try with_reducible rfl))
                  try simp only [Act.put, getElem_toArray, getElem_cons_zero, getElem_cons_succ, setIfInBounds_toArray, set_cons_zero, set_cons_succ]
                  refine wpAnyH_take (i := 13) (v := ?_) rfl (by kernel_rfl) (by kernel_rfl) (by kernel_rfl) (fun _ _ _ h => h) (Or.inl ⟨by rfl, ?_⟩) (by assumption) ?_; rotate_left; · (intro wq hSq; have hq := HCT.out wq hSq; go_split_ands; go_simp; (try with_reducible rfl))
                  try simp only [Act.put, getElem_toArray, getElem_cons_zero, getElem_cons_succ, setIfInBounds_toArray, set_cons_zero, set_cons_succ]
                  refine wpAnyH_take (i := 14) (v := ?_) rfl (by kernel_rfl) (by kernel_rfl) (by kernel_rfl) (fun _ _ _ h => h) (Or.inl ⟨by rfl, ?_⟩) (by assumption) ?_; rotate_left; · (intro wq hSq; have hq := HCT.out wq hSq; go_split_ands; go_simp; (try with_reducible rfl))
                  try simp only [Act.put, getElem_toArray, getElem_cons_zero, getElem_cons_succ, setIfInBounds_toArray, set_cons_zero, set_cons_succ]
                  have hH6 := hHeld
                  refine wpAnyH_ready (rs := [15]) (by kernel_rfl) (by simp) ?_
                  refine AllReadyH.cons rfl (fun K hK => ?_) AllReadyH.nil
                  try simp only [getElem_toArray, getElem_cons_zero, getElem_cons_succ]
                  go_simp
                  refine hK.out _ _ (hHeld.alloc _) (fun hHeld => ?_)
                  clear hK K
                  try simp only [Act.put, setIfInBounds_toArray, set_cons_zero, set_cons_succ]
                  refine wpAnyH_ready (rs := [16]) (by kernel_rfl) (by simp) ?_
                  refine AllReadyH.cons rfl (fun K hK => ?_) AllReadyH.nil
                  try simp only [getElem_toArray, getElem_cons_zero, getElem_cons_succ]
                  go_simp
                  refine hK.out _ _ (hH6.alloc _) (fun hHeld => ?_)
                  clear hK K
                  try simp only [Act.put, setIfInBounds_toArray, set_cons_zero, set_cons_succ]
                  refine wpAnyH_take (i := 17) (v := ?_) rfl (by kernel_rfl) (by kernel_rfl) (by kernel_rfl) (fun _ _ _ h => h) (Or.inl ⟨by rfl, ?_⟩) (by assumption) ?_; rotate_left; · (intro wq hSq; have hq := HCT.out wq hSq; go_split_ands; go_simp; (try with_reducible rfl))
                  try simp only [Act.put, getElem_toArray, getElem_cons_zero, getElem_cons_succ, setIfInBounds_toArray, set_cons_zero, set_cons_succ]
                  refine wpAnyH_done (by kernel_rfl) ?_ _
                  have hB6 := Lib.hid (heap_new w6 (.cells #[.int .i64 v'.ty, .int .u64 v'.n, .string (strB2 v'.b)] 36))
                  have hyF := Lib.hid (hH6.alloc (.cells #[.int .i64 v'.ty, .int .u64 v'.n, .string (strB2 v'.b)] 36))
                  have hs6 := Lib.hid hH6.size
                  clear hHeld hH6 hF6
                  go_wp2_with fail
                  go_meet
                  exact ⟨_, rfl, rfl, hB6.out, hyF.out, hs6.out⟩
                · try simp only [getElem_toArray, getElem_cons_zero, getElem_cons_succ]
                  go_simp
                  refine hK.out _ _ (hHeld.alloc _) (fun hHeld => ?_)
                  clear hK K
                  try simp only [Act.put, setIfInBounds_toArray, set_cons_zero, set_cons_succ]
                  refine wpAnyH_ready (rs := [11]) (by kernel_rfl) (by simp) ?_
                  refine AllReadyH.cons rfl (fun K hK => ?_) AllReadyH.nil
                  try simp only [getElem_toArray, getElem_cons_zero, getElem_cons_succ]
                  go_simp
                  refine (HGB'.out _ hHeld).mono ?_
                  rintro e w6 ⟨rfl, hF6⟩
                  have kz : w6.heap[wo2.heap.size]? = some (.cells #[.int .i64 0, .int .u64 0, .string ⟨#[]⟩] 36 (0, 0)) := hF6.heap (by first | exact heap_new wo2.drew _ | exact heap_drew' (heap_new wo2 _) | exact heap_drew' (heap_new_at rfl)) (fun h => h)
                  go_wp2_with fail
                  refine hK.out _ _ (hHeld.trans' hF6) (fun hHeld => ?_)
                  clear hK K
                  try simp only [Act.put, setIfInBounds_toArray, set_cons_zero, set_cons_succ]
                  refine wpAnyH_take (i := 12) (v := ?_) rfl (by kernel_rfl) (by kernel_rfl) (by kernel_rfl) (fun _ _ _ h => h) (Or.inl ⟨by rfl, ?_⟩) (by assumption) ?_; rotate_left; · (intro wq hSq; have hq := HCT.out wq hSq; go_split_ands; go_simp; (try with_reducible rfl))
                  try simp only [Act.put, getElem_toArray, getElem_cons_zero, getElem_cons_succ, setIfInBounds_toArray, set_cons_zero, set_cons_succ]
                  refine wpAnyH_take (i := 13) (v := ?_) rfl (by kernel_rfl) (by kernel_rfl) (by kernel_rfl) (fun _ _ _ h => h) (Or.inl ⟨by rfl, ?_⟩) (by assumption) ?_; rotate_left; · (intro wq hSq; have hq := HCT.out wq hSq; go_split_ands; go_simp; (try with_reducible rfl))
                  try simp only [Act.put, getElem_toArray, getElem_cons_zero, getElem_cons_succ, setIfInBounds_toArray, set_cons_zero, set_cons_succ]
                  refine wpAnyH_take (i := 14) (v := ?_) rfl (by kernel_rfl) (by kernel_rfl) (by kernel_rfl) (fun _ _ _ h => h) (Or.inl ⟨by rfl, ?_⟩) (by assumption) ?_; rotate_left; · (intro wq hSq; have hq := HCT.out wq hSq; go_split_ands; go_simp; (try with_reducible rfl))
                  try simp only [Act.put, getElem_toArray, getElem_cons_zero, getElem_cons_succ, setIfInBounds_toArray, set_cons_zero, set_cons_succ]
                  have n0 : w6.cell? ⟨wo2.heap.size, 0, none⟩ = some (.int .i64 0) := cell_at kz
                  have n1 : w6.cell? ⟨wo2.heap.size, 1, none⟩ = some (.int .u64 0) := cell_at kz
                  have n2 : w6.cell? ⟨wo2.heap.size, 2, none⟩ = some (.string ⟨#[]⟩) := cell_at kz
                  have nf := frees kz
                  refine wpAnyH_ready (rs := [16]) (by kernel_rfl) (by simp) ?_
                  refine AllReadyH.cons rfl (fun K hK => ?_) AllReadyH.nil
                  try simp only [getElem_toArray, getElem_cons_zero, getElem_cons_succ]
                  go_simp
                  refine hK.out _ _ (by (repeat' (first | (with_reducible exact Frm.refl _ _) | (with_reducible assumption) | (with_reducible refine Frm.alloc ?_ _) | (with_reducible refine Frm.drew ?_) | (with_reducible refine Frm.drewN ?_ _) | (with_reducible refine Frm.set1 ?_ _) | (with_reducible refine Frm.setCell ?_ ?_ _) | (exact fun h => absurd h (Nat.lt_irrefl _)) | (intro hlt; simp [World.size_alloc, One] at hlt ⊢; omega)))) (fun hHeld => ?_)
                  clear hK K
                  try simp only [Act.put, setIfInBounds_toArray, set_cons_zero, set_cons_succ]
                  refine wpAnyH_take (i := 17) (v := ?_) rfl (by kernel_rfl) (by kernel_rfl) (by kernel_rfl) (fun _ _ _ h => h) (Or.inl ⟨by rfl, ?_⟩) (by assumption) ?_; rotate_left; · (intro wq hSq; have hq := HCT.out wq hSq; go_split_ands; go_simp; (try with_reducible rfl))
                  try simp only [Act.put, getElem_toArray, getElem_cons_zero, getElem_cons_succ, setIfInBounds_toArray, set_cons_zero, set_cons_succ]
                  refine wpAnyH_done (by kernel_rfl) ?_ _
                  have hB6 := Lib.hid (store3c (c0 := .int .i64 v'.ty) (c1 := .int .u64 v'.n) (c2 := .string (strB2 v'.b)) kz)
                  have hyF := Lib.hid hHeld
                  clear hHeld hF6 kz n0 n1 n2 nf
                  go_wp2_with fail
                  go_meet
                  exact ⟨_, rfl, rfl, hB6.out, hyF.out, Nat.le_refl _⟩
              case rest =>
                obtain ⟨gw, rfl, rfl, hB, hFc, -⟩ := hcut
                have hV := hFc.heap HBV.out (fun h => h)
                have f0 : wc.cell? ⟨gv, 0, none⟩ = some (.int .i64 v.ty) := cell_at hV
                have f1 : wc.cell? ⟨gv, 1, none⟩ = some (.int .u64 v.n) := cell_at hV
                have f2 : wc.cell? ⟨gv, 2, none⟩ = some (.string (strB2 v.b)) := cell_at hV
                have g0 : wc.cell? ⟨gw, 0, none⟩ = some (.int .i64 v'.ty) := cell_at hB
                have g1 : wc.cell? ⟨gw, 1, none⟩ = some (.int .u64 v'.n) := cell_at hB
                have g2 : wc.cell? ⟨gw, 2, none⟩ = some (.string (strB2 v'.b)) := cell_at hB
                have hgv := lt_of_block hV
                have hgw := lt_of_block hB
                have q2 := HC3.out wc hFc
                have hgl4 := Nat.lt_of_lt_of_le hgl3 hFc.size
                have HFQ := Lib.hid (HFZ.out.trans' hFc)
                clear hV hB hFc HCN3 HC3 HGB' HCT
                by_cases ha : x.acc = 2
                · have e9 := HEQ.out ha
                  subst e9
                  have b1 : (x.acc == 2) = true := by simpa using ha
                  clear ha
                  go_wp2_with fail
                  go_roundw
                  case rel => exact ⟨k + 1, HKL.out, by go_num, HFQ.out⟩
                  case measure => have := HKL.out; simp [intOf]; omega
                · have b1 : (x.acc == 2) = false := by simpa using ha
                  clear ha
                  go_wp2_with fail
                  go_roundw
                  case rel => exact ⟨k + 1, HKL.out, by go_num, HFQ.out⟩
                  case measure => have := HKL.out; simp [intOf]; omega
          · have hca : ∀ Wx, Frm (fun _ => False) wr Wx → Wx.cell? ⟨a, 0, none⟩ = some (.pointer (some ⟨b, 0, none⟩)) := fun Wx h => (hF.trans' h).cell (cell_at HDU9.out.hp) (fun h => h)
            have HCA := Lib.hid hca
            have hal := Nat.lt_of_lt_of_le (lt_of_block HDU9.out.hp) hF.size
            have HFX := Lib.hid (HFX.out.trans' hF)
            have HDU9 := Lib.hid (HDU9.out.grow hF)
            clear hF hca
            go_upto_region 21 with fail
            refine wp_region_held_drew (S := fun W => Frm (fun _ => False) wr W) (by kernel_rfl) ((Frm.refl _ _).drew) (fun hHeld => ?_)
            refine wpAnyH_take (i := 0) (v := ?_) rfl (by kernel_rfl) (by kernel_rfl) (by kernel_rfl) (fun _ _ _ h => h) (Or.inl ⟨by rfl, ?_⟩) (by assumption) ?_; rotate_left; · (intro wq hSq; have hq := HCA.out wq hSq; go_split_ands; go_simp; (try with_reducible rfl))
            try simp only [Act.put, getElem_toArray, getElem_cons_zero, getElem_cons_succ, setIfInBounds_toArray, set_cons_zero, set_cons_succ]
            refine wpAnyH_take (i := 3) (v := ?_) rfl (by kernel_rfl) (by kernel_rfl) (by kernel_rfl) (fun _ _ _ h => h) (Or.inl ⟨by rfl, ?_⟩) (by assumption) ?_; rotate_left; · (intro wq hSq; have hq := HCA.out wq hSq; go_split_ands; go_simp; (try with_reducible rfl))
            try simp only [Act.put, getElem_toArray, getElem_cons_zero, getElem_cons_succ, setIfInBounds_toArray, set_cons_zero, set_cons_succ]
            refine wpAnyH_take (i := 4) (v := ?_) rfl (by kernel_rfl) (by kernel_rfl) (by kernel_rfl) (fun _ _ _ h => h) (Or.inl ⟨by rfl, ?_⟩) (by assumption) ?_; rotate_left; · (intro wq hSq; have hq := HCA.out wq hSq; go_split_ands; go_simp; (try with_reducible rfl))
            try simp only [Act.put, getElem_toArray, getElem_cons_zero, getElem_cons_succ, setIfInBounds_toArray, set_cons_zero, set_cons_succ]
            refine wpAnyH_take (i := 5) (v := ?_) rfl (by kernel_rfl) (by kernel_rfl) (by kernel_rfl) (fun _ _ _ h => h) (Or.inl ⟨by rfl, ?_⟩) (by assumption) ?_; rotate_left; · (intro wq hSq; have hq := HCA.out wq hSq; go_split_ands; go_simp; (try with_reducible rfl))
            try simp only [Act.put, getElem_toArray, getElem_cons_zero, getElem_cons_succ, setIfInBounds_toArray, set_cons_zero, set_cons_succ]
            refine wpAnyH_take (i := 6) (v := ?_) rfl (by kernel_rfl) (by kernel_rfl) (by kernel_rfl) (fun _ _ _ h => h) (Or.inl ⟨by rfl, ?_⟩) (by assumption) ?_; rotate_left; · (intro wq hSq; have hq := HCA.out wq hSq; go_split_ands; go_simp; (try with_reducible rfl))
            try simp only [Act.put, getElem_toArray, getElem_cons_zero, getElem_cons_succ, setIfInBounds_toArray, set_cons_zero, set_cons_succ]
            refine wpAnyH_ready (rs := [1]) (by kernel_rfl) (by simp) ?_
            refine AllReadyH.cons rfl (fun K hK => ?_) AllReadyH.nil
            try simp only [getElem_toArray, getElem_cons_zero, getElem_cons_succ]
            go_simp
            refine (HSP2.out _ (HDU9.out.d2.grow hHeld)).mono ?_
            rintro e w7 ⟨v7, rfl, hr7, hF7⟩
            have hB7 := BytesAt.of_row hr7
            go_wp2_with fail
            refine hK.out _ _ (hHeld.trans' hF7) (fun hHeld => ?_)
            clear hK K
            try simp only [Act.put, setIfInBounds_toArray, set_cons_zero, set_cons_succ]
            refine wpAnyH_ready (rs := [2, 7]) (by kernel_rfl) (by simp) ?_
            refine AllReadyH.cons rfl (fun K hK => ?_) (AllReadyH.cons rfl (fun K hK => ?_) AllReadyH.nil)
            · have hcv := conv_b2s hB7
              try simp only [getElem_toArray, getElem_cons_zero, getElem_cons_succ]
              go_simp
              refine hK.out _ _ hHeld (fun hHeld => ?_)
              clear hK K
              try simp only [Act.put, setIfInBounds_toArray, set_cons_zero, set_cons_succ]
              clear hcv
              refine wpAnyH_ready (rs := [7]) (by kernel_rfl) (by simp) ?_
              refine AllReadyH.cons rfl (fun K hK => ?_) AllReadyH.nil
              try simp only [getElem_toArray, getElem_cons_zero, getElem_cons_succ]
              go_simp
              refine (HSP1.out _ (HDU9.out.d1.grow hHeld)).mono ?_
              rintro e w8 ⟨v8, rfl, hr8, hF8⟩
              have hB8 := BytesAt.of_row hr8
              go_wp2_with fail
              refine hK.out _ _ (hHeld.trans' hF8) (fun hHeld => ?_)
              clear hK K
              try simp only [Act.put, setIfInBounds_toArray, set_cons_zero, set_cons_succ]
              have hcv := conv_b2s hB8
              refine wpAnyH_ready (rs := [8]) (by kernel_rfl) (by simp) ?_
              refine AllReadyH.cons rfl (fun K hK => ?_) AllReadyH.nil
              try simp only [getElem_toArray, getElem_cons_zero, getElem_cons_succ]
              go_simp
              refine hK.out _ _ hHeld (fun hHeld => ?_)
              clear hK K
              try simp only [Act.put, setIfInBounds_toArray, set_cons_zero, set_cons_succ]
              clear hcv
              refine wpAnyH_take (i := 9) (v := ?_) rfl (by kernel_rfl) (by kernel_rfl) (by kernel_rfl) (fun _ _ _ h => h) (Or.inl ⟨by rfl, ?_⟩) (by assumption) ?_; rotate_left; · (intro wq hSq; (try dsimp only at hSq); go_split_ands; go_simp; (try with_reducible rfl))
              try simp only [Act.put, getElem_toArray, getElem_cons_zero, getElem_cons_succ, setIfInBounds_toArray, set_cons_zero, set_cons_succ]
              refine wpAnyH_take (i := 10) (v := ?_) rfl (by kernel_rfl) (by kernel_rfl) (by kernel_rfl) (fun _ _ _ h => h) (Or.inl ⟨by rfl, ?_⟩) (by assumption) ?_; rotate_left; · (intro wq hSq; (try dsimp only at hSq); go_split_ands; go_simp; (try with_reducible rfl))
              try simp only [Act.put, getElem_toArray, getElem_cons_zero, getElem_cons_succ, setIfInBounds_toArray, set_cons_zero, set_cons_succ]
              refine wpAnyH_ready (rs := [11]) (by kernel_rfl) (by simp) ?_
              refine AllReadyH.cons rfl (fun K hK => ?_) AllReadyH.nil
              try simp only [getElem_toArray, getElem_cons_zero, getElem_cons_succ]
              go_simp
              refine (HLV.out _).mono ?_
              rintro e w11 ⟨rfl, hF11⟩
              go_wp2_with fail
              refine hK.out _ _ (hHeld.trans' hF11) (fun hHeld => ?_)
              clear hK K
              try simp only [Act.put, setIfInBounds_toArray, set_cons_zero, set_cons_succ]
              refine wpAnyH_take (i := 12) (v := ?_) rfl (by kernel_rfl) (by kernel_rfl) (by kernel_rfl) (fun _ _ _ h => h) (Or.inl ⟨by rfl, ?_⟩) (by assumption) ?_; rotate_left; · (intro wq hSq; (try dsimp only at hSq); go_split_ands; go_simp; (try with_reducible rfl))
              try simp only [Act.put, getElem_toArray, getElem_cons_zero, getElem_cons_succ, setIfInBounds_toArray, set_cons_zero, set_cons_succ]
              refine wpAnyH_take (i := 13) (v := ?_) rfl (by kernel_rfl) (by kernel_rfl) (by kernel_rfl) (fun _ _ _ h => h) (Or.inl ⟨by rfl, ?_⟩) (by assumption) ?_; rotate_left; · (intro wq hSq; (try dsimp only at hSq); go_split_ands; go_simp; (try with_reducible rfl))
              try simp only [Act.put, getElem_toArray, getElem_cons_zero, getElem_cons_succ, setIfInBounds_toArray, set_cons_zero, set_cons_succ]
              refine wpAnyH_done (by kernel_rfl) ?_ _
              have HH := Lib.hid hHeld
              clear hHeld hB7 hB8 hF7 hF8 hr7 hr8 hF11
              go_wp2_with fail
              go_ret
              exact ⟨rfl, HFX.out.trans' HH.out⟩
            · try simp only [getElem_toArray, getElem_cons_zero, getElem_cons_succ]
              go_simp
              refine (HSP1.out _ (HDU9.out.d1.grow hHeld)).mono ?_
              rintro e w8 ⟨v8, rfl, hr8, hF8⟩
              have hB8 := BytesAt.of_row hr8
              go_wp2_with fail
              refine hK.out _ _ (hHeld.trans' hF8) (fun hHeld => ?_)
              clear hK K
              try simp only [Act.put, setIfInBounds_toArray, set_cons_zero, set_cons_succ]
              have hB78 := hB7.grow hF8
              refine wpAnyH_ready (rs := [2, 8]) (by kernel_rfl) (by simp) ?_
              refine AllReadyH.cons rfl (fun K hK => ?_) (AllReadyH.cons rfl (fun K hK => ?_) AllReadyH.nil)
              · have hcv := conv_b2s hB78
                try simp only [getElem_toArray, getElem_cons_zero, getElem_cons_succ]
                go_simp
                refine hK.out _ _ hHeld (fun hHeld => ?_)
                clear hK K
                try simp only [Act.put, setIfInBounds_toArray, set_cons_zero, set_cons_succ]
                clear hcv
                have hcv := conv_b2s hB8
                refine wpAnyH_ready (rs := [8]) (by kernel_rfl) (by simp) ?_
                refine AllReadyH.cons rfl (fun K hK => ?_) AllReadyH.nil
                try simp only [getElem_toArray, getElem_cons_zero, getElem_cons_succ]
                go_simp
                refine hK.out _ _ hHeld (fun hHeld => ?_)
                clear hK K
                try simp only [Act.put, setIfInBounds_toArray, set_cons_zero, set_cons_succ]
                clear hcv
                refine wpAnyH_take (i := 9) (v := ?_) rfl (by kernel_rfl) (by kernel_rfl) (by kernel_rfl) (fun _ _ _ h => h) (Or.inl ⟨by rfl, ?_⟩) (by assumption) ?_; rotate_left; · (intro wq hSq; (try dsimp only at hSq); go_split_ands; go_simp; (try with_reducible rfl))
                try simp only [Act.put, getElem_toArray, getElem_cons_zero, getElem_cons_succ, setIfInBounds_toArray, set_cons_zero, set_cons_succ]
                refine wpAnyH_take (i := 10) (v := ?_) rfl (by kernel_rfl) (by kernel_rfl) (by kernel_rfl) (fun _ _ _ h => h) (Or.inl ⟨by rfl, ?_⟩) (by assumption) ?_; rotate_left; · (intro wq hSq; (try dsimp only at hSq); go_split_ands; go_simp; (try with_reducible rfl))
                try simp only [Act.put, getElem_toArray, getElem_cons_zero, getElem_cons_succ, setIfInBounds_toArray, set_cons_zero, set_cons_succ]
                refine wpAnyH_ready (rs := [11]) (by kernel_rfl) (by simp) ?_
                refine AllReadyH.cons rfl (fun K hK => ?_) AllReadyH.nil
                try simp only [getElem_toArray, getElem_cons_zero, getElem_cons_succ]
                go_simp
                refine (HLV.out _).mono ?_
                rintro e w11 ⟨rfl, hF11⟩
                go_wp2_with fail
                refine hK.out _ _ (hHeld.trans' hF11) (fun hHeld => ?_)
                clear hK K
                try simp only [Act.put, setIfInBounds_toArray, set_cons_zero, set_cons_succ]
                refine wpAnyH_take (i := 12) (v := ?_) rfl (by kernel_rfl) (by kernel_rfl) (by kernel_rfl) (fun _ _ _ h => h) (Or.inl ⟨by rfl, ?_⟩) (by assumption) ?_; rotate_left; · (intro wq hSq; (try dsimp only at hSq); go_split_ands; go_simp; (try with_reducible rfl))
                try simp only [Act.put, getElem_toArray, getElem_cons_zero, getElem_cons_succ, setIfInBounds_toArray, set_cons_zero, set_cons_succ]
                refine wpAnyH_take (i := 13) (v := ?_) rfl (by kernel_rfl) (by kernel_rfl) (by kernel_rfl) (fun _ _ _ h => h) (Or.inl ⟨by rfl, ?_⟩) (by assumption) ?_; rotate_left; · (intro wq hSq; (try dsimp only at hSq); go_split_ands; go_simp; (try with_reducible rfl))
                try simp only [Act.put, getElem_toArray, getElem_cons_zero, getElem_cons_succ, setIfInBounds_toArray, set_cons_zero, set_cons_succ]
                refine wpAnyH_done (by kernel_rfl) ?_ _
                have HH := Lib.hid hHeld
                clear hHeld hB7 hB8 hF7 hF8 hr7 hr8 hF11
                go_wp2_with fail
                go_ret
                exact ⟨rfl, HFX.out.trans' HH.out⟩
              · have hcv := conv_b2s hB8
                try simp only [getElem_toArray, getElem_cons_zero, getElem_cons_succ]
                go_simp
                refine hK.out _ _ hHeld (fun hHeld => ?_)
                clear hK K
                try simp only [Act.put, setIfInBounds_toArray, set_cons_zero, set_cons_succ]
                clear hcv
                have hcv := conv_b2s hB78
                refine wpAnyH_ready (rs := [2]) (by kernel_rfl) (by simp) ?_
                refine AllReadyH.cons rfl (fun K hK => ?_) AllReadyH.nil
                try simp only [getElem_toArray, getElem_cons_zero, getElem_cons_succ]
                go_simp
                refine hK.out _ _ hHeld (fun hHeld => ?_)
                clear hK K
                try simp only [Act.put, setIfInBounds_toArray, set_cons_zero, set_cons_succ]
                clear hcv
                refine wpAnyH_take (i := 9) (v := ?_) rfl (by kernel_rfl) (by kernel_rfl) (by kernel_rfl) (fun _ _ _ h => h) (Or.inl ⟨by rfl, ?_⟩) (by assumption) ?_; rotate_left; · (intro wq hSq; (try dsimp only at hSq); go_split_ands; go_simp; (try with_reducible rfl))
                try simp only [Act.put, getElem_toArray, getElem_cons_zero, getElem_cons_succ, setIfInBounds_toArray, set_cons_zero, set_cons_succ]
                refine wpAnyH_take (i := 10) (v := ?_) rfl (by kernel_rfl) (by kernel_rfl) (by kernel_rfl) (fun _ _ _ h => h) (Or.inl ⟨by rfl, ?_⟩) (by assumption) ?_; rotate_left; · (intro wq hSq; (try dsimp only at hSq); go_split_ands; go_simp; (try with_reducible rfl))
                try simp only [Act.put, getElem_toArray, getElem_cons_zero, getElem_cons_succ, setIfInBounds_toArray, set_cons_zero, set_cons_succ]
                refine wpAnyH_ready (rs := [11]) (by kernel_rfl) (by simp) ?_
                refine AllReadyH.cons rfl (fun K hK => ?_) AllReadyH.nil
                try simp only [getElem_toArray, getElem_cons_zero, getElem_cons_succ]
                go_simp
                refine (HLV.out _).mono ?_
                rintro e w11 ⟨rfl, hF11⟩
                go_wp2_with fail
                refine hK.out _ _ (hHeld.trans' hF11) (fun hHeld => ?_)
                clear hK K
                try simp only [Act.put, setIfInBounds_toArray, set_cons_zero, set_cons_succ]
                refine wpAnyH_take (i := 12) (v := ?_) rfl (by kernel_rfl) (by kernel_rfl) (by kernel_rfl) (fun _ _ _ h => h) (Or.inl ⟨by rfl, ?_⟩) (by assumption) ?_; rotate_left; · (intro wq hSq; (try dsimp only at hSq); go_split_ands; go_simp; (try with_reducible rfl))
                try simp only [Act.put, getElem_toArray, getElem_cons_zero, getElem_cons_succ, setIfInBounds_toArray, set_cons_zero, set_cons_succ]
                refine wpAnyH_take (i := 13) (v := ?_) rfl (by kernel_rfl) (by kernel_rfl) (by kernel_rfl) (fun _ _ _ h => h) (Or.inl ⟨by rfl, ?_⟩) (by assumption) ?_; rotate_left; · (intro wq hSq; (try dsimp only at hSq); go_split_ands; go_simp; (try with_reducible rfl))
                try simp only [Act.put, getElem_toArray, getElem_cons_zero, getElem_cons_succ, setIfInBounds_toArray, set_cons_zero, set_cons_succ]
                refine wpAnyH_done (by kernel_rfl) ?_ _
                have HH := Lib.hid hHeld
                clear hHeld hB7 hB8 hF7 hF8 hr7 hr8 hF11
                go_wp2_with fail
                go_ret
                exact ⟨rfl, HFX.out.trans' HH.out⟩
end Go.Proofs.Ytemjdmgfilbfaaa
