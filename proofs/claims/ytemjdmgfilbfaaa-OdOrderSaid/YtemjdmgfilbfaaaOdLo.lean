/-
  OdOrder: the law. (The tree of region 16 is printed by wip/gen_lo.py.)
-/
import Derived.Test.YtemjdmgfilbfaaaOdLp
import Derived.Test.YtemjdmgfilbfaaaOdBg
import Derived.Test.YtemjdmgfilbfaaaOdV
namespace Go.Proofs.Ytemjdmgfilbfaaa
open Go.RowKit
set_option linter.unusedVariables false
set_option linter.unusedSimpArgs false

/-- The entries from the back. -/
theorem rev_step {α : Type} (xs : List α) (r : Nat) (h : r < xs.length) : xs.reverse.take (xs.length - r) = xs.reverse.take (xs.length - (r + 1)) ++ [xs[r]] := by
  have e : xs.length - r = xs.length - (r + 1) + 1 := by omega
  have hk : xs.length - (r + 1) < xs.reverse.length := by simp; omega
  rw [e, List.take_succ_eq_append_getElem hk, List.getElem_reverse]
  have e2 : xs.length - 1 - (xs.length - (r + 1)) = r := by omega
  simp only [e2]
theorem rev_cells (xs : List En) (r : Nat) (h : r < xs.length) : cellsOf cellsE (xs.reverse.take (xs.length - r)) = cellsOf cellsE (xs.reverse.take (xs.length - (r + 1))) ++ cellsE xs[r] := by
  rw [rev_step xs r h]
  unfold cellsOf
  rw [List.flatMap_append]
  simp

set_option maxRecDepth 100000 in
set_option maxHeartbeats 8000000 in
theorem order_any (v0 v1 : Value) (xs : List En) (acs : List ActO) (W : World) (h0 : SlAt cellsE 14 W v0 xs) (hx : ∀ x ∈ xs, x.ok) (hby : xs.length * 120 ≤ 140737488351232) (h1 : SlAt encO 8 W v1 acs) (hg : ∀ a ∈ acs, a.good W) :
    Calls Try.prog 4 #[v0, v1] W fun e w' => e = .returned (.bool true) ∧ Frm (fun _ => False) W w' := by
  have HX := Lib.hid hx
  have H0 := Lib.hid h0
  have HBEG := Lib.hid (begins_any v0 xs W h0 hx hby)
  obtain ⟨A, cap, rfl, hc1, hc2, hA⟩ := h0
  have HA := Lib.hid hA
  have HNEW := Lib.hid (fun v W h => odNew_any v xs.reverse W h (fun x hm => hx x (List.mem_reverse.1 hm)))
  have HLV := Lib.hid (fun W => livesO_any W)
  obtain ⟨A1, cap1, rfl, b1, b2, hA1⟩ := h1
  have HA1 := Lib.hid hA1
  have HG := Lib.hid hg
  unfold ONewP at HNEW
  unfold BeginP at HBEG
  have hn63 : xs.length ≤ 9223372036854775807 := Nat.le_trans hc1 hc2
  have ha63 : acs.length ≤ 9223372036854775807 := Nat.le_trans b1 b2
  clear hby hg hA hA1 hc1 hc2 b1 b2 hx
  by_cases hz : checkE xs = 0
  case neg =>
    have HZ := Lib.hid hz
    clear hz
    go_enter Try.func4, Try.ntmps4
    go_wp2_with (first | (go_at_call 19; refine HBEG.out.mono ?_; rintro e w2 ⟨hF2, ⟨hne, rfl⟩ | h⟩; rotate_left; exact absurd h.1 HZ.out; have HF2 := Lib.hid hF2) | (go_at_call 14; refine (HLV.out _).mono ?_; rintro e w4 ⟨rfl, hF4⟩))
    go_ret
    exact ⟨rfl, HF2.out.trans' hF4⟩
  case pos =>
    have HINV := Lib.hid (linv_new hz HX.out)
    have HREV := Lib.hid (check_rev hz)
    have HRD := Lib.hid (newD_rev hz)
    have hlen := (check_facts hz).1
    rw [HREV.out, HRD.out] at HNEW
    have HZ := Lib.hid hz
    clear hz
    go_enter Try.func4, Try.ntmps4
    go_upto_region 5 with (go_at_call 19; refine HBEG.out.mono ?_; rintro e w2 ⟨hF2, h | ⟨-, a, b, p, l, N, rfl, hPa, hD, hl, hDR, hb0, hbN, hlN, hpN, haN⟩⟩; exact absurd HZ.out h.1; have HF2 := Lib.hid hF2; have HPA := Lib.hid hPa; have HD := Lib.hid hD; have HL := Lib.hid hl; have HB0 := Lib.hid hb0; have HBN := Lib.hid hbN; have HLN := Lib.hid hlN; have HNA : Hid (N ≤ w2.heap.size) := Nat.le_trans haN (Nat.le_of_lt (lt_of_block hPa)))
    clear hF2 hPa hD hl hb0 hbN hlN hDR hpN haN HBEG
    unfold ptr
    go_wp2_with fail
    go_loopw [7, 8] (fun bv i wr => ∃ r : Nat, r ≤ xs.length ∧ i = .int .i64 ((r : Int) - 1) ∧ wr.ownsRow w2.heap.size 42 14 bv (xs.length - r) (cellsOf cellsE (xs.reverse.take (xs.length - r))) ∧ Frm (fun _ => False) w2 wr) (fun _ i _ => (intOf i + 1).toNat)
    case atStart => exact ⟨xs.length, Nat.le_refl _, by go_num, by rw [Nat.sub_self]; exact empty_row _ _ _ _ (Nat.le_refl _), (Frm.refl _ _).alloc _⟩
    case round =>
      obtain ⟨r, hr, rfl, hO, hF⟩ := hrel
      have hFW := HF2.out.trans' hF
      rcases Nat.eq_zero_or_pos r with rfl | hpos
      · have hO2 := hO
        rw [show xs.length - 0 = xs.reverse.length by simp, List.take_length] at hO2
        have hsl := SlAt.of_row cellsE_len hO2
        clear hO2
        have HSL := Lib.hid hsl
        obtain ⟨Al, cl, rfl, g3, g4, _⟩ := row_open hO
        have HFW := Lib.hid hFW
        have HF := Lib.hid hF
        have DU0 := Lib.hid hF
        obtain ⟨wo, hwo⟩ : ∃ wo : World, wo = wr := ⟨_, rfl⟩
        subst hwo
        clear hO hFW hF hsl DU0
        go_wp2_with (go_at_call 12; refine (HNEW.out _ _ HSL.out).mono ?_; rintro e w3 ⟨hF3, ⟨hne, -⟩ | ⟨-, b2, l2, rfl, hD2, hl2, hb2⟩⟩; exact absurd rfl hne; have HDU : Hid (Duo w3 a b p b2 N l l2) := ⟨(HF.out.trans' hF3).heap HPA.out (fun h => h), HD.out.grow (HF.out.trans' hF3), hD2, HLN.out, HBN.out, Nat.le_trans HNA.out (Nat.le_trans HF.out.size hb2)⟩; have HL2 := Lib.hid hl2; have HF3 := Lib.hid (HFW.out.trans' hF3); clear hF3 hD2 hl2 hb2)
        unfold ptr
        go_wp2_with fail
        go_loopw [11] (fun i wr => ∃ (k : Nat) (l1 l2 : List (Nat × Im)), k ≤ acs.length ∧ i = .int .i64 k ∧ Duo wr a b p b2 N l1 l2 ∧ im l2 = im l1 ∧ LInv xs (im l1) ∧ Frm (fun _ => False) W wr) (fun i _ => acs.length - (intOf i).toNat)
        case atStart => exact ⟨0, l, l2, Nat.zero_le _, rfl, HDU.out, HL2.out.trans HL.out.symm, by rw [show im l = newD xs from HL.out]; exact HINV.out, HF3.out⟩
        case round =>
          obtain ⟨k, l1, l2, hk, rfl, hDu, hEq, hIn, hF⟩ := hrel
          by_cases hlt : k < acs.length
          · obtain ⟨g, off, rfl, hgl, hcell⟩ := HA1.out (by omega)
            have HKL : Hid (k + 1 ≤ acs.length) := hlt
            have hga := HG.out _ (List.getElem_mem hlt)
            have q := fun j hj => hF.cell ((hcell k hlt j hj).trans (List.getElem?_eq_getElem (by rw [encO_len]; exact hj))) (fun h => h)
            generalize acs[k] = act at *
            have q0 := q 0 (by decide)
            have q1 := q 1 (by decide)
            have q2 := q 2 (by decide)
            have q3 := q 3 (by decide)
            have q4 := q 4 (by decide)
            have q5 := q 5 (by decide)
            have q6 := q 6 (by decide)
            have q7 := q 7 (by decide)
            simp only [encO, List.getElem_cons_succ, List.getElem_cons_zero, Nat.add_zero] at q0 q1 q2 q3 q4 q5 q6 q7
            obtain ⟨i0, i1, s0, s1, hbs, hbl, _⟩ := hga
            obtain ⟨A3, c3, e3, _, _, hn3⟩ := hbs.open_
            rw [e3] at q3
            have hgl2 := Nat.lt_of_lt_of_le hgl hF.size
            have HINV2 := Lib.hid hIn
            have HEQ := Lib.hid hEq
            have HFR := Lib.hid hF
            have HDU2 := Lib.hid hDu
            have HN3W := Lib.hid hn3
            have HSUB : Hid (0 ≤ act.sub ∧ act.sub ≤ 255) := ⟨s0, s1⟩
            have HLE : Hid ((act.bs.map encB).length = act.bs.length * 1) := by unfold Hid; simp
            have hm1 : 0 + act.bs.length ≤ maxLen := by unfold maxLen; omega
            have hm2 : (0 + act.bs.length) * 1 ≤ 140737488355328 := by omega
            clear hDu hEq hIn hF hn3 hcell q e3 hbs
            go_upto_region 16 with fail
            have kB := heap_new wr (.cells #[.int .i64 act.kind, .int .u16 act.idx, .int .u8 act.sub, .slice A3 act.bs.length c3, .int .i64 act.v.ty, .int .u64 act.v.n, .string (strB2 act.v.b), .int .u16 act.n] 38)
            have hx : Frm (fun _ => False) wr (wr.alloc (.cells #[.int .i64 act.kind, .int .u16 act.idx, .int .u8 act.sub, .slice A3 act.bs.length c3, .int .i64 act.v.ty, .int .u64 act.v.n, .string (strB2 act.v.b), .int .u16 act.n] 38)) := (Frm.refl _ _).alloc _
            have DU := HDU2.out.grow hx
            have HFS := Lib.hid (HFR.out.trans' hx)
            generalize wr.alloc (.cells #[.int .i64 act.kind, .int .u16 act.idx, .int .u8 act.sub, .slice A3 act.bs.length c3, .int .i64 act.v.ty, .int .u64 act.v.n, .string (strB2 act.v.b), .int .u16 act.n] 38) = ws at *
            generalize wr.heap.size = gB at *
            clear hx q0 q1 q2 q3 q4 q5 q6 q7
            have HLO : Hid (∀ i, ((∃ q ∈ l1, i = q.1) ∨ (∃ q ∈ l2, i = q.1)) → W.heap.size ≤ i) := fun i h => h.elim (fun h => DU.lo1 HB0.out h) (fun h => DU.lo2 HB0.out h)
            have HLT : Hid (∀ q ∈ l1, q.1 < ws.heap.size) := fun q hq => DU.d1.lt q hq
            have hcc : ∀ Wx, Frm (fun i => (∃ q ∈ l1, i = q.1) ∨ (∃ q ∈ l2, i = q.1)) ws Wx → Wx.cell? ⟨a, 0, none⟩ = some (ptr b) ∧ Wx.cell? ⟨gB, 1, none⟩ = some (.int .u16 act.idx) ∧ Wx.cell? ⟨gB, 2, none⟩ = some (.int .u8 act.sub) ∧ Wx.cell? ⟨gB, 3, none⟩ = some (.slice A3 act.bs.length c3) := fun Wx h => by
              have hb : ¬ ((∃ q ∈ l1, gB = q.1) ∨ (∃ q ∈ l2, gB = q.1)) := by
                rintro (⟨q, hq, e⟩ | ⟨q, hq, e⟩)
                · exact block_ne (DU.d1.el q hq) kB (by decide) e.symm
                · exact block_ne (DU.d2.el q hq) kB (by decide) e.symm
              have ha : ¬ ((∃ q ∈ l1, a = q.1) ∨ (∃ q ∈ l2, a = q.1)) := by
                rintro (⟨q, hq, e⟩ | ⟨q, hq, e⟩)
                · exact block_ne (DU.d1.el q hq) DU.hp (by decide) e.symm
                · exact block_ne (DU.d2.el q hq) DU.hp (by decide) e.symm
              exact ⟨h.cell (cell_at DU.hp) ha, h.cell (cell_at kB) hb, h.cell (cell_at kB) hb, h.cell (cell_at kB) hb⟩
            have HCC := Lib.hid hcc
            have HN3 : Hid (∀ Wx, Frm (fun i => (∃ q ∈ l1, i = q.1) ∨ (∃ q ∈ l2, i = q.1)) ws Wx → 0 < act.bs.length → NewsOf Wx A3 (act.bs.map encB)) := fun Wx h h0 => by
              obtain ⟨g', off', e, hc⟩ := HN3W.out h0
              refine ⟨g', off', e, fun j u hj => ?_⟩
              have h1 := hc j u hj
              exact h.cell (HFS.out.cell h1 (fun h => h)) (fun hs => absurd (World.block_lt_of_cell? W _ h1) (Nat.not_lt.2 (HLO.out _ hs)))
            have HOK1 := Lib.hid HINV2.out.ok
            have HOK2 : Hid (DOk (im l2)) := by unfold Hid; rw [HEQ.out]; exact HINV2.out.ok
            have hal : a < ws.heap.size := lt_of_block DU.hp
            have hbl2 : gB < ws.heap.size := lt_of_block kB
            have HZ : Frm (fun _ => False) ws ws := Frm.refl _ _
            unfold ptr at HCC
            clear hcc kB
            refine wp_region_held_drew (S := (fun Wx => Frm (fun i => (∃ q ∈ l1, i = q.1) ∨ (∃ q ∈ l2, i = q.1)) ws Wx)) (by kernel_rfl) ((Frm.refl _ _).drew) (fun hHeld => ?_)
            refine wpAnyH_take (i := 0) (v := ?_) rfl (by kernel_rfl) (by kernel_rfl) (by kernel_rfl) (fun _ _ _ h => h) (Or.inl ⟨by rfl, ?_⟩) (by assumption) ?_
            rotate_left
            · intro wq hSq
              have hq := HCC.out wq hSq
              go_split_ands
              go_simp
              try with_reducible rfl
            try simp only [Act.put, List.getElem_toArray, List.getElem_cons_zero, List.getElem_cons_succ, List.setIfInBounds_toArray, List.set_cons_zero, List.set_cons_succ]
            refine wpAnyH_take (i := 1) (v := ?_) rfl (by kernel_rfl) (by kernel_rfl) (by kernel_rfl) (fun _ _ _ h => h) (Or.inl ⟨by rfl, ?_⟩) (by assumption) ?_
            rotate_left
            · intro wq hSq
              have hq := HCC.out wq hSq
              go_split_ands
              go_simp
              try with_reducible rfl
            try simp only [Act.put, List.getElem_toArray, List.getElem_cons_zero, List.getElem_cons_succ, List.setIfInBounds_toArray, List.set_cons_zero, List.set_cons_succ]
            refine wpAnyH_take (i := 2) (v := ?_) rfl (by kernel_rfl) (by kernel_rfl) (by kernel_rfl) (fun _ _ _ h => h) (Or.inl ⟨by rfl, ?_⟩) (by assumption) ?_
            rotate_left
            · intro wq hSq
              have hq := HCC.out wq hSq
              go_split_ands
              go_simp
              try with_reducible rfl
            try simp only [Act.put, List.getElem_toArray, List.getElem_cons_zero, List.getElem_cons_succ, List.setIfInBounds_toArray, List.set_cons_zero, List.set_cons_succ]
            refine wpAnyH_take (i := 3) (v := ?_) rfl (by kernel_rfl) (by kernel_rfl) (by kernel_rfl) (fun _ _ _ h => h) (Or.inl ⟨by rfl, ?_⟩) (by assumption) ?_
            rotate_left
            · intro wq hSq
              have hq := HCC.out wq hSq
              go_split_ands
              go_simp
              try with_reducible rfl
            try simp only [Act.put, List.getElem_toArray, List.getElem_cons_zero, List.getElem_cons_succ, List.setIfInBounds_toArray, List.set_cons_zero, List.set_cons_succ]
            refine wpAnyH_take (i := 4) (v := ?_) rfl (by kernel_rfl) (by kernel_rfl) (by kernel_rfl) (fun _ _ _ h => h) (Or.inl ⟨by rfl, ?_⟩) (by assumption) ?_
            rotate_left
            · intro wq hSq
              have hq := HCC.out wq hSq
              go_split_ands
              go_simp
              try with_reducible rfl
            try simp only [Act.put, List.getElem_toArray, List.getElem_cons_zero, List.getElem_cons_succ, List.setIfInBounds_toArray, List.set_cons_zero, List.set_cons_succ]
            refine wpAnyH_take (i := 5) (v := ?_) rfl (by kernel_rfl) (by kernel_rfl) (by kernel_rfl) (fun _ _ _ h => h) (Or.inl ⟨by rfl, ?_⟩) (by assumption) ?_
            rotate_left
            · intro wq hSq
              have hq := HCC.out wq hSq
              go_split_ands
              go_simp
              try with_reducible rfl
            try simp only [Act.put, List.getElem_toArray, List.getElem_cons_zero, List.getElem_cons_succ, List.setIfInBounds_toArray, List.set_cons_zero, List.set_cons_succ]
            refine wpAnyH_take (i := 6) (v := ?_) rfl (by kernel_rfl) (by kernel_rfl) (by kernel_rfl) (fun _ _ _ h => h) (Or.inl ⟨by rfl, ?_⟩) (by assumption) ?_
            rotate_left
            · intro wq hSq
              have hq := HCC.out wq hSq
              go_split_ands
              go_simp
              try with_reducible rfl
            try simp only [Act.put, List.getElem_toArray, List.getElem_cons_zero, List.getElem_cons_succ, List.setIfInBounds_toArray, List.set_cons_zero, List.set_cons_succ]
            refine wpAnyH_take (i := 7) (v := ?_) rfl (by kernel_rfl) (by kernel_rfl) (by kernel_rfl) (fun _ _ _ h => h) (Or.inl ⟨by rfl, ?_⟩) (by assumption) ?_
            rotate_left
            · intro wq hSq
              have hq := HCC.out wq hSq
              go_split_ands
              go_simp
              try with_reducible rfl
            try simp only [Act.put, List.getElem_toArray, List.getElem_cons_zero, List.getElem_cons_succ, List.setIfInBounds_toArray, List.set_cons_zero, List.set_cons_succ]
            refine wpAnyH_take (i := 9) (v := ?_) rfl (by kernel_rfl) (by kernel_rfl) (by kernel_rfl) (fun _ _ _ h => h) (Or.inl ⟨by rfl, ?_⟩) (by assumption) ?_
            rotate_left
            · intro wq hSq
              have hq := HCC.out wq hSq
              go_split_ands
              go_simp
              try with_reducible rfl
            try simp only [Act.put, List.getElem_toArray, List.getElem_cons_zero, List.getElem_cons_succ, List.setIfInBounds_toArray, List.set_cons_zero, List.set_cons_succ]
            refine wpAnyH_take (i := 10) (v := ?_) rfl (by kernel_rfl) (by kernel_rfl) (by kernel_rfl) (fun _ _ _ h => h) (Or.inl ⟨by rfl, ?_⟩) (by assumption) ?_
            rotate_left
            · intro wq hSq
              have hq := HCC.out wq hSq
              go_split_ands
              go_simp
              try with_reducible rfl
            try simp only [Act.put, List.getElem_toArray, List.getElem_cons_zero, List.getElem_cons_succ, List.setIfInBounds_toArray, List.set_cons_zero, List.set_cons_succ]
            refine wpAnyH_take (i := 13) (v := ?_) rfl (by kernel_rfl) (by kernel_rfl) (by kernel_rfl) (fun _ _ _ h => h) (Or.inl ⟨by rfl, ?_⟩) (by assumption) ?_
            rotate_left
            · intro wq hSq
              have hq := HCC.out wq hSq
              go_split_ands
              go_simp
              try with_reducible rfl
            try simp only [Act.put, List.getElem_toArray, List.getElem_cons_zero, List.getElem_cons_succ, List.setIfInBounds_toArray, List.set_cons_zero, List.set_cons_succ]
            refine wpAnyH_take (i := 14) (v := ?_) rfl (by kernel_rfl) (by kernel_rfl) (by kernel_rfl) (fun _ _ _ h => h) (Or.inl ⟨by rfl, ?_⟩) (by assumption) ?_
            rotate_left
            · intro wq hSq
              have hq := HCC.out wq hSq
              go_split_ands
              go_simp
              try with_reducible rfl
            try simp only [Act.put, List.getElem_toArray, List.getElem_cons_zero, List.getElem_cons_succ, List.setIfInBounds_toArray, List.set_cons_zero, List.set_cons_succ]
            refine wpAnyH_take (i := 15) (v := ?_) rfl (by kernel_rfl) (by kernel_rfl) (by kernel_rfl) (fun _ _ _ h => h) (Or.inl ⟨by rfl, ?_⟩) (by assumption) ?_
            rotate_left
            · intro wq hSq
              have hq := HCC.out wq hSq
              go_split_ands
              go_simp
              try with_reducible rfl
            try simp only [Act.put, List.getElem_toArray, List.getElem_cons_zero, List.getElem_cons_succ, List.setIfInBounds_toArray, List.set_cons_zero, List.set_cons_succ]
            refine wpAnyH_take (i := 16) (v := ?_) rfl (by kernel_rfl) (by kernel_rfl) (by kernel_rfl) (fun _ _ _ h => h) (Or.inl ⟨by rfl, ?_⟩) (by assumption) ?_
            rotate_left
            · intro wq hSq
              have hq := HCC.out wq hSq
              go_split_ands
              go_simp
              try with_reducible rfl
            try simp only [Act.put, List.getElem_toArray, List.getElem_cons_zero, List.getElem_cons_succ, List.setIfInBounds_toArray, List.set_cons_zero, List.set_cons_succ]
            refine wpAnyH_take (i := 17) (v := ?_) rfl (by kernel_rfl) (by kernel_rfl) (by kernel_rfl) (fun _ _ _ h => h) (Or.inl ⟨by rfl, ?_⟩) (by assumption) ?_
            rotate_left
            · intro wq hSq
              have hq := HCC.out wq hSq
              go_split_ands
              go_simp
              try with_reducible rfl
            try simp only [Act.put, List.getElem_toArray, List.getElem_cons_zero, List.getElem_cons_succ, List.setIfInBounds_toArray, List.set_cons_zero, List.set_cons_succ]
            refine wpAnyH_take (i := 19) (v := ?_) rfl (by kernel_rfl) (by kernel_rfl) (by kernel_rfl) (fun _ _ _ h => h) (Or.inl ⟨by rfl, ?_⟩) (by assumption) ?_
            rotate_left
            · intro wq hSq
              have hq := HCC.out wq hSq
              go_split_ands
              go_simp
              try with_reducible rfl
            try simp only [Act.put, List.getElem_toArray, List.getElem_cons_zero, List.getElem_cons_succ, List.setIfInBounds_toArray, List.set_cons_zero, List.set_cons_succ]
            refine wpAnyH_take (i := 20) (v := ?_) rfl (by kernel_rfl) (by kernel_rfl) (by kernel_rfl) (fun _ _ _ h => h) (Or.inl ⟨by rfl, ?_⟩) (by assumption) ?_
            rotate_left
            · intro wq hSq
              have hq := HCC.out wq hSq
              go_split_ands
              go_simp
              try with_reducible rfl
            try simp only [Act.put, List.getElem_toArray, List.getElem_cons_zero, List.getElem_cons_succ, List.setIfInBounds_toArray, List.set_cons_zero, List.set_cons_succ]
            have HZ2 := HZ.drew
            have DU2 := DU.grow HZ2
            clear HZ DU
            have HZ := HZ2
            have DU := DU2
            clear HZ2 DU2
            generalize ws.drew = wc at *
            refine wpAnyH_ready (rs := [8, 18]) (by kernel_rfl) (by simp) ?_
            refine AllReadyH.cons rfl (fun K hK => ?_) (AllReadyH.cons rfl (fun K hK => ?_) AllReadyH.nil)
            · skip
              try simp only [List.getElem_toArray, List.getElem_cons_zero, List.getElem_cons_succ]
              go_simp
              have hx : Frm (fun _ => False) wc (wc.alloc (.cells #[] 5)) := (Frm.refl _ _).alloc _
              have Z1 := heap_new wc (.cells #[] 5)
              have L1 := hHeld.size
              have hOld := hHeld
              clear hHeld
              refine hK.out _ _ (hOld.alloc _) (fun hHeld => ?_)
              clear hK K hOld
              try simp only [Act.put, List.setIfInBounds_toArray, List.set_cons_zero, List.set_cons_succ]
              have DU2 := DU.grow hx
              clear DU
              have DU := DU2
              clear DU2
              have HZ2 := HZ.trans' hx
              clear HZ
              have HZ := HZ2
              clear HZ2
              generalize wc.alloc (.cells #[] 5) = wn at *
              generalize wc.heap.size = g1 at *
              clear hx wc
              generalize wn = wc at *
              refine wpAnyH_ready (rs := [11, 18]) (by kernel_rfl) (by simp) ?_
              refine AllReadyH.cons rfl (fun K hK => ?_) (AllReadyH.cons rfl (fun K hK => ?_) AllReadyH.nil)
              · skip
                try simp only [List.getElem_toArray, List.getElem_cons_zero, List.getElem_cons_succ]
                refine wp_app_src el_u8 (.tmp 71) (.tmp 73) rfl rfl rfl (B := ws.heap.size) (xs := []) (news := act.bs.map encB) (own0 1 Z1 L1) HLE.out (HN3.out wc hHeld) (oneB _) hm1 hm2 hHeld.size ?_
                intro A5 c5 w5 hown5 hfr5
                have hOld := hHeld
                clear hHeld
                refine hK.out _ _ (hOld.trans hfr5 (fun i hi e => by cases e; exact absurd hi (Nat.not_lt.2 L1))) (fun hHeld => ?_)
                clear hK K
                try simp only [Act.put, List.setIfInBounds_toArray, List.set_cons_zero, List.set_cons_succ]
                try simp only [Nat.zero_add]
                have Y1 := Byt.of_row hown5
                have DU2 := DU.app Z1 hfr5
                clear DU
                have DU := DU2
                clear DU2
                have HZ2 := HZ.trans hfr5 (fun i hi e => by cases e; exact absurd hi (Nat.not_lt.2 L1))
                clear HZ
                have HZ := HZ2
                clear HZ2
                clear hown5 hfr5 hOld Z1 L1 wc
                generalize w5 = wc at *
                generalize A5 = A1 at *
                generalize c5 = c1 at *
                refine wpAnyH_ready (rs := [12, 18]) (by kernel_rfl) (by simp) ?_
                refine AllReadyH.cons rfl (fun K hK => ?_) (AllReadyH.cons rfl (fun K hK => ?_) AllReadyH.nil)
                · skip
                  try simp only [List.getElem_toArray, List.getElem_cons_zero, List.getElem_cons_succ]
                  go_simp
                  have HWR := odWrite_any b l1 act.idx act.sub (.slice A1 act.bs.length c1) act.bs wc DU.d1 HOK1.out HSUB.out Y1.at_ hbl
                  unfold WriteP ptr at HWR
                  refine HWR.mono ?_
                  rintro e w6 ⟨rfl, l1', hD6, hl6, hf6, hF6⟩
                  go_wp2_with fail
                  have hOld := hHeld
                  clear hHeld
                  refine hK.out _ _ (hOld.trans hF6 (fun _ _ h => .inl h)) (fun hHeld => ?_)
                  clear hK K
                  try simp only [Act.put, List.setIfInBounds_toArray, List.set_cons_zero, List.set_cons_succ]
                  have DU2 := DU.w1 hF6 hD6 hf6
                  clear DU hF6 hOld hD6 hf6 HWR HZ Y1 wc
                  have DU := DU2
                  clear DU2
                  generalize w6 = wc at *
                  refine wpAnyH_ready (rs := [18]) (by kernel_rfl) (by simp) ?_
                  refine AllReadyH.cons rfl (fun K hK => ?_) AllReadyH.nil
                  try simp only [List.getElem_toArray, List.getElem_cons_zero, List.getElem_cons_succ]
                  go_simp
                  have hx : Frm (fun _ => False) wc (wc.alloc (.cells #[] 5)) := (Frm.refl _ _).alloc _
                  have Z2 := heap_new wc (.cells #[] 5)
                  have L2 := hHeld.size
                  have hOld := hHeld
                  clear hHeld
                  refine hK.out _ _ (hOld.alloc _) (fun hHeld => ?_)
                  clear hK K hOld
                  try simp only [Act.put, List.setIfInBounds_toArray, List.set_cons_zero, List.set_cons_succ]
                  have DU2 := DU.grow hx
                  clear DU
                  have DU := DU2
                  clear DU2
                  generalize wc.alloc (.cells #[] 5) = wn at *
                  generalize wc.heap.size = g2 at *
                  clear hx wc
                  generalize wn = wc at *
                  refine wpAnyH_ready (rs := [21]) (by kernel_rfl) (by simp) ?_
                  refine AllReadyH.cons rfl (fun K hK => ?_) AllReadyH.nil
                  try simp only [List.getElem_toArray, List.getElem_cons_zero, List.getElem_cons_succ]
                  refine wp_app_src el_u8 (.tmp 81) (.tmp 83) rfl rfl rfl (B := ws.heap.size) (xs := []) (news := act.bs.map encB) (own0 1 Z2 L2) HLE.out (HN3.out wc hHeld) (oneB _) hm1 hm2 hHeld.size ?_
                  intro A5 c5 w5 hown5 hfr5
                  have hOld := hHeld
                  clear hHeld
                  refine hK.out _ _ (hOld.trans hfr5 (fun i hi e => by cases e; exact absurd hi (Nat.not_lt.2 L2))) (fun hHeld => ?_)
                  clear hK K
                  try simp only [Act.put, List.setIfInBounds_toArray, List.set_cons_zero, List.set_cons_succ]
                  try simp only [Nat.zero_add]
                  have Y2 := Byt.of_row hown5
                  have DU2 := DU.app Z2 hfr5
                  clear DU
                  have DU := DU2
                  clear DU2
                  clear hown5 hfr5 hOld Z2 L2 wc
                  generalize w5 = wc at *
                  generalize A5 = A2 at *
                  generalize c5 = c2 at *
                  refine wpAnyH_ready (rs := [22]) (by kernel_rfl) (by simp) ?_
                  refine AllReadyH.cons rfl (fun K hK => ?_) AllReadyH.nil
                  try simp only [List.getElem_toArray, List.getElem_cons_zero, List.getElem_cons_succ]
                  go_simp
                  have HWR := odWrite_any b2 l2 act.idx act.sub (.slice A2 act.bs.length c2) act.bs wc DU.d2 HOK2.out HSUB.out Y2.at_ hbl
                  unfold WriteP ptr at HWR
                  rw [HEQ.out] at HWR
                  refine HWR.mono ?_
                  rintro e w7 ⟨rfl, l2', hD7, hl7, hf7, hF7⟩
                  go_wp2_with fail
                  have hOld := hHeld
                  clear hHeld
                  refine hK.out _ _ (hOld.trans hF7 (fun _ _ h => .inr h)) (fun hHeld => ?_)
                  clear hK K
                  try simp only [Act.put, List.setIfInBounds_toArray, List.set_cons_zero, List.set_cons_succ]
                  have DU2 := DU.w2 hF7 hD7
                  refine wpAnyH_take (i := 23) (v := ?_) rfl (by kernel_rfl) (by kernel_rfl) (by kernel_rfl) (fun _ _ _ h => h) (Or.inl ⟨by rfl, ?_⟩) (by assumption) ?_
                  rotate_left
                  · intro wq hSq
                    try dsimp only at hSq
                    go_split_ands
                    go_simp
                    try with_reducible rfl
                  try simp only [Act.put, List.getElem_toArray, List.getElem_cons_zero, List.getElem_cons_succ, List.setIfInBounds_toArray, List.set_cons_zero, List.set_cons_succ]
                  refine wpAnyH_done (by kernel_rfl) ?_ _
                  have HH := Lib.hid hHeld
                  clear DU hF7 hOld hD7 hf7 HWR Y2 wc hHeld
                  go_wp2_with fail
                  go_roundw
                  case rel => exact ⟨k + 1, l1', l2', HKL.out, by go_num, DU2, by rw [hl7, hl6], by rw [hl6]; exact linv_write HINV2.out _ _ _, HFS.out.trans HH.out (fun i hi h => absurd hi (Nat.not_lt.2 (HLO.out i h)))⟩
                  case measure => have := HKL.out; simp [intOf]; omega
                · skip
                  try simp only [List.getElem_toArray, List.getElem_cons_zero, List.getElem_cons_succ]
                  go_simp
                  have hx : Frm (fun _ => False) wc (wc.alloc (.cells #[] 5)) := (Frm.refl _ _).alloc _
                  have Z2 := heap_new wc (.cells #[] 5)
                  have L2 := hHeld.size
                  have hOld := hHeld
                  clear hHeld
                  refine hK.out _ _ (hOld.alloc _) (fun hHeld => ?_)
                  clear hK K hOld
                  try simp only [Act.put, List.setIfInBounds_toArray, List.set_cons_zero, List.set_cons_succ]
                  have DU2 := DU.grow hx
                  clear DU
                  have DU := DU2
                  clear DU2
                  have Yo := Y1.grow hx
                  clear Y1
                  have Y1 := Yo
                  clear Yo
                  have HZ2 := HZ.trans' hx
                  clear HZ
                  have HZ := HZ2
                  clear HZ2
                  generalize wc.alloc (.cells #[] 5) = wn at *
                  generalize wc.heap.size = g2 at *
                  clear hx wc
                  generalize wn = wc at *
                  refine wpAnyH_ready (rs := [12]) (by kernel_rfl) (by simp) ?_
                  refine AllReadyH.cons rfl (fun K hK => ?_) AllReadyH.nil
                  try simp only [List.getElem_toArray, List.getElem_cons_zero, List.getElem_cons_succ]
                  go_simp
                  have HWR := odWrite_any b l1 act.idx act.sub (.slice A1 act.bs.length c1) act.bs wc DU.d1 HOK1.out HSUB.out Y1.at_ hbl
                  unfold WriteP ptr at HWR
                  refine HWR.mono ?_
                  rintro e w6 ⟨rfl, l1', hD6, hl6, hf6, hF6⟩
                  go_wp2_with fail
                  have hOld := hHeld
                  clear hHeld
                  refine hK.out _ _ (hOld.trans hF6 (fun _ _ h => .inl h)) (fun hHeld => ?_)
                  clear hK K
                  try simp only [Act.put, List.setIfInBounds_toArray, List.set_cons_zero, List.set_cons_succ]
                  have DU2 := DU.w1 hF6 hD6 hf6
                  have Zo := hF6.heap Z2 (fun ⟨q, hq, e⟩ => block_ne (DU.d1.el q hq) Z2 (by decide) e.symm)
                  clear Z2
                  have Z2 := Zo
                  clear Zo
                  clear DU hF6 hOld hD6 hf6 HWR HZ Y1 wc
                  have DU := DU2
                  clear DU2
                  generalize w6 = wc at *
                  refine wpAnyH_ready (rs := [21]) (by kernel_rfl) (by simp) ?_
                  refine AllReadyH.cons rfl (fun K hK => ?_) AllReadyH.nil
                  try simp only [List.getElem_toArray, List.getElem_cons_zero, List.getElem_cons_succ]
                  refine wp_app_src el_u8 (.tmp 81) (.tmp 83) rfl rfl rfl (B := ws.heap.size) (xs := []) (news := act.bs.map encB) (own0 1 Z2 L2) HLE.out (HN3.out wc hHeld) (oneB _) hm1 hm2 hHeld.size ?_
                  intro A5 c5 w5 hown5 hfr5
                  have hOld := hHeld
                  clear hHeld
                  refine hK.out _ _ (hOld.trans hfr5 (fun i hi e => by cases e; exact absurd hi (Nat.not_lt.2 L2))) (fun hHeld => ?_)
                  clear hK K
                  try simp only [Act.put, List.setIfInBounds_toArray, List.set_cons_zero, List.set_cons_succ]
                  try simp only [Nat.zero_add]
                  have Y2 := Byt.of_row hown5
                  have DU2 := DU.app Z2 hfr5
                  clear DU
                  have DU := DU2
                  clear DU2
                  clear hown5 hfr5 hOld Z2 L2 wc
                  generalize w5 = wc at *
                  generalize A5 = A2 at *
                  generalize c5 = c2 at *
                  refine wpAnyH_ready (rs := [22]) (by kernel_rfl) (by simp) ?_
                  refine AllReadyH.cons rfl (fun K hK => ?_) AllReadyH.nil
                  try simp only [List.getElem_toArray, List.getElem_cons_zero, List.getElem_cons_succ]
                  go_simp
                  have HWR := odWrite_any b2 l2 act.idx act.sub (.slice A2 act.bs.length c2) act.bs wc DU.d2 HOK2.out HSUB.out Y2.at_ hbl
                  unfold WriteP ptr at HWR
                  rw [HEQ.out] at HWR
                  refine HWR.mono ?_
                  rintro e w7 ⟨rfl, l2', hD7, hl7, hf7, hF7⟩
                  go_wp2_with fail
                  have hOld := hHeld
                  clear hHeld
                  refine hK.out _ _ (hOld.trans hF7 (fun _ _ h => .inr h)) (fun hHeld => ?_)
                  clear hK K
                  try simp only [Act.put, List.setIfInBounds_toArray, List.set_cons_zero, List.set_cons_succ]
                  have DU2 := DU.w2 hF7 hD7
                  refine wpAnyH_take (i := 23) (v := ?_) rfl (by kernel_rfl) (by kernel_rfl) (by kernel_rfl) (fun _ _ _ h => h) (Or.inl ⟨by rfl, ?_⟩) (by assumption) ?_
                  rotate_left
                  · intro wq hSq
                    try dsimp only at hSq
                    go_split_ands
                    go_simp
                    try with_reducible rfl
                  try simp only [Act.put, List.getElem_toArray, List.getElem_cons_zero, List.getElem_cons_succ, List.setIfInBounds_toArray, List.set_cons_zero, List.set_cons_succ]
                  refine wpAnyH_done (by kernel_rfl) ?_ _
                  have HH := Lib.hid hHeld
                  clear DU hF7 hOld hD7 hf7 HWR Y2 wc hHeld
                  go_wp2_with fail
                  go_roundw
                  case rel => exact ⟨k + 1, l1', l2', HKL.out, by go_num, DU2, by rw [hl7, hl6], by rw [hl6]; exact linv_write HINV2.out _ _ _, HFS.out.trans HH.out (fun i hi h => absurd hi (Nat.not_lt.2 (HLO.out i h)))⟩
                  case measure => have := HKL.out; simp [intOf]; omega
              · skip
                try simp only [List.getElem_toArray, List.getElem_cons_zero, List.getElem_cons_succ]
                go_simp
                have hx : Frm (fun _ => False) wc (wc.alloc (.cells #[] 5)) := (Frm.refl _ _).alloc _
                have Z2 := heap_new wc (.cells #[] 5)
                have L2 := hHeld.size
                have hOld := hHeld
                clear hHeld
                refine hK.out _ _ (hOld.alloc _) (fun hHeld => ?_)
                clear hK K hOld
                try simp only [Act.put, List.setIfInBounds_toArray, List.set_cons_zero, List.set_cons_succ]
                have DU2 := DU.grow hx
                clear DU
                have DU := DU2
                clear DU2
                have Zo := heap_alloc_old (o := .cells #[] 5) Z1
                have hne : g1 ≠ wc.heap.size := Nat.ne_of_lt (lt_of_block Z1)
                clear Z1
                have Z1 := Zo
                clear Zo
                have HZ2 := HZ.trans' hx
                clear HZ
                have HZ := HZ2
                clear HZ2
                generalize wc.alloc (.cells #[] 5) = wn at *
                generalize wc.heap.size = g2 at *
                clear hx wc
                generalize wn = wc at *
                refine wpAnyH_ready (rs := [11]) (by kernel_rfl) (by simp) ?_
                refine AllReadyH.cons rfl (fun K hK => ?_) AllReadyH.nil
                try simp only [List.getElem_toArray, List.getElem_cons_zero, List.getElem_cons_succ]
                refine wp_app_src el_u8 (.tmp 71) (.tmp 73) rfl rfl rfl (B := ws.heap.size) (xs := []) (news := act.bs.map encB) (own0 1 Z1 L1) HLE.out (HN3.out wc hHeld) (oneB _) hm1 hm2 hHeld.size ?_
                intro A5 c5 w5 hown5 hfr5
                have hOld := hHeld
                clear hHeld
                refine hK.out _ _ (hOld.trans hfr5 (fun i hi e => by cases e; exact absurd hi (Nat.not_lt.2 L1))) (fun hHeld => ?_)
                clear hK K
                try simp only [Act.put, List.setIfInBounds_toArray, List.set_cons_zero, List.set_cons_succ]
                try simp only [Nat.zero_add]
                have Y1 := Byt.of_row hown5
                have DU2 := DU.app Z1 hfr5
                clear DU
                have DU := DU2
                clear DU2
                have Zo := hfr5.heap Z2 (fun e => by cases e; first | exact hne rfl | exact hne.symm rfl)
                clear Z2
                have Z2 := Zo
                clear Zo
                have HZ2 := HZ.trans hfr5 (fun i hi e => by cases e; exact absurd hi (Nat.not_lt.2 L1))
                clear HZ
                have HZ := HZ2
                clear HZ2
                clear hown5 hfr5 hOld Z1 L1 wc
                generalize w5 = wc at *
                generalize A5 = A1 at *
                generalize c5 = c1 at *
                refine wpAnyH_ready (rs := [12]) (by kernel_rfl) (by simp) ?_
                refine AllReadyH.cons rfl (fun K hK => ?_) AllReadyH.nil
                try simp only [List.getElem_toArray, List.getElem_cons_zero, List.getElem_cons_succ]
                go_simp
                have HWR := odWrite_any b l1 act.idx act.sub (.slice A1 act.bs.length c1) act.bs wc DU.d1 HOK1.out HSUB.out Y1.at_ hbl
                unfold WriteP ptr at HWR
                refine HWR.mono ?_
                rintro e w6 ⟨rfl, l1', hD6, hl6, hf6, hF6⟩
                go_wp2_with fail
                have hOld := hHeld
                clear hHeld
                refine hK.out _ _ (hOld.trans hF6 (fun _ _ h => .inl h)) (fun hHeld => ?_)
                clear hK K
                try simp only [Act.put, List.setIfInBounds_toArray, List.set_cons_zero, List.set_cons_succ]
                have DU2 := DU.w1 hF6 hD6 hf6
                have Zo := hF6.heap Z2 (fun ⟨q, hq, e⟩ => block_ne (DU.d1.el q hq) Z2 (by decide) e.symm)
                clear Z2
                have Z2 := Zo
                clear Zo
                clear DU hF6 hOld hD6 hf6 HWR HZ Y1 wc
                have DU := DU2
                clear DU2
                generalize w6 = wc at *
                refine wpAnyH_ready (rs := [21]) (by kernel_rfl) (by simp) ?_
                refine AllReadyH.cons rfl (fun K hK => ?_) AllReadyH.nil
                try simp only [List.getElem_toArray, List.getElem_cons_zero, List.getElem_cons_succ]
                refine wp_app_src el_u8 (.tmp 81) (.tmp 83) rfl rfl rfl (B := ws.heap.size) (xs := []) (news := act.bs.map encB) (own0 1 Z2 L2) HLE.out (HN3.out wc hHeld) (oneB _) hm1 hm2 hHeld.size ?_
                intro A5 c5 w5 hown5 hfr5
                have hOld := hHeld
                clear hHeld
                refine hK.out _ _ (hOld.trans hfr5 (fun i hi e => by cases e; exact absurd hi (Nat.not_lt.2 L2))) (fun hHeld => ?_)
                clear hK K
                try simp only [Act.put, List.setIfInBounds_toArray, List.set_cons_zero, List.set_cons_succ]
                try simp only [Nat.zero_add]
                have Y2 := Byt.of_row hown5
                have DU2 := DU.app Z2 hfr5
                clear DU
                have DU := DU2
                clear DU2
                clear hown5 hfr5 hOld Z2 L2 wc
                generalize w5 = wc at *
                generalize A5 = A2 at *
                generalize c5 = c2 at *
                refine wpAnyH_ready (rs := [22]) (by kernel_rfl) (by simp) ?_
                refine AllReadyH.cons rfl (fun K hK => ?_) AllReadyH.nil
                try simp only [List.getElem_toArray, List.getElem_cons_zero, List.getElem_cons_succ]
                go_simp
                have HWR := odWrite_any b2 l2 act.idx act.sub (.slice A2 act.bs.length c2) act.bs wc DU.d2 HOK2.out HSUB.out Y2.at_ hbl
                unfold WriteP ptr at HWR
                rw [HEQ.out] at HWR
                refine HWR.mono ?_
                rintro e w7 ⟨rfl, l2', hD7, hl7, hf7, hF7⟩
                go_wp2_with fail
                have hOld := hHeld
                clear hHeld
                refine hK.out _ _ (hOld.trans hF7 (fun _ _ h => .inr h)) (fun hHeld => ?_)
                clear hK K
                try simp only [Act.put, List.setIfInBounds_toArray, List.set_cons_zero, List.set_cons_succ]
                have DU2 := DU.w2 hF7 hD7
                refine wpAnyH_take (i := 23) (v := ?_) rfl (by kernel_rfl) (by kernel_rfl) (by kernel_rfl) (fun _ _ _ h => h) (Or.inl ⟨by rfl, ?_⟩) (by assumption) ?_
                rotate_left
                · intro wq hSq
                  try dsimp only at hSq
                  go_split_ands
                  go_simp
                  try with_reducible rfl
                try simp only [Act.put, List.getElem_toArray, List.getElem_cons_zero, List.getElem_cons_succ, List.setIfInBounds_toArray, List.set_cons_zero, List.set_cons_succ]
                refine wpAnyH_done (by kernel_rfl) ?_ _
                have HH := Lib.hid hHeld
                clear DU hF7 hOld hD7 hf7 HWR Y2 wc hHeld
                go_wp2_with fail
                go_roundw
                case rel => exact ⟨k + 1, l1', l2', HKL.out, by go_num, DU2, by rw [hl7, hl6], by rw [hl6]; exact linv_write HINV2.out _ _ _, HFS.out.trans HH.out (fun i hi h => absurd hi (Nat.not_lt.2 (HLO.out i h)))⟩
                case measure => have := HKL.out; simp [intOf]; omega
            · skip
              try simp only [List.getElem_toArray, List.getElem_cons_zero, List.getElem_cons_succ]
              go_simp
              have hx : Frm (fun _ => False) wc (wc.alloc (.cells #[] 5)) := (Frm.refl _ _).alloc _
              have Z2 := heap_new wc (.cells #[] 5)
              have L2 := hHeld.size
              have hOld := hHeld
              clear hHeld
              refine hK.out _ _ (hOld.alloc _) (fun hHeld => ?_)
              clear hK K hOld
              try simp only [Act.put, List.setIfInBounds_toArray, List.set_cons_zero, List.set_cons_succ]
              have DU2 := DU.grow hx
              clear DU
              have DU := DU2
              clear DU2
              have HZ2 := HZ.trans' hx
              clear HZ
              have HZ := HZ2
              clear HZ2
              generalize wc.alloc (.cells #[] 5) = wn at *
              generalize wc.heap.size = g2 at *
              clear hx wc
              generalize wn = wc at *
              refine wpAnyH_ready (rs := [8]) (by kernel_rfl) (by simp) ?_
              refine AllReadyH.cons rfl (fun K hK => ?_) AllReadyH.nil
              try simp only [List.getElem_toArray, List.getElem_cons_zero, List.getElem_cons_succ]
              go_simp
              have hx : Frm (fun _ => False) wc (wc.alloc (.cells #[] 5)) := (Frm.refl _ _).alloc _
              have Z1 := heap_new wc (.cells #[] 5)
              have L1 := hHeld.size
              have hOld := hHeld
              clear hHeld
              refine hK.out _ _ (hOld.alloc _) (fun hHeld => ?_)
              clear hK K hOld
              try simp only [Act.put, List.setIfInBounds_toArray, List.set_cons_zero, List.set_cons_succ]
              have DU2 := DU.grow hx
              clear DU
              have DU := DU2
              clear DU2
              have Zo := heap_alloc_old (o := .cells #[] 5) Z2
              have hne : g2 ≠ wc.heap.size := Nat.ne_of_lt (lt_of_block Z2)
              clear Z2
              have Z2 := Zo
              clear Zo
              have HZ2 := HZ.trans' hx
              clear HZ
              have HZ := HZ2
              clear HZ2
              generalize wc.alloc (.cells #[] 5) = wn at *
              generalize wc.heap.size = g1 at *
              clear hx wc
              generalize wn = wc at *
              refine wpAnyH_ready (rs := [11]) (by kernel_rfl) (by simp) ?_
              refine AllReadyH.cons rfl (fun K hK => ?_) AllReadyH.nil
              try simp only [List.getElem_toArray, List.getElem_cons_zero, List.getElem_cons_succ]
              refine wp_app_src el_u8 (.tmp 71) (.tmp 73) rfl rfl rfl (B := ws.heap.size) (xs := []) (news := act.bs.map encB) (own0 1 Z1 L1) HLE.out (HN3.out wc hHeld) (oneB _) hm1 hm2 hHeld.size ?_
              intro A5 c5 w5 hown5 hfr5
              have hOld := hHeld
              clear hHeld
              refine hK.out _ _ (hOld.trans hfr5 (fun i hi e => by cases e; exact absurd hi (Nat.not_lt.2 L1))) (fun hHeld => ?_)
              clear hK K
              try simp only [Act.put, List.setIfInBounds_toArray, List.set_cons_zero, List.set_cons_succ]
              try simp only [Nat.zero_add]
              have Y1 := Byt.of_row hown5
              have DU2 := DU.app Z1 hfr5
              clear DU
              have DU := DU2
              clear DU2
              have Zo := hfr5.heap Z2 (fun e => by cases e; first | exact hne rfl | exact hne.symm rfl)
              clear Z2
              have Z2 := Zo
              clear Zo
              have HZ2 := HZ.trans hfr5 (fun i hi e => by cases e; exact absurd hi (Nat.not_lt.2 L1))
              clear HZ
              have HZ := HZ2
              clear HZ2
              clear hown5 hfr5 hOld Z1 L1 wc
              generalize w5 = wc at *
              generalize A5 = A1 at *
              generalize c5 = c1 at *
              refine wpAnyH_ready (rs := [12]) (by kernel_rfl) (by simp) ?_
              refine AllReadyH.cons rfl (fun K hK => ?_) AllReadyH.nil
              try simp only [List.getElem_toArray, List.getElem_cons_zero, List.getElem_cons_succ]
              go_simp
              have HWR := odWrite_any b l1 act.idx act.sub (.slice A1 act.bs.length c1) act.bs wc DU.d1 HOK1.out HSUB.out Y1.at_ hbl
              unfold WriteP ptr at HWR
              refine HWR.mono ?_
              rintro e w6 ⟨rfl, l1', hD6, hl6, hf6, hF6⟩
              go_wp2_with fail
              have hOld := hHeld
              clear hHeld
              refine hK.out _ _ (hOld.trans hF6 (fun _ _ h => .inl h)) (fun hHeld => ?_)
              clear hK K
              try simp only [Act.put, List.setIfInBounds_toArray, List.set_cons_zero, List.set_cons_succ]
              have DU2 := DU.w1 hF6 hD6 hf6
              have Zo := hF6.heap Z2 (fun ⟨q, hq, e⟩ => block_ne (DU.d1.el q hq) Z2 (by decide) e.symm)
              clear Z2
              have Z2 := Zo
              clear Zo
              clear DU hF6 hOld hD6 hf6 HWR HZ Y1 wc
              have DU := DU2
              clear DU2
              generalize w6 = wc at *
              refine wpAnyH_ready (rs := [21]) (by kernel_rfl) (by simp) ?_
              refine AllReadyH.cons rfl (fun K hK => ?_) AllReadyH.nil
              try simp only [List.getElem_toArray, List.getElem_cons_zero, List.getElem_cons_succ]
              refine wp_app_src el_u8 (.tmp 81) (.tmp 83) rfl rfl rfl (B := ws.heap.size) (xs := []) (news := act.bs.map encB) (own0 1 Z2 L2) HLE.out (HN3.out wc hHeld) (oneB _) hm1 hm2 hHeld.size ?_
              intro A5 c5 w5 hown5 hfr5
              have hOld := hHeld
              clear hHeld
              refine hK.out _ _ (hOld.trans hfr5 (fun i hi e => by cases e; exact absurd hi (Nat.not_lt.2 L2))) (fun hHeld => ?_)
              clear hK K
              try simp only [Act.put, List.setIfInBounds_toArray, List.set_cons_zero, List.set_cons_succ]
              try simp only [Nat.zero_add]
              have Y2 := Byt.of_row hown5
              have DU2 := DU.app Z2 hfr5
              clear DU
              have DU := DU2
              clear DU2
              clear hown5 hfr5 hOld Z2 L2 wc
              generalize w5 = wc at *
              generalize A5 = A2 at *
              generalize c5 = c2 at *
              refine wpAnyH_ready (rs := [22]) (by kernel_rfl) (by simp) ?_
              refine AllReadyH.cons rfl (fun K hK => ?_) AllReadyH.nil
              try simp only [List.getElem_toArray, List.getElem_cons_zero, List.getElem_cons_succ]
              go_simp
              have HWR := odWrite_any b2 l2 act.idx act.sub (.slice A2 act.bs.length c2) act.bs wc DU.d2 HOK2.out HSUB.out Y2.at_ hbl
              unfold WriteP ptr at HWR
              rw [HEQ.out] at HWR
              refine HWR.mono ?_
              rintro e w7 ⟨rfl, l2', hD7, hl7, hf7, hF7⟩
              go_wp2_with fail
              have hOld := hHeld
              clear hHeld
              refine hK.out _ _ (hOld.trans hF7 (fun _ _ h => .inr h)) (fun hHeld => ?_)
              clear hK K
              try simp only [Act.put, List.setIfInBounds_toArray, List.set_cons_zero, List.set_cons_succ]
              have DU2 := DU.w2 hF7 hD7
              refine wpAnyH_take (i := 23) (v := ?_) rfl (by kernel_rfl) (by kernel_rfl) (by kernel_rfl) (fun _ _ _ h => h) (Or.inl ⟨by rfl, ?_⟩) (by assumption) ?_
              rotate_left
              · intro wq hSq
                try dsimp only at hSq
                go_split_ands
                go_simp
                try with_reducible rfl
              try simp only [Act.put, List.getElem_toArray, List.getElem_cons_zero, List.getElem_cons_succ, List.setIfInBounds_toArray, List.set_cons_zero, List.set_cons_succ]
              refine wpAnyH_done (by kernel_rfl) ?_ _
              have HH := Lib.hid hHeld
              clear DU hF7 hOld hD7 hf7 HWR Y2 wc hHeld
              go_wp2_with fail
              go_roundw
              case rel => exact ⟨k + 1, l1', l2', HKL.out, by go_num, DU2, by rw [hl7, hl6], by rw [hl6]; exact linv_write HINV2.out _ _ _, HFS.out.trans HH.out (fun i hi h => absurd hi (Nat.not_lt.2 (HLO.out i h)))⟩
              case measure => have := HKL.out; simp [intOf]; omega
          · have hlen1 : l1.length ≤ 1024 := by have := hIn.ok.len; simpa [im] using this
            have hok2 : DOk (im l2) := by rw [hEq]; exact hIn.ok
            have hlen2 : l2.length ≤ 1024 := by have := hok2.len; simpa [im] using this
            have hls1 := fun w hD => odList_any b l1 w hD hlen1
            have hls2 := fun w hD => odList_any b2 l2 w hD hlen2
            have hsv1 := fun w hD => odSave_any b l1 w hD hIn.ok
            have hsv2 := fun w hD => odSave_any b2 l2 w hD hok2
            unfold ListP at hls1 hls2
            unfold SaveP at hsv1 hsv2
            simp only [hEq] at hls2 hsv2
            generalize im l1 = d at *
            have HLS1 := Lib.hid hls1
            have HLS2 := Lib.hid hls2
            have HSV1 := Lib.hid hsv1
            have HSV2 := Lib.hid hsv2
            have HDU3 := Lib.hid hDu
            have HFR3 := Lib.hid hF
            have hdl : d.length ≤ 1024 := hIn.ok.len
            have ca : wr.cell? ⟨a, 0, none⟩ = some (ptr b) := cell_at hDu.hp
            obtain ⟨wo, hwo⟩ : ∃ wo : World, wo = wr := ⟨_, rfl⟩
            subst hwo
            unfold ptr at HLS1 HLS2 HSV1 HSV2 ca
            clear hls1 hls2 hsv1 hsv2 hDu hF hIn hEq hok2 hlen1 hlen2 hr hk
            go_wp2_with fail
            refine (HLS1.out _ HDU3.out.d1).mono ?_
            rintro e w5 ⟨v5, rfl, hr5, hF5⟩
            obtain ⟨A5, c5, rfl, _, _, _⟩ := row_open hr5
            have HR5 := Lib.hid (SlAt.of_row (xs := d.map (·.1)) cellsE_len (by simpa using hr5))
            have HF5 := Lib.hid hF5
            clear hr5 hF5
            go_wp2_with fail
            refine (HLS2.out _ (HDU3.out.d2.grow HF5.out)).mono ?_
            rintro e w6 ⟨v6, rfl, hr6, hF6⟩
            obtain ⟨A6, c6, rfl, _, _, _⟩ := row_open hr6
            have HR6 := Lib.hid (SlAt.of_row (xs := d.map (·.1)) cellsE_len (by simpa using hr6))
            have HF6 := Lib.hid hF6
            clear hr6 hF6
            go_upto_region 19 with fail
            have HDU6 := Lib.hid ((HDU3.out.grow HF5.out).grow HF6.out)
            have HFR6 := Lib.hid ((HFR3.out.trans' HF5.out).trans' HF6.out)
            have HR56 := Lib.hid (SlAt.frm cellsE_len HR5.out HF6.out)
            have hca : ∀ Wx, Frm (fun _ => False) w6 Wx → Wx.cell? ⟨a, 0, none⟩ = some (.pointer (some ⟨b, 0, none⟩)) := fun Wx h => h.cell (cell_at HDU6.out.hp) (fun h => h)
            have HCA := Lib.hid hca
            have hal : a < w6.heap.size := lt_of_block HDU6.out.hp
            clear hca ca HR5 HDU3 HF5 HF6 HFR3
            refine wp_region_held_drew (S := fun W => Frm (fun _ => False) w6 W) (by kernel_rfl) ((Frm.refl _ _).drew) (fun hHeld => ?_)
            refine wpAnyH_take (i := 0) (v := ?_) rfl (by kernel_rfl) (by kernel_rfl) (by kernel_rfl) (fun _ _ _ h => h) (Or.inl ⟨by rfl, ?_⟩) (by assumption) ?_
            rotate_left
            · intro wq hSq
              have hq := HCA.out wq hSq
              go_split_ands
              go_simp
              try with_reducible rfl
            try simp only [Act.put, List.getElem_toArray, List.getElem_cons_zero, List.getElem_cons_succ, List.setIfInBounds_toArray, List.set_cons_zero, List.set_cons_succ]
            refine wpAnyH_take (i := 1) (v := ?_) rfl (by kernel_rfl) (by kernel_rfl) (by kernel_rfl) (fun _ _ _ h => h) (Or.inl ⟨by rfl, ?_⟩) (by assumption) ?_
            rotate_left
            · intro wq hSq
              have hq := HCA.out wq hSq
              go_split_ands
              go_simp
              try with_reducible rfl
            try simp only [Act.put, List.getElem_toArray, List.getElem_cons_zero, List.getElem_cons_succ, List.setIfInBounds_toArray, List.set_cons_zero, List.set_cons_succ]
            refine wpAnyH_take (i := 2) (v := ?_) rfl (by kernel_rfl) (by kernel_rfl) (by kernel_rfl) (fun _ _ _ h => h) (Or.inl ⟨by rfl, ?_⟩) (by assumption) ?_
            rotate_left
            · intro wq hSq
              have hq := HCA.out wq hSq
              go_split_ands
              go_simp
              try with_reducible rfl
            try simp only [Act.put, List.getElem_toArray, List.getElem_cons_zero, List.getElem_cons_succ, List.setIfInBounds_toArray, List.set_cons_zero, List.set_cons_succ]
            refine wpAnyH_take (i := 3) (v := ?_) rfl (by kernel_rfl) (by kernel_rfl) (by kernel_rfl) (fun _ _ _ h => h) (Or.inl ⟨by rfl, ?_⟩) (by assumption) ?_
            rotate_left
            · intro wq hSq
              have hq := HCA.out wq hSq
              go_split_ands
              go_simp
              try with_reducible rfl
            try simp only [Act.put, List.getElem_toArray, List.getElem_cons_zero, List.getElem_cons_succ, List.setIfInBounds_toArray, List.set_cons_zero, List.set_cons_succ]
            refine wpAnyH_take (i := 4) (v := ?_) rfl (by kernel_rfl) (by kernel_rfl) (by kernel_rfl) (fun _ _ _ h => h) (Or.inl ⟨by rfl, ?_⟩) (by assumption) ?_
            rotate_left
            · intro wq hSq
              have hq := HCA.out wq hSq
              go_split_ands
              go_simp
              try with_reducible rfl
            try simp only [Act.put, List.getElem_toArray, List.getElem_cons_zero, List.getElem_cons_succ, List.setIfInBounds_toArray, List.set_cons_zero, List.set_cons_succ]
            refine wpAnyH_take (i := 5) (v := ?_) rfl (by kernel_rfl) (by kernel_rfl) (by kernel_rfl) (fun _ _ _ h => h) (Or.inl ⟨by rfl, ?_⟩) (by assumption) ?_
            rotate_left
            · intro wq hSq
              have hq := HCA.out wq hSq
              go_split_ands
              go_simp
              try with_reducible rfl
            try simp only [Act.put, List.getElem_toArray, List.getElem_cons_zero, List.getElem_cons_succ, List.setIfInBounds_toArray, List.set_cons_zero, List.set_cons_succ]
            refine wpAnyH_take (i := 6) (v := ?_) rfl (by kernel_rfl) (by kernel_rfl) (by kernel_rfl) (fun _ _ _ h => h) (Or.inl ⟨by rfl, ?_⟩) (by assumption) ?_
            rotate_left
            · intro wq hSq
              have hq := HCA.out wq hSq
              go_split_ands
              go_simp
              try with_reducible rfl
            try simp only [Act.put, List.getElem_toArray, List.getElem_cons_zero, List.getElem_cons_succ, List.setIfInBounds_toArray, List.set_cons_zero, List.set_cons_succ]
            refine wpAnyH_take (i := 7) (v := ?_) rfl (by kernel_rfl) (by kernel_rfl) (by kernel_rfl) (fun _ _ _ h => h) (Or.inl ⟨by rfl, ?_⟩) (by assumption) ?_
            rotate_left
            · intro wq hSq
              have hq := HCA.out wq hSq
              go_split_ands
              go_simp
              try with_reducible rfl
            try simp only [Act.put, List.getElem_toArray, List.getElem_cons_zero, List.getElem_cons_succ, List.setIfInBounds_toArray, List.set_cons_zero, List.set_cons_succ]
            refine wpAnyH_take (i := 8) (v := ?_) rfl (by kernel_rfl) (by kernel_rfl) (by kernel_rfl) (fun _ _ _ h => h) (Or.inl ⟨by rfl, ?_⟩) (by assumption) ?_
            rotate_left
            · intro wq hSq
              have hq := HCA.out wq hSq
              go_split_ands
              go_simp
              try with_reducible rfl
            try simp only [Act.put, List.getElem_toArray, List.getElem_cons_zero, List.getElem_cons_succ, List.setIfInBounds_toArray, List.set_cons_zero, List.set_cons_succ]
            refine wpAnyH_take (i := 9) (v := ?_) rfl (by kernel_rfl) (by kernel_rfl) (by kernel_rfl) (fun _ _ _ h => h) (Or.inl ⟨by rfl, ?_⟩) (by assumption) ?_
            rotate_left
            · intro wq hSq
              have hq := HCA.out wq hSq
              go_split_ands
              go_simp
              try with_reducible rfl
            try simp only [Act.put, List.getElem_toArray, List.getElem_cons_zero, List.getElem_cons_succ, List.setIfInBounds_toArray, List.set_cons_zero, List.set_cons_succ]
            refine wpAnyH_take (i := 12) (v := ?_) rfl (by kernel_rfl) (by kernel_rfl) (by kernel_rfl) (fun _ _ _ h => h) (Or.inl ⟨by rfl, ?_⟩) (by assumption) ?_
            rotate_left
            · intro wq hSq
              have hq := HCA.out wq hSq
              go_split_ands
              go_simp
              try with_reducible rfl
            try simp only [Act.put, List.getElem_toArray, List.getElem_cons_zero, List.getElem_cons_succ, List.setIfInBounds_toArray, List.set_cons_zero, List.set_cons_succ]
            refine wpAnyH_ready (rs := [10]) (by kernel_rfl) (by simp) ?_
            refine AllReadyH.cons rfl (fun K hK => ?_) AllReadyH.nil
            try simp only [List.getElem_toArray, List.getElem_cons_zero, List.getElem_cons_succ]
            go_simp
            refine (HSV1.out _ (HDU6.out.d1.grow hHeld)).mono ?_
            rintro e w7 ⟨v7, rfl, hr7, hF7⟩
            have hB7 := BytesAt.of_row hr7
            go_wp2_with fail
            refine hK.out _ _ (hHeld.trans' hF7) (fun hHeld => ?_)
            clear hK K
            try simp only [Act.put, List.setIfInBounds_toArray, List.set_cons_zero, List.set_cons_succ]
            refine wpAnyH_ready (rs := [11, 13]) (by kernel_rfl) (by simp) ?_
            refine AllReadyH.cons rfl (fun K hK => ?_) (AllReadyH.cons rfl (fun K hK => ?_) AllReadyH.nil)
            · have hcv := conv_b2s hB7
              try simp only [List.getElem_toArray, List.getElem_cons_zero, List.getElem_cons_succ]
              go_simp
              refine hK.out _ _ hHeld (fun hHeld => ?_)
              clear hK K
              try simp only [Act.put, List.setIfInBounds_toArray, List.set_cons_zero, List.set_cons_succ]
              clear hcv
              refine wpAnyH_ready (rs := [13]) (by kernel_rfl) (by simp) ?_
              refine AllReadyH.cons rfl (fun K hK => ?_) AllReadyH.nil
              try simp only [List.getElem_toArray, List.getElem_cons_zero, List.getElem_cons_succ]
              go_simp
              refine (HSV2.out _ ((HDU6.out.d2.grow hHeld))).mono ?_
              rintro e w8 ⟨v8, rfl, hr8, hF8⟩
              have hB8 := BytesAt.of_row hr8
              go_wp2_with fail
              refine hK.out _ _ (hHeld.trans' hF8) (fun hHeld => ?_)
              clear hK K
              try simp only [Act.put, List.setIfInBounds_toArray, List.set_cons_zero, List.set_cons_succ]
              have hcv := conv_b2s hB8
              refine wpAnyH_ready (rs := [14]) (by kernel_rfl) (by simp) ?_
              refine AllReadyH.cons rfl (fun K hK => ?_) AllReadyH.nil
              try simp only [List.getElem_toArray, List.getElem_cons_zero, List.getElem_cons_succ]
              go_simp
              refine hK.out _ _ hHeld (fun hHeld => ?_)
              clear hK K
              try simp only [Act.put, List.setIfInBounds_toArray, List.set_cons_zero, List.set_cons_succ]
              clear hcv
              refine wpAnyH_take (i := 15) (v := ?_) rfl (by kernel_rfl) (by kernel_rfl) (by kernel_rfl) (fun _ _ _ h => h) (Or.inl ⟨by rfl, ?_⟩) (by assumption) ?_
              rotate_left
              · intro wq hSq
                try dsimp only at hSq
                go_split_ands
                go_simp
                try with_reducible rfl
              try simp only [Act.put, List.getElem_toArray, List.getElem_cons_zero, List.getElem_cons_succ, List.setIfInBounds_toArray, List.set_cons_zero, List.set_cons_succ]
              refine wpAnyH_take (i := 16) (v := ?_) rfl (by kernel_rfl) (by kernel_rfl) (by kernel_rfl) (fun _ _ _ h => h) (Or.inl ⟨by rfl, ?_⟩) (by assumption) ?_
              rotate_left
              · intro wq hSq
                try dsimp only at hSq
                go_split_ands
                go_simp
                try with_reducible rfl
              try simp only [Act.put, List.getElem_toArray, List.getElem_cons_zero, List.getElem_cons_succ, List.setIfInBounds_toArray, List.set_cons_zero, List.set_cons_succ]
              refine wpAnyH_done (by kernel_rfl) ?_ _
              have HH := Lib.hid hHeld
              have HRA := Lib.hid (SlAt.frm cellsE_len HR56.out hHeld)
              have HRB := Lib.hid (SlAt.frm cellsE_len HR6.out hHeld)
              clear hHeld hB7 hB8 hF7 hF8 hr7 hr8
              have HH6 := Lib.hid HH.out
              clear HRA HRB
              go_wp2_with fail
              go_loopw [15] (fun i wr => ∃ k : Nat, k ≤ d.length ∧ i = .int .i64 k ∧ Frm (fun _ => False) w6 wr) (fun i _ => d.length - (intOf i).toNat)
              case atStart => exact ⟨0, Nat.zero_le _, rfl, HH6.out⟩
              case round =>
                obtain ⟨k, hk, rfl, hF⟩ := hrel
                by_cases hlt : k < d.length
                · obtain ⟨Aa, caa, ea, _, _, hA5⟩ := HR56.out
                  simp only [Value.slice.injEq] at ea
                  obtain ⟨rfl, -, rfl⟩ := ea
                  obtain ⟨Ab, cab, eb, _, _, hA6⟩ := HR6.out
                  simp only [Value.slice.injEq] at eb
                  obtain ⟨rfl, -, rfl⟩ := eb
                  have hkm : k < (d.map (·.1)).length := by simpa using hlt
                  obtain ⟨g5, off5, rfl, hg5, hcell5⟩ := hA5 (Nat.lt_of_le_of_lt (Nat.zero_le _) hkm)
                  obtain ⟨g6, off6, rfl, hg6, hcell6⟩ := hA6 (Nat.lt_of_le_of_lt (Nat.zero_le _) hkm)
                  have q5 := fun j hj => hF.cell ((hcell5 k hkm j hj).trans (List.getElem?_eq_getElem (by rw [cellsE_len]; exact hj))) (fun h => h)
                  have q6 := fun j hj => hF.cell ((hcell6 k hkm j hj).trans (List.getElem?_eq_getElem (by rw [cellsE_len]; exact hj))) (fun h => h)
                  generalize (d.map (·.1))[k] = x at *
                  have hc : ∀ Wx, Frm (fun _ => False) wr Wx → (Wx.cell? ⟨g5, off5 + k * 14, none⟩ = some (.int .u16 x.idx) ∧ Wx.cell? ⟨g5, off5 + k * 14 + 1, none⟩ = some (.int .u8 x.sub) ∧ Wx.cell? ⟨g5, off5 + k * 14 + 2, none⟩ = some (.int .i64 x.acc) ∧ Wx.cell? ⟨g5, off5 + k * 14 + 3, none⟩ = some (.bool x.mp) ∧ Wx.cell? ⟨g5, off5 + k * 14 + 4, none⟩ = some (.bool x.lim) ∧ Wx.cell? ⟨g5, off5 + k * 14 + 5, none⟩ = some (.int .i64 x.mn.ty) ∧ Wx.cell? ⟨g5, off5 + k * 14 + 6, none⟩ = some (.int .u64 x.mn.n) ∧ Wx.cell? ⟨g5, off5 + k * 14 + 7, none⟩ = some (.string (strB2 x.mn.b)) ∧ Wx.cell? ⟨g5, off5 + k * 14 + 8, none⟩ = some (.int .i64 x.mx.ty) ∧ Wx.cell? ⟨g5, off5 + k * 14 + 9, none⟩ = some (.int .u64 x.mx.n) ∧ Wx.cell? ⟨g5, off5 + k * 14 + 10, none⟩ = some (.string (strB2 x.mx.b)) ∧ Wx.cell? ⟨g5, off5 + k * 14 + 11, none⟩ = some (.int .i64 x.df.ty) ∧ Wx.cell? ⟨g5, off5 + k * 14 + 12, none⟩ = some (.int .u64 x.df.n) ∧ Wx.cell? ⟨g5, off5 + k * 14 + 13, none⟩ = some (.string (strB2 x.df.b))) ∧ Wx.cell? ⟨g6, off6 + k * 14, none⟩ = some (.int .u16 x.idx) ∧ Wx.cell? ⟨g6, off6 + k * 14 + 1, none⟩ = some (.int .u8 x.sub) ∧ Wx.cell? ⟨g6, off6 + k * 14 + 2, none⟩ = some (.int .i64 x.acc) ∧ Wx.cell? ⟨g6, off6 + k * 14 + 3, none⟩ = some (.bool x.mp) ∧ Wx.cell? ⟨g6, off6 + k * 14 + 4, none⟩ = some (.bool x.lim) ∧ Wx.cell? ⟨g6, off6 + k * 14 + 5, none⟩ = some (.int .i64 x.mn.ty) ∧ Wx.cell? ⟨g6, off6 + k * 14 + 6, none⟩ = some (.int .u64 x.mn.n) ∧ Wx.cell? ⟨g6, off6 + k * 14 + 7, none⟩ = some (.string (strB2 x.mn.b)) ∧ Wx.cell? ⟨g6, off6 + k * 14 + 8, none⟩ = some (.int .i64 x.mx.ty) ∧ Wx.cell? ⟨g6, off6 + k * 14 + 9, none⟩ = some (.int .u64 x.mx.n) ∧ Wx.cell? ⟨g6, off6 + k * 14 + 10, none⟩ = some (.string (strB2 x.mx.b)) ∧ Wx.cell? ⟨g6, off6 + k * 14 + 11, none⟩ = some (.int .i64 x.df.ty) ∧ Wx.cell? ⟨g6, off6 + k * 14 + 12, none⟩ = some (.int .u64 x.df.n) ∧ Wx.cell? ⟨g6, off6 + k * 14 + 13, none⟩ = some (.string (strB2 x.df.b)) := fun Wx h => ⟨⟨h.cell (q5 0 (by decide)) (fun h => h), h.cell (q5 1 (by decide)) (fun h => h), h.cell (q5 2 (by decide)) (fun h => h), h.cell (q5 3 (by decide)) (fun h => h), h.cell (q5 4 (by decide)) (fun h => h), h.cell (q5 5 (by decide)) (fun h => h), h.cell (q5 6 (by decide)) (fun h => h), h.cell (q5 7 (by decide)) (fun h => h), h.cell (q5 8 (by decide)) (fun h => h), h.cell (q5 9 (by decide)) (fun h => h), h.cell (q5 10 (by decide)) (fun h => h), h.cell (q5 11 (by decide)) (fun h => h), h.cell (q5 12 (by decide)) (fun h => h), h.cell (q5 13 (by decide)) (fun h => h)⟩, h.cell (q6 0 (by decide)) (fun h => h), h.cell (q6 1 (by decide)) (fun h => h), h.cell (q6 2 (by decide)) (fun h => h), h.cell (q6 3 (by decide)) (fun h => h), h.cell (q6 4 (by decide)) (fun h => h), h.cell (q6 5 (by decide)) (fun h => h), h.cell (q6 6 (by decide)) (fun h => h), h.cell (q6 7 (by decide)) (fun h => h), h.cell (q6 8 (by decide)) (fun h => h), h.cell (q6 9 (by decide)) (fun h => h), h.cell (q6 10 (by decide)) (fun h => h), h.cell (q6 11 (by decide)) (fun h => h), h.cell (q6 12 (by decide)) (fun h => h), h.cell (q6 13 (by decide)) (fun h => h)⟩
                  have HC := Lib.hid hc
                  have HFX := Lib.hid hF
                  have hl5 := Nat.lt_of_lt_of_le hg5 hF.size
                  have hl6 := Nat.lt_of_lt_of_le hg6 hF.size
                  have HKD : Hid (k + 1 ≤ d.length) := hlt
                  clear hc hF hcell5 hcell6 q5 q6 hA5 hA6 hkm
                  go_upto_region 24 with fail
                  refine wp_region_held_drew (S := fun W => Frm (fun _ => False) wr W) (by kernel_rfl) ((Frm.refl _ _).drew) (fun hHeld => ?_)
                  refine wpAnyH_take (i := 0) (v := ?_) rfl (by kernel_rfl) (by kernel_rfl) (by kernel_rfl) (fun _ _ _ h => h) (Or.inl ⟨by rfl, ?_⟩) (by assumption) ?_
                  rotate_left
                  · intro wq hSq
                    have hq := HC.out wq hSq
                    go_split_ands
                    go_simp
                    try with_reducible rfl
                  try simp only [Act.put, List.getElem_toArray, List.getElem_cons_zero, List.getElem_cons_succ, List.setIfInBounds_toArray, List.set_cons_zero, List.set_cons_succ]
                  refine wpAnyH_take (i := 1) (v := ?_) rfl (by kernel_rfl) (by kernel_rfl) (by kernel_rfl) (fun _ _ _ h => h) (Or.inl ⟨by rfl, ?_⟩) (by assumption) ?_
                  rotate_left
                  · intro wq hSq
                    have hq := HC.out wq hSq
                    go_split_ands
                    go_simp
                    try with_reducible rfl
                  try simp only [Act.put, List.getElem_toArray, List.getElem_cons_zero, List.getElem_cons_succ, List.setIfInBounds_toArray, List.set_cons_zero, List.set_cons_succ]
                  refine wpAnyH_take (i := 2) (v := ?_) rfl (by kernel_rfl) (by kernel_rfl) (by kernel_rfl) (fun _ _ _ h => h) (Or.inl ⟨by rfl, ?_⟩) (by assumption) ?_
                  rotate_left
                  · intro wq hSq
                    have hq := HC.out wq hSq
                    go_split_ands
                    go_simp
                    try with_reducible rfl
                  try simp only [Act.put, List.getElem_toArray, List.getElem_cons_zero, List.getElem_cons_succ, List.setIfInBounds_toArray, List.set_cons_zero, List.set_cons_succ]
                  refine wpAnyH_take (i := 3) (v := ?_) rfl (by kernel_rfl) (by kernel_rfl) (by kernel_rfl) (fun _ _ _ h => h) (Or.inl ⟨by rfl, ?_⟩) (by assumption) ?_
                  rotate_left
                  · intro wq hSq
                    have hq := HC.out wq hSq
                    go_split_ands
                    go_simp
                    try with_reducible rfl
                  try simp only [Act.put, List.getElem_toArray, List.getElem_cons_zero, List.getElem_cons_succ, List.setIfInBounds_toArray, List.set_cons_zero, List.set_cons_succ]
                  refine wpAnyH_take (i := 4) (v := ?_) rfl (by kernel_rfl) (by kernel_rfl) (by kernel_rfl) (fun _ _ _ h => h) (Or.inl ⟨by rfl, ?_⟩) (by assumption) ?_
                  rotate_left
                  · intro wq hSq
                    have hq := HC.out wq hSq
                    go_split_ands
                    go_simp
                    try with_reducible rfl
                  try simp only [Act.put, List.getElem_toArray, List.getElem_cons_zero, List.getElem_cons_succ, List.setIfInBounds_toArray, List.set_cons_zero, List.set_cons_succ]
                  refine wpAnyH_take (i := 5) (v := ?_) rfl (by kernel_rfl) (by kernel_rfl) (by kernel_rfl) (fun _ _ _ h => h) (Or.inl ⟨by rfl, ?_⟩) (by assumption) ?_
                  rotate_left
                  · intro wq hSq
                    have hq := HC.out wq hSq
                    go_split_ands
                    go_simp
                    try with_reducible rfl
                  try simp only [Act.put, List.getElem_toArray, List.getElem_cons_zero, List.getElem_cons_succ, List.setIfInBounds_toArray, List.set_cons_zero, List.set_cons_succ]
                  refine wpAnyH_take (i := 6) (v := ?_) rfl (by kernel_rfl) (by kernel_rfl) (by kernel_rfl) (fun _ _ _ h => h) (Or.inl ⟨by rfl, ?_⟩) (by assumption) ?_
                  rotate_left
                  · intro wq hSq
                    have hq := HC.out wq hSq
                    go_split_ands
                    go_simp
                    try with_reducible rfl
                  try simp only [Act.put, List.getElem_toArray, List.getElem_cons_zero, List.getElem_cons_succ, List.setIfInBounds_toArray, List.set_cons_zero, List.set_cons_succ]
                  refine wpAnyH_take (i := 7) (v := ?_) rfl (by kernel_rfl) (by kernel_rfl) (by kernel_rfl) (fun _ _ _ h => h) (Or.inl ⟨by rfl, ?_⟩) (by assumption) ?_
                  rotate_left
                  · intro wq hSq
                    have hq := HC.out wq hSq
                    go_split_ands
                    go_simp
                    try with_reducible rfl
                  try simp only [Act.put, List.getElem_toArray, List.getElem_cons_zero, List.getElem_cons_succ, List.setIfInBounds_toArray, List.set_cons_zero, List.set_cons_succ]
                  refine wpAnyH_take (i := 8) (v := ?_) rfl (by kernel_rfl) (by kernel_rfl) (by kernel_rfl) (fun _ _ _ h => h) (Or.inl ⟨by rfl, ?_⟩) (by assumption) ?_
                  rotate_left
                  · intro wq hSq
                    try dsimp only at hSq
                    go_split_ands
                    go_simp
                    try with_reducible rfl
                  try simp only [Act.put, List.getElem_toArray, List.getElem_cons_zero, List.getElem_cons_succ, List.setIfInBounds_toArray, List.set_cons_zero, List.set_cons_succ]
                  refine wpAnyH_done (by kernel_rfl) ?_ _
                  go_wp2_with fail
                  go_roundw
                  case rel => exact ⟨k + 1, HKD.out, by go_num, HFX.out.trans' hHeld⟩
                  case measure => have := HKD.out; simp [intOf]; omega
                · have HF := Lib.hid hF
                  clear hF
                  go_wp2_with (go_at_call 14; refine (HLV.out _).mono ?_; rintro e w9 ⟨rfl, hF9⟩)
                  go_ret
                  exact ⟨rfl, HFR6.out.trans' (HF.out.trans' hF9)⟩
            · try simp only [List.getElem_toArray, List.getElem_cons_zero, List.getElem_cons_succ]
              go_simp
              refine (HSV2.out _ ((HDU6.out.d2.grow hHeld))).mono ?_
              rintro e w8 ⟨v8, rfl, hr8, hF8⟩
              have hB8 := BytesAt.of_row hr8
              go_wp2_with fail
              refine hK.out _ _ (hHeld.trans' hF8) (fun hHeld => ?_)
              clear hK K
              try simp only [Act.put, List.setIfInBounds_toArray, List.set_cons_zero, List.set_cons_succ]
              have hB78 := hB7.grow hF8
              refine wpAnyH_ready (rs := [11, 14]) (by kernel_rfl) (by simp) ?_
              refine AllReadyH.cons rfl (fun K hK => ?_) (AllReadyH.cons rfl (fun K hK => ?_) AllReadyH.nil)
              · have hcv := conv_b2s hB78
                try simp only [List.getElem_toArray, List.getElem_cons_zero, List.getElem_cons_succ]
                go_simp
                refine hK.out _ _ hHeld (fun hHeld => ?_)
                clear hK K
                try simp only [Act.put, List.setIfInBounds_toArray, List.set_cons_zero, List.set_cons_succ]
                clear hcv
                have hcv := conv_b2s hB8
                refine wpAnyH_ready (rs := [14]) (by kernel_rfl) (by simp) ?_
                refine AllReadyH.cons rfl (fun K hK => ?_) AllReadyH.nil
                try simp only [List.getElem_toArray, List.getElem_cons_zero, List.getElem_cons_succ]
                go_simp
                refine hK.out _ _ hHeld (fun hHeld => ?_)
                clear hK K
                try simp only [Act.put, List.setIfInBounds_toArray, List.set_cons_zero, List.set_cons_succ]
                clear hcv
                refine wpAnyH_take (i := 15) (v := ?_) rfl (by kernel_rfl) (by kernel_rfl) (by kernel_rfl) (fun _ _ _ h => h) (Or.inl ⟨by rfl, ?_⟩) (by assumption) ?_
                rotate_left
                · intro wq hSq
                  try dsimp only at hSq
                  go_split_ands
                  go_simp
                  try with_reducible rfl
                try simp only [Act.put, List.getElem_toArray, List.getElem_cons_zero, List.getElem_cons_succ, List.setIfInBounds_toArray, List.set_cons_zero, List.set_cons_succ]
                refine wpAnyH_take (i := 16) (v := ?_) rfl (by kernel_rfl) (by kernel_rfl) (by kernel_rfl) (fun _ _ _ h => h) (Or.inl ⟨by rfl, ?_⟩) (by assumption) ?_
                rotate_left
                · intro wq hSq
                  try dsimp only at hSq
                  go_split_ands
                  go_simp
                  try with_reducible rfl
                try simp only [Act.put, List.getElem_toArray, List.getElem_cons_zero, List.getElem_cons_succ, List.setIfInBounds_toArray, List.set_cons_zero, List.set_cons_succ]
                refine wpAnyH_done (by kernel_rfl) ?_ _
                have HH := Lib.hid hHeld
                have HRA := Lib.hid (SlAt.frm cellsE_len HR56.out hHeld)
                have HRB := Lib.hid (SlAt.frm cellsE_len HR6.out hHeld)
                clear hHeld hB7 hB8 hF7 hF8 hr7 hr8
                have HH6 := Lib.hid HH.out
                clear HRA HRB
                go_wp2_with fail
                go_loopw [15] (fun i wr => ∃ k : Nat, k ≤ d.length ∧ i = .int .i64 k ∧ Frm (fun _ => False) w6 wr) (fun i _ => d.length - (intOf i).toNat)
                case atStart => exact ⟨0, Nat.zero_le _, rfl, HH6.out⟩
                case round =>
                  obtain ⟨k, hk, rfl, hF⟩ := hrel
                  by_cases hlt : k < d.length
                  · obtain ⟨Aa, caa, ea, _, _, hA5⟩ := HR56.out
                    simp only [Value.slice.injEq] at ea
                    obtain ⟨rfl, -, rfl⟩ := ea
                    obtain ⟨Ab, cab, eb, _, _, hA6⟩ := HR6.out
                    simp only [Value.slice.injEq] at eb
                    obtain ⟨rfl, -, rfl⟩ := eb
                    have hkm : k < (d.map (·.1)).length := by simpa using hlt
                    obtain ⟨g5, off5, rfl, hg5, hcell5⟩ := hA5 (Nat.lt_of_le_of_lt (Nat.zero_le _) hkm)
                    obtain ⟨g6, off6, rfl, hg6, hcell6⟩ := hA6 (Nat.lt_of_le_of_lt (Nat.zero_le _) hkm)
                    have q5 := fun j hj => hF.cell ((hcell5 k hkm j hj).trans (List.getElem?_eq_getElem (by rw [cellsE_len]; exact hj))) (fun h => h)
                    have q6 := fun j hj => hF.cell ((hcell6 k hkm j hj).trans (List.getElem?_eq_getElem (by rw [cellsE_len]; exact hj))) (fun h => h)
                    generalize (d.map (·.1))[k] = x at *
                    have hc : ∀ Wx, Frm (fun _ => False) wr Wx → (Wx.cell? ⟨g5, off5 + k * 14, none⟩ = some (.int .u16 x.idx) ∧ Wx.cell? ⟨g5, off5 + k * 14 + 1, none⟩ = some (.int .u8 x.sub) ∧ Wx.cell? ⟨g5, off5 + k * 14 + 2, none⟩ = some (.int .i64 x.acc) ∧ Wx.cell? ⟨g5, off5 + k * 14 + 3, none⟩ = some (.bool x.mp) ∧ Wx.cell? ⟨g5, off5 + k * 14 + 4, none⟩ = some (.bool x.lim) ∧ Wx.cell? ⟨g5, off5 + k * 14 + 5, none⟩ = some (.int .i64 x.mn.ty) ∧ Wx.cell? ⟨g5, off5 + k * 14 + 6, none⟩ = some (.int .u64 x.mn.n) ∧ Wx.cell? ⟨g5, off5 + k * 14 + 7, none⟩ = some (.string (strB2 x.mn.b)) ∧ Wx.cell? ⟨g5, off5 + k * 14 + 8, none⟩ = some (.int .i64 x.mx.ty) ∧ Wx.cell? ⟨g5, off5 + k * 14 + 9, none⟩ = some (.int .u64 x.mx.n) ∧ Wx.cell? ⟨g5, off5 + k * 14 + 10, none⟩ = some (.string (strB2 x.mx.b)) ∧ Wx.cell? ⟨g5, off5 + k * 14 + 11, none⟩ = some (.int .i64 x.df.ty) ∧ Wx.cell? ⟨g5, off5 + k * 14 + 12, none⟩ = some (.int .u64 x.df.n) ∧ Wx.cell? ⟨g5, off5 + k * 14 + 13, none⟩ = some (.string (strB2 x.df.b))) ∧ Wx.cell? ⟨g6, off6 + k * 14, none⟩ = some (.int .u16 x.idx) ∧ Wx.cell? ⟨g6, off6 + k * 14 + 1, none⟩ = some (.int .u8 x.sub) ∧ Wx.cell? ⟨g6, off6 + k * 14 + 2, none⟩ = some (.int .i64 x.acc) ∧ Wx.cell? ⟨g6, off6 + k * 14 + 3, none⟩ = some (.bool x.mp) ∧ Wx.cell? ⟨g6, off6 + k * 14 + 4, none⟩ = some (.bool x.lim) ∧ Wx.cell? ⟨g6, off6 + k * 14 + 5, none⟩ = some (.int .i64 x.mn.ty) ∧ Wx.cell? ⟨g6, off6 + k * 14 + 6, none⟩ = some (.int .u64 x.mn.n) ∧ Wx.cell? ⟨g6, off6 + k * 14 + 7, none⟩ = some (.string (strB2 x.mn.b)) ∧ Wx.cell? ⟨g6, off6 + k * 14 + 8, none⟩ = some (.int .i64 x.mx.ty) ∧ Wx.cell? ⟨g6, off6 + k * 14 + 9, none⟩ = some (.int .u64 x.mx.n) ∧ Wx.cell? ⟨g6, off6 + k * 14 + 10, none⟩ = some (.string (strB2 x.mx.b)) ∧ Wx.cell? ⟨g6, off6 + k * 14 + 11, none⟩ = some (.int .i64 x.df.ty) ∧ Wx.cell? ⟨g6, off6 + k * 14 + 12, none⟩ = some (.int .u64 x.df.n) ∧ Wx.cell? ⟨g6, off6 + k * 14 + 13, none⟩ = some (.string (strB2 x.df.b)) := fun Wx h => ⟨⟨h.cell (q5 0 (by decide)) (fun h => h), h.cell (q5 1 (by decide)) (fun h => h), h.cell (q5 2 (by decide)) (fun h => h), h.cell (q5 3 (by decide)) (fun h => h), h.cell (q5 4 (by decide)) (fun h => h), h.cell (q5 5 (by decide)) (fun h => h), h.cell (q5 6 (by decide)) (fun h => h), h.cell (q5 7 (by decide)) (fun h => h), h.cell (q5 8 (by decide)) (fun h => h), h.cell (q5 9 (by decide)) (fun h => h), h.cell (q5 10 (by decide)) (fun h => h), h.cell (q5 11 (by decide)) (fun h => h), h.cell (q5 12 (by decide)) (fun h => h), h.cell (q5 13 (by decide)) (fun h => h)⟩, h.cell (q6 0 (by decide)) (fun h => h), h.cell (q6 1 (by decide)) (fun h => h), h.cell (q6 2 (by decide)) (fun h => h), h.cell (q6 3 (by decide)) (fun h => h), h.cell (q6 4 (by decide)) (fun h => h), h.cell (q6 5 (by decide)) (fun h => h), h.cell (q6 6 (by decide)) (fun h => h), h.cell (q6 7 (by decide)) (fun h => h), h.cell (q6 8 (by decide)) (fun h => h), h.cell (q6 9 (by decide)) (fun h => h), h.cell (q6 10 (by decide)) (fun h => h), h.cell (q6 11 (by decide)) (fun h => h), h.cell (q6 12 (by decide)) (fun h => h), h.cell (q6 13 (by decide)) (fun h => h)⟩
                    have HC := Lib.hid hc
                    have HFX := Lib.hid hF
                    have hl5 := Nat.lt_of_lt_of_le hg5 hF.size
                    have hl6 := Nat.lt_of_lt_of_le hg6 hF.size
                    have HKD : Hid (k + 1 ≤ d.length) := hlt
                    clear hc hF hcell5 hcell6 q5 q6 hA5 hA6 hkm
                    go_upto_region 24 with fail
                    refine wp_region_held_drew (S := fun W => Frm (fun _ => False) wr W) (by kernel_rfl) ((Frm.refl _ _).drew) (fun hHeld => ?_)
                    refine wpAnyH_take (i := 0) (v := ?_) rfl (by kernel_rfl) (by kernel_rfl) (by kernel_rfl) (fun _ _ _ h => h) (Or.inl ⟨by rfl, ?_⟩) (by assumption) ?_
                    rotate_left
                    · intro wq hSq
                      have hq := HC.out wq hSq
                      go_split_ands
                      go_simp
                      try with_reducible rfl
                    try simp only [Act.put, List.getElem_toArray, List.getElem_cons_zero, List.getElem_cons_succ, List.setIfInBounds_toArray, List.set_cons_zero, List.set_cons_succ]
                    refine wpAnyH_take (i := 1) (v := ?_) rfl (by kernel_rfl) (by kernel_rfl) (by kernel_rfl) (fun _ _ _ h => h) (Or.inl ⟨by rfl, ?_⟩) (by assumption) ?_
                    rotate_left
                    · intro wq hSq
                      have hq := HC.out wq hSq
                      go_split_ands
                      go_simp
                      try with_reducible rfl
                    try simp only [Act.put, List.getElem_toArray, List.getElem_cons_zero, List.getElem_cons_succ, List.setIfInBounds_toArray, List.set_cons_zero, List.set_cons_succ]
                    refine wpAnyH_take (i := 2) (v := ?_) rfl (by kernel_rfl) (by kernel_rfl) (by kernel_rfl) (fun _ _ _ h => h) (Or.inl ⟨by rfl, ?_⟩) (by assumption) ?_
                    rotate_left
                    · intro wq hSq
                      have hq := HC.out wq hSq
                      go_split_ands
                      go_simp
                      try with_reducible rfl
                    try simp only [Act.put, List.getElem_toArray, List.getElem_cons_zero, List.getElem_cons_succ, List.setIfInBounds_toArray, List.set_cons_zero, List.set_cons_succ]
                    refine wpAnyH_take (i := 3) (v := ?_) rfl (by kernel_rfl) (by kernel_rfl) (by kernel_rfl) (fun _ _ _ h => h) (Or.inl ⟨by rfl, ?_⟩) (by assumption) ?_
                    rotate_left
                    · intro wq hSq
                      have hq := HC.out wq hSq
                      go_split_ands
                      go_simp
                      try with_reducible rfl
                    try simp only [Act.put, List.getElem_toArray, List.getElem_cons_zero, List.getElem_cons_succ, List.setIfInBounds_toArray, List.set_cons_zero, List.set_cons_succ]
                    refine wpAnyH_take (i := 4) (v := ?_) rfl (by kernel_rfl) (by kernel_rfl) (by kernel_rfl) (fun _ _ _ h => h) (Or.inl ⟨by rfl, ?_⟩) (by assumption) ?_
                    rotate_left
                    · intro wq hSq
                      have hq := HC.out wq hSq
                      go_split_ands
                      go_simp
                      try with_reducible rfl
                    try simp only [Act.put, List.getElem_toArray, List.getElem_cons_zero, List.getElem_cons_succ, List.setIfInBounds_toArray, List.set_cons_zero, List.set_cons_succ]
                    refine wpAnyH_take (i := 5) (v := ?_) rfl (by kernel_rfl) (by kernel_rfl) (by kernel_rfl) (fun _ _ _ h => h) (Or.inl ⟨by rfl, ?_⟩) (by assumption) ?_
                    rotate_left
                    · intro wq hSq
                      have hq := HC.out wq hSq
                      go_split_ands
                      go_simp
                      try with_reducible rfl
                    try simp only [Act.put, List.getElem_toArray, List.getElem_cons_zero, List.getElem_cons_succ, List.setIfInBounds_toArray, List.set_cons_zero, List.set_cons_succ]
                    refine wpAnyH_take (i := 6) (v := ?_) rfl (by kernel_rfl) (by kernel_rfl) (by kernel_rfl) (fun _ _ _ h => h) (Or.inl ⟨by rfl, ?_⟩) (by assumption) ?_
                    rotate_left
                    · intro wq hSq
                      have hq := HC.out wq hSq
                      go_split_ands
                      go_simp
                      try with_reducible rfl
                    try simp only [Act.put, List.getElem_toArray, List.getElem_cons_zero, List.getElem_cons_succ, List.setIfInBounds_toArray, List.set_cons_zero, List.set_cons_succ]
                    refine wpAnyH_take (i := 7) (v := ?_) rfl (by kernel_rfl) (by kernel_rfl) (by kernel_rfl) (fun _ _ _ h => h) (Or.inl ⟨by rfl, ?_⟩) (by assumption) ?_
                    rotate_left
                    · intro wq hSq
                      have hq := HC.out wq hSq
                      go_split_ands
                      go_simp
                      try with_reducible rfl
                    try simp only [Act.put, List.getElem_toArray, List.getElem_cons_zero, List.getElem_cons_succ, List.setIfInBounds_toArray, List.set_cons_zero, List.set_cons_succ]
                    refine wpAnyH_take (i := 8) (v := ?_) rfl (by kernel_rfl) (by kernel_rfl) (by kernel_rfl) (fun _ _ _ h => h) (Or.inl ⟨by rfl, ?_⟩) (by assumption) ?_
                    rotate_left
                    · intro wq hSq
                      try dsimp only at hSq
                      go_split_ands
                      go_simp
                      try with_reducible rfl
                    try simp only [Act.put, List.getElem_toArray, List.getElem_cons_zero, List.getElem_cons_succ, List.setIfInBounds_toArray, List.set_cons_zero, List.set_cons_succ]
                    refine wpAnyH_done (by kernel_rfl) ?_ _
                    go_wp2_with fail
                    go_roundw
                    case rel => exact ⟨k + 1, HKD.out, by go_num, HFX.out.trans' hHeld⟩
                    case measure => have := HKD.out; simp [intOf]; omega
                  · have HF := Lib.hid hF
                    clear hF
                    go_wp2_with (go_at_call 14; refine (HLV.out _).mono ?_; rintro e w9 ⟨rfl, hF9⟩)
                    go_ret
                    exact ⟨rfl, HFR6.out.trans' (HF.out.trans' hF9)⟩
              · have hcv := conv_b2s hB8
                try simp only [List.getElem_toArray, List.getElem_cons_zero, List.getElem_cons_succ]
                go_simp
                refine hK.out _ _ hHeld (fun hHeld => ?_)
                clear hK K
                try simp only [Act.put, List.setIfInBounds_toArray, List.set_cons_zero, List.set_cons_succ]
                clear hcv
                have hcv := conv_b2s hB78
                refine wpAnyH_ready (rs := [11]) (by kernel_rfl) (by simp) ?_
                refine AllReadyH.cons rfl (fun K hK => ?_) AllReadyH.nil
                try simp only [List.getElem_toArray, List.getElem_cons_zero, List.getElem_cons_succ]
                go_simp
                refine hK.out _ _ hHeld (fun hHeld => ?_)
                clear hK K
                try simp only [Act.put, List.setIfInBounds_toArray, List.set_cons_zero, List.set_cons_succ]
                clear hcv
                refine wpAnyH_take (i := 15) (v := ?_) rfl (by kernel_rfl) (by kernel_rfl) (by kernel_rfl) (fun _ _ _ h => h) (Or.inl ⟨by rfl, ?_⟩) (by assumption) ?_
                rotate_left
                · intro wq hSq
                  try dsimp only at hSq
                  go_split_ands
                  go_simp
                  try with_reducible rfl
                try simp only [Act.put, List.getElem_toArray, List.getElem_cons_zero, List.getElem_cons_succ, List.setIfInBounds_toArray, List.set_cons_zero, List.set_cons_succ]
                refine wpAnyH_take (i := 16) (v := ?_) rfl (by kernel_rfl) (by kernel_rfl) (by kernel_rfl) (fun _ _ _ h => h) (Or.inl ⟨by rfl, ?_⟩) (by assumption) ?_
                rotate_left
                · intro wq hSq
                  try dsimp only at hSq
                  go_split_ands
                  go_simp
                  try with_reducible rfl
                try simp only [Act.put, List.getElem_toArray, List.getElem_cons_zero, List.getElem_cons_succ, List.setIfInBounds_toArray, List.set_cons_zero, List.set_cons_succ]
                refine wpAnyH_done (by kernel_rfl) ?_ _
                have HH := Lib.hid hHeld
                have HRA := Lib.hid (SlAt.frm cellsE_len HR56.out hHeld)
                have HRB := Lib.hid (SlAt.frm cellsE_len HR6.out hHeld)
                clear hHeld hB7 hB8 hF7 hF8 hr7 hr8
                have HH6 := Lib.hid HH.out
                clear HRA HRB
                go_wp2_with fail
                go_loopw [15] (fun i wr => ∃ k : Nat, k ≤ d.length ∧ i = .int .i64 k ∧ Frm (fun _ => False) w6 wr) (fun i _ => d.length - (intOf i).toNat)
                case atStart => exact ⟨0, Nat.zero_le _, rfl, HH6.out⟩
                case round =>
                  obtain ⟨k, hk, rfl, hF⟩ := hrel
                  by_cases hlt : k < d.length
                  · obtain ⟨Aa, caa, ea, _, _, hA5⟩ := HR56.out
                    simp only [Value.slice.injEq] at ea
                    obtain ⟨rfl, -, rfl⟩ := ea
                    obtain ⟨Ab, cab, eb, _, _, hA6⟩ := HR6.out
                    simp only [Value.slice.injEq] at eb
                    obtain ⟨rfl, -, rfl⟩ := eb
                    have hkm : k < (d.map (·.1)).length := by simpa using hlt
                    obtain ⟨g5, off5, rfl, hg5, hcell5⟩ := hA5 (Nat.lt_of_le_of_lt (Nat.zero_le _) hkm)
                    obtain ⟨g6, off6, rfl, hg6, hcell6⟩ := hA6 (Nat.lt_of_le_of_lt (Nat.zero_le _) hkm)
                    have q5 := fun j hj => hF.cell ((hcell5 k hkm j hj).trans (List.getElem?_eq_getElem (by rw [cellsE_len]; exact hj))) (fun h => h)
                    have q6 := fun j hj => hF.cell ((hcell6 k hkm j hj).trans (List.getElem?_eq_getElem (by rw [cellsE_len]; exact hj))) (fun h => h)
                    generalize (d.map (·.1))[k] = x at *
                    have hc : ∀ Wx, Frm (fun _ => False) wr Wx → (Wx.cell? ⟨g5, off5 + k * 14, none⟩ = some (.int .u16 x.idx) ∧ Wx.cell? ⟨g5, off5 + k * 14 + 1, none⟩ = some (.int .u8 x.sub) ∧ Wx.cell? ⟨g5, off5 + k * 14 + 2, none⟩ = some (.int .i64 x.acc) ∧ Wx.cell? ⟨g5, off5 + k * 14 + 3, none⟩ = some (.bool x.mp) ∧ Wx.cell? ⟨g5, off5 + k * 14 + 4, none⟩ = some (.bool x.lim) ∧ Wx.cell? ⟨g5, off5 + k * 14 + 5, none⟩ = some (.int .i64 x.mn.ty) ∧ Wx.cell? ⟨g5, off5 + k * 14 + 6, none⟩ = some (.int .u64 x.mn.n) ∧ Wx.cell? ⟨g5, off5 + k * 14 + 7, none⟩ = some (.string (strB2 x.mn.b)) ∧ Wx.cell? ⟨g5, off5 + k * 14 + 8, none⟩ = some (.int .i64 x.mx.ty) ∧ Wx.cell? ⟨g5, off5 + k * 14 + 9, none⟩ = some (.int .u64 x.mx.n) ∧ Wx.cell? ⟨g5, off5 + k * 14 + 10, none⟩ = some (.string (strB2 x.mx.b)) ∧ Wx.cell? ⟨g5, off5 + k * 14 + 11, none⟩ = some (.int .i64 x.df.ty) ∧ Wx.cell? ⟨g5, off5 + k * 14 + 12, none⟩ = some (.int .u64 x.df.n) ∧ Wx.cell? ⟨g5, off5 + k * 14 + 13, none⟩ = some (.string (strB2 x.df.b))) ∧ Wx.cell? ⟨g6, off6 + k * 14, none⟩ = some (.int .u16 x.idx) ∧ Wx.cell? ⟨g6, off6 + k * 14 + 1, none⟩ = some (.int .u8 x.sub) ∧ Wx.cell? ⟨g6, off6 + k * 14 + 2, none⟩ = some (.int .i64 x.acc) ∧ Wx.cell? ⟨g6, off6 + k * 14 + 3, none⟩ = some (.bool x.mp) ∧ Wx.cell? ⟨g6, off6 + k * 14 + 4, none⟩ = some (.bool x.lim) ∧ Wx.cell? ⟨g6, off6 + k * 14 + 5, none⟩ = some (.int .i64 x.mn.ty) ∧ Wx.cell? ⟨g6, off6 + k * 14 + 6, none⟩ = some (.int .u64 x.mn.n) ∧ Wx.cell? ⟨g6, off6 + k * 14 + 7, none⟩ = some (.string (strB2 x.mn.b)) ∧ Wx.cell? ⟨g6, off6 + k * 14 + 8, none⟩ = some (.int .i64 x.mx.ty) ∧ Wx.cell? ⟨g6, off6 + k * 14 + 9, none⟩ = some (.int .u64 x.mx.n) ∧ Wx.cell? ⟨g6, off6 + k * 14 + 10, none⟩ = some (.string (strB2 x.mx.b)) ∧ Wx.cell? ⟨g6, off6 + k * 14 + 11, none⟩ = some (.int .i64 x.df.ty) ∧ Wx.cell? ⟨g6, off6 + k * 14 + 12, none⟩ = some (.int .u64 x.df.n) ∧ Wx.cell? ⟨g6, off6 + k * 14 + 13, none⟩ = some (.string (strB2 x.df.b)) := fun Wx h => ⟨⟨h.cell (q5 0 (by decide)) (fun h => h), h.cell (q5 1 (by decide)) (fun h => h), h.cell (q5 2 (by decide)) (fun h => h), h.cell (q5 3 (by decide)) (fun h => h), h.cell (q5 4 (by decide)) (fun h => h), h.cell (q5 5 (by decide)) (fun h => h), h.cell (q5 6 (by decide)) (fun h => h), h.cell (q5 7 (by decide)) (fun h => h), h.cell (q5 8 (by decide)) (fun h => h), h.cell (q5 9 (by decide)) (fun h => h), h.cell (q5 10 (by decide)) (fun h => h), h.cell (q5 11 (by decide)) (fun h => h), h.cell (q5 12 (by decide)) (fun h => h), h.cell (q5 13 (by decide)) (fun h => h)⟩, h.cell (q6 0 (by decide)) (fun h => h), h.cell (q6 1 (by decide)) (fun h => h), h.cell (q6 2 (by decide)) (fun h => h), h.cell (q6 3 (by decide)) (fun h => h), h.cell (q6 4 (by decide)) (fun h => h), h.cell (q6 5 (by decide)) (fun h => h), h.cell (q6 6 (by decide)) (fun h => h), h.cell (q6 7 (by decide)) (fun h => h), h.cell (q6 8 (by decide)) (fun h => h), h.cell (q6 9 (by decide)) (fun h => h), h.cell (q6 10 (by decide)) (fun h => h), h.cell (q6 11 (by decide)) (fun h => h), h.cell (q6 12 (by decide)) (fun h => h), h.cell (q6 13 (by decide)) (fun h => h)⟩
                    have HC := Lib.hid hc
                    have HFX := Lib.hid hF
                    have hl5 := Nat.lt_of_lt_of_le hg5 hF.size
                    have hl6 := Nat.lt_of_lt_of_le hg6 hF.size
                    have HKD : Hid (k + 1 ≤ d.length) := hlt
                    clear hc hF hcell5 hcell6 q5 q6 hA5 hA6 hkm
                    go_upto_region 24 with fail
                    refine wp_region_held_drew (S := fun W => Frm (fun _ => False) wr W) (by kernel_rfl) ((Frm.refl _ _).drew) (fun hHeld => ?_)
                    refine wpAnyH_take (i := 0) (v := ?_) rfl (by kernel_rfl) (by kernel_rfl) (by kernel_rfl) (fun _ _ _ h => h) (Or.inl ⟨by rfl, ?_⟩) (by assumption) ?_
                    rotate_left
                    · intro wq hSq
                      have hq := HC.out wq hSq
                      go_split_ands
                      go_simp
                      try with_reducible rfl
                    try simp only [Act.put, List.getElem_toArray, List.getElem_cons_zero, List.getElem_cons_succ, List.setIfInBounds_toArray, List.set_cons_zero, List.set_cons_succ]
                    refine wpAnyH_take (i := 1) (v := ?_) rfl (by kernel_rfl) (by kernel_rfl) (by kernel_rfl) (fun _ _ _ h => h) (Or.inl ⟨by rfl, ?_⟩) (by assumption) ?_
                    rotate_left
                    · intro wq hSq
                      have hq := HC.out wq hSq
                      go_split_ands
                      go_simp
                      try with_reducible rfl
                    try simp only [Act.put, List.getElem_toArray, List.getElem_cons_zero, List.getElem_cons_succ, List.setIfInBounds_toArray, List.set_cons_zero, List.set_cons_succ]
                    refine wpAnyH_take (i := 2) (v := ?_) rfl (by kernel_rfl) (by kernel_rfl) (by kernel_rfl) (fun _ _ _ h => h) (Or.inl ⟨by rfl, ?_⟩) (by assumption) ?_
                    rotate_left
                    · intro wq hSq
                      have hq := HC.out wq hSq
                      go_split_ands
                      go_simp
                      try with_reducible rfl
                    try simp only [Act.put, List.getElem_toArray, List.getElem_cons_zero, List.getElem_cons_succ, List.setIfInBounds_toArray, List.set_cons_zero, List.set_cons_succ]
                    refine wpAnyH_take (i := 3) (v := ?_) rfl (by kernel_rfl) (by kernel_rfl) (by kernel_rfl) (fun _ _ _ h => h) (Or.inl ⟨by rfl, ?_⟩) (by assumption) ?_
                    rotate_left
                    · intro wq hSq
                      have hq := HC.out wq hSq
                      go_split_ands
                      go_simp
                      try with_reducible rfl
                    try simp only [Act.put, List.getElem_toArray, List.getElem_cons_zero, List.getElem_cons_succ, List.setIfInBounds_toArray, List.set_cons_zero, List.set_cons_succ]
                    refine wpAnyH_take (i := 4) (v := ?_) rfl (by kernel_rfl) (by kernel_rfl) (by kernel_rfl) (fun _ _ _ h => h) (Or.inl ⟨by rfl, ?_⟩) (by assumption) ?_
                    rotate_left
                    · intro wq hSq
                      have hq := HC.out wq hSq
                      go_split_ands
                      go_simp
                      try with_reducible rfl
                    try simp only [Act.put, List.getElem_toArray, List.getElem_cons_zero, List.getElem_cons_succ, List.setIfInBounds_toArray, List.set_cons_zero, List.set_cons_succ]
                    refine wpAnyH_take (i := 5) (v := ?_) rfl (by kernel_rfl) (by kernel_rfl) (by kernel_rfl) (fun _ _ _ h => h) (Or.inl ⟨by rfl, ?_⟩) (by assumption) ?_
                    rotate_left
                    · intro wq hSq
                      have hq := HC.out wq hSq
                      go_split_ands
                      go_simp
                      try with_reducible rfl
                    try simp only [Act.put, List.getElem_toArray, List.getElem_cons_zero, List.getElem_cons_succ, List.setIfInBounds_toArray, List.set_cons_zero, List.set_cons_succ]
                    refine wpAnyH_take (i := 6) (v := ?_) rfl (by kernel_rfl) (by kernel_rfl) (by kernel_rfl) (fun _ _ _ h => h) (Or.inl ⟨by rfl, ?_⟩) (by assumption) ?_
                    rotate_left
                    · intro wq hSq
                      have hq := HC.out wq hSq
                      go_split_ands
                      go_simp
                      try with_reducible rfl
                    try simp only [Act.put, List.getElem_toArray, List.getElem_cons_zero, List.getElem_cons_succ, List.setIfInBounds_toArray, List.set_cons_zero, List.set_cons_succ]
                    refine wpAnyH_take (i := 7) (v := ?_) rfl (by kernel_rfl) (by kernel_rfl) (by kernel_rfl) (fun _ _ _ h => h) (Or.inl ⟨by rfl, ?_⟩) (by assumption) ?_
                    rotate_left
                    · intro wq hSq
                      have hq := HC.out wq hSq
                      go_split_ands
                      go_simp
                      try with_reducible rfl
                    try simp only [Act.put, List.getElem_toArray, List.getElem_cons_zero, List.getElem_cons_succ, List.setIfInBounds_toArray, List.set_cons_zero, List.set_cons_succ]
                    refine wpAnyH_take (i := 8) (v := ?_) rfl (by kernel_rfl) (by kernel_rfl) (by kernel_rfl) (fun _ _ _ h => h) (Or.inl ⟨by rfl, ?_⟩) (by assumption) ?_
                    rotate_left
                    · intro wq hSq
                      try dsimp only at hSq
                      go_split_ands
                      go_simp
                      try with_reducible rfl
                    try simp only [Act.put, List.getElem_toArray, List.getElem_cons_zero, List.getElem_cons_succ, List.setIfInBounds_toArray, List.set_cons_zero, List.set_cons_succ]
                    refine wpAnyH_done (by kernel_rfl) ?_ _
                    go_wp2_with fail
                    go_roundw
                    case rel => exact ⟨k + 1, HKD.out, by go_num, HFX.out.trans' hHeld⟩
                    case measure => have := HKD.out; simp [intOf]; omega
                  · have HF := Lib.hid hF
                    clear hF
                    go_wp2_with (go_at_call 14; refine (HLV.out _).mono ?_; rintro e w9 ⟨rfl, hF9⟩)
                    go_ret
                    exact ⟨rfl, HFR6.out.trans' (HF.out.trans' hF9)⟩
      · obtain ⟨m, rfl⟩ : ∃ m, r = m + 1 := ⟨r - 1, by omega⟩
        have hlt : m < xs.length := by omega
        obtain ⟨g, off, rfl, hgl, hcell⟩ := HA.out (by omega)
        have q := fun j hj => hFW.cell ((hcell m hlt j hj).trans (List.getElem?_eq_getElem (by rw [cellsE_len]; exact hj))) (fun h => h)
        have HRV := Lib.hid (rev_cells xs m hlt)
        have hgl2 := Nat.lt_of_lt_of_le hgl hFW.size
        have ei : ((m + 1 : Nat) : Int) - 1 = (m : Int) := by omega
        rw [ei]
        obtain ⟨rb, hrb⟩ : ∃ rb, rb = cellsOf cellsE (xs.reverse.take (xs.length - (m + 1))) := ⟨_, rfl⟩
        rw [← hrb] at hO HRV
        obtain ⟨nb, hnb⟩ : ∃ nb, nb = xs.length - (m + 1) := ⟨_, rfl⟩
        have HNB : Hid (xs.length - m = nb + 1) := by unfold Hid; omega
        rw [← hnb] at hO
        have hnb2 : nb ≤ 1024 := by omega
        clear hrb hnb ei
        generalize xs[m] = x at *
        have i0 := q 0 (by decide)
        have i1 := q 1 (by decide)
        have i2 := q 2 (by decide)
        have i3 := q 3 (by decide)
        have i4 := q 4 (by decide)
        have i5 := q 5 (by decide)
        have i6 := q 6 (by decide)
        have i7 := q 7 (by decide)
        have i8 := q 8 (by decide)
        have i9 := q 9 (by decide)
        have i10 := q 10 (by decide)
        have i11 := q 11 (by decide)
        have i12 := q 12 (by decide)
        have i13 := q 13 (by decide)
        simp only [cellsE, List.getElem_cons_succ, List.getElem_cons_zero, Nat.add_zero] at i0 i1 i2 i3 i4 i5 i6 i7 i8 i9 i10 i11 i12 i13
        obtain ⟨Al, cl, rfl, g3, g4, _⟩ := row_open hO
        have HO := Lib.hid hO
        have HF := Lib.hid hF
        have hsz := hF.size
        have hm1 : nb + 1 ≤ maxLen := by unfold maxLen; omega
        have hm2 : (nb + 1) * 120 ≤ 140737488355328 := by omega
        clear hO hF hFW hcell q
        go_wp2_with (at_builtin; refine wpl_app rfl el_Entry (.tmp 35) (.tmp 40) rfl (B := w2.heap.size) (e2 := 42) (fr := (0, 0)) (m := 1) (arr := (cellsE x).toArray) rfl rfl (Frm.row (S := fun _ => False) (by (repeat' (first | (with_reducible exact Frm.refl _ _) | (with_reducible assumption) | (with_reducible refine Frm.alloc ?_ _) | (with_reducible refine Frm.drew ?_) | (with_reducible refine Frm.drewN ?_ _) | (with_reducible refine Frm.set1 ?_ _) | (with_reducible refine Frm.setCell ?_ ?_ _) | (exact fun h => absurd h (Nat.lt_irrefl _)) | (intro hlt; simp [World.size_alloc, One] at hlt ⊢; omega)))) HO.out (fun _ _ h => h)) (heap_new_at (by simp)) rfl (by simp [cellsE, Value.oneCell']) (by decide) hm1 hm2 (by simp; omega) ?_; intro g5 cap5 w5 hown5 hfr5 hat5 hlt5)
        have hF5 : Frm (fun _ => False) w2 w5 := HF.out.trans (Frm.trans (b := _) (by (repeat' (first | (with_reducible exact Frm.refl _ _) | (with_reducible assumption) | (with_reducible refine Frm.alloc ?_ _) | (with_reducible refine Frm.drew ?_) | (with_reducible refine Frm.drewN ?_ _) | (with_reducible refine Frm.set1 ?_ _) | (with_reducible refine Frm.setCell ?_ ?_ _) | (exact fun h => absurd h (Nat.lt_irrefl _)) | (intro hlt; simp [World.size_alloc, One] at hlt ⊢; omega)))) hfr5 (fun _ _ h => h)) (fun i hi hs => absurd (row_block HO.out hs).1 (by omega))
        go_roundw
        case rel => exact ⟨m, Nat.le_of_lt hlt, by go_num, by rw [HRV.out, HNB.out]; exact hown5, hF5⟩
        case measure => simp [intOf]
end Go.Proofs.Ytemjdmgfilbfaaa
