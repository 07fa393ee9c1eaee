/-
  The program's parts: saved values out of bytes.
-/
import Derived.Test.YtemjdmgfilbfaaaM6bbef041
set_option linter.unusedVariables false
set_option linter.unusedSimpArgs false
namespace Go.Proofs.Ytemjdmgfilbfaaa
open Go.RowKit
open List (getElem_toArray getElem_cons_zero getElem_cons_succ setIfInBounds_toArray set_cons_zero set_cons_succ)
set_option linter.unusedVariables false
set_option linter.unusedSimpArgs false

theorem idx_sum {rs r : List UInt8} {a0 a1 a2 a3 a4 a5 a6 : UInt8} (h : rs = a0 :: a1 :: a2 :: a3 :: a4 :: a5 :: a6 :: r) : bits BinOp.or IntKind.u16 (IntKind.u16.wrap (a0.toNat : Int)) (IntKind.u16.wrap (IntKind.u16.wrap (a1.toNat : Int) * 256)) = (headP rs).1 := by
  have b0 := a0.toNat_lt
  have b1 := a1.toNat_lt
  have e0 : IntKind.u16.wrap (a0.toNat : Int) = (a0.toNat : Int) := by rw [IntKind.wrap_u16]; omega
  have e1 : IntKind.u16.wrap (a1.toNat : Int) = (a1.toNat : Int) := by rw [IntKind.wrap_u16]; omega
  have e2 : IntKind.u16.wrap ((a1.toNat : Int) * 256) = (a1.toNat : Int) * 256 := by rw [IntKind.wrap_u16]; omega
  rw [e0, e1, e2, le16_sum _ _ b0 b1, h]
  simp [headP, numOf]
theorem len_sum {rs r : List UInt8} {a0 a1 a2 a3 a4 a5 a6 : UInt8} (h : rs = a0 :: a1 :: a2 :: a3 :: a4 :: a5 :: a6 :: r) :
    bits BinOp.or IntKind.u64 (bits BinOp.or IntKind.u64 (bits BinOp.or IntKind.u64 (IntKind.u64.wrap (a3.toNat : Int)) (IntKind.u64.wrap (IntKind.u64.wrap (a4.toNat : Int) * 256))) (IntKind.u64.wrap (IntKind.u64.wrap (a5.toNat : Int) * 65536))) (IntKind.u64.wrap (IntKind.u64.wrap (a6.toNat : Int) * 16777216)) = numOf ((rs.drop 3).take 4) := by
  have e : ∀ z : Int, 0 ≤ z → z < 18446744073709551616 → IntKind.u64.wrap z = z := fun z h0 h1 => by rw [IntKind.wrap_u64]; omega
  have q3 := a3.toNat_lt
  have q4 := a4.toNat_lt
  have q5 := a5.toNat_lt
  have q6 := a6.toNat_lt
  rw [e (a3.toNat : Int) (by omega) (by omega), e (a4.toNat : Int) (by omega) (by omega), e (a5.toNat : Int) (by omega) (by omega), e (a6.toNat : Int) (by omega) (by omega), e ((a4.toNat : Int) * 256) (by omega) (by omega), e ((a5.toNat : Int) * 65536) (by omega) (by omega), e ((a6.toNat : Int) * 16777216) (by omega) (by omega)]
  refine (le32_sum a3.toNat a4.toNat a5.toNat a6.toNat q3 q4 q5 q6).trans ?_
  rw [h]
  simp [numOf]
theorem el_part : El Try.prog 109 114 3 32 := El.of Try.underlying109 (z := .agg #[.int .u16 0, .int .u8 0, .slice none 0 0]) (by kernel_rfl) rfl (by decide)
def Rg (x : It) : Prop := 0 ≤ x.1 ∧ x.1 ≤ 65535 ∧ 0 ≤ x.2.1 ∧ x.2.1 ≤ 255
/-- Parts in memory: a row of the call's own, the bytes wherever they lie. -/
def PartsAt (B : Nat) (w : World) (v : Value) (xs : List Itm) : Prop := w.ownsRow B 114 3 v xs.length (cellsOf encIt xs) ∧ ∀ x ∈ xs, BytesAt w x.2.2.1 x.2.2.2 ∧ Rg (bare x)
theorem PartsAt.grow {B : Nat} {w w' : World} {v : Value} {xs : List Itm} (h : PartsAt B w v xs) (hF : Frm (fun _ => False) w w') : PartsAt B w' v xs :=
  ⟨hF.row h.1 (fun _ _ h => h), fun x hx => ⟨(h.2 x hx).1.grow hF, (h.2 x hx).2⟩⟩
def PartsP (bs : List UInt8) (w : World) (e : Ending) (w' : World) : Prop :=
  Frm (fun _ => False) w w' ∧ ((partsD bs = none ∧ e = .returned (.tuple #[.slice none 0 0, .bool false])) ∨ ∃ l v xs, partsD bs = some l ∧ e = .returned (.tuple #[v, .bool true]) ∧ PartsAt w.heap.size w' v xs ∧ xs.map bare = l)

set_option maxRecDepth 100000 in
set_option maxHeartbeats 2000000 in
theorem odParts_any (v : Value) (bs : List UInt8) (w : World) (h : BytesAt w v bs) (hl : bs.length ≤ 140737488351232) : Calls Try.prog 63 #[v] w (PartsP bs w) := by
  have HV := Lib.hid h
  obtain ⟨A0, cap0, rfl, _, _, _⟩ := h
  have HBL := Lib.hid hl
  clear hl
  unfold PartsP
  go_enter Try.func63, Try.ntmps63
  go_wp2_with fail
  go_loopw [0, 4] (fun bv lv wr => ∃ (rs : List UInt8) (xs : List Itm), BytesAt w bv rs ∧ rs.length + 7 * xs.length ≤ bs.length ∧ PartsAt w.heap.size wr lv xs ∧ (∀ x ∈ xs, BytesAt w x.2.2.1 x.2.2.2) ∧ (xs.length : Int) ≤ lastP (xs.map bare) + 1 ∧ partsD bs = (prtF rs.length (lastP (xs.map bare)) rs).map (xs.map bare ++ ·) ∧ Frm (fun _ => False) w wr) (fun bv _ _ => (match bv with | .slice _ n _ => n | _ => 0))
  case atStart => exact ⟨bs, [], HV.out, by simp, ⟨World.ownsRow_nil _ _ _ _, fun x hx => by cases hx⟩, (fun x hx => by cases hx), (by simp [lastP]), by simp [partsD, lastP], Frm.refl _ _⟩
  case round =>
    obtain ⟨rs, xs, hBw, hlen, hX, hXw, hlp, hP, hF⟩ := hrel
    have HLP := Lib.hid hlp
    have hB := hBw.grow hF
    obtain ⟨A, cap, rfl, hn1, hn2, hcell⟩ := bytes_cell hB
    have HBW := Lib.hid hBw
    have HXW := Lib.hid hXw
    have HB := Lib.hid hB
    have HX := Lib.hid hX
    have HP := Lib.hid hP
    have HF := Lib.hid hF
    have hm : rs.length ≤ 9223372036854775807 := Nat.le_trans hn1 hn2
    obtain ⟨Al, cl, rfl, _, _, _⟩ := row_open hX.1
    have HCAP := Lib.hid hn2
    have HXL : Hid (∀ q, (Value.slice Al xs.length cl).ownBlock = some q → q < wr.heap.size) := fun q hq => by
      obtain ⟨_, cur, hc⟩ := row_block hX.1 hq
      exact lt_of_block hc
    clear hB hX hP hF hn2 hBw hXw hlp
    by_cases h0 : 0 < rs.length
    case neg =>
      have hz : rs.length = 0 := by omega
      have HD : Hid (partsD bs = some (xs.map bare)) := by unfold Hid; rw [HP.out, prt_done _ _ hz]; simp
      clear h0
      go_wp2_with fail
      go_ret2
      exact ⟨HF.out, .inr ⟨_, _, xs, HD.out, rfl, HX.out, rfl⟩⟩
    case pos =>
      by_cases h7 : rs.length < 7
      · have HD : Hid (partsD bs = none) := by unfold Hid; rw [HP.out, prt_bad h0 (.inl h7)]; rfl
        go_wp2_with fail
        go_ret2
        exact ⟨HF.out, .inl ⟨HD.out, rfl⟩⟩
      · obtain ⟨g, off, rfl, hc2⟩ := hcell h0
        have h7' : 7 ≤ rs.length := by omega
        have H7 := Lib.hid h7'
        obtain ⟨a0, a1, a2, a3, a4, a5, a6, r, hrs⟩ : ∃ a0 a1 a2 a3 a4 a5 a6 r, rs = a0 :: a1 :: a2 :: a3 :: a4 :: a5 :: a6 :: r := by
          match rs, h7' with
          | a0 :: a1 :: a2 :: a3 :: a4 :: a5 :: a6 :: r, _ => exact ⟨_, _, _, _, _, _, _, _, rfl⟩
        have c0 : wr.cell? ⟨g, off, none⟩ = some (.int .u8 (a0.toNat : Int)) := by
          have h9 := hc2 0 (by omega)
          have e9 : rs[0]'(by omega) = a0 := by simp [hrs]
          rw [e9] at h9
          exact h9
        have c1 : wr.cell? ⟨g, off + 1, none⟩ = some (.int .u8 (a1.toNat : Int)) := by
          have h9 := hc2 1 (by omega)
          have e9 : rs[1]'(by omega) = a1 := by simp [hrs]
          rw [e9] at h9
          exact h9
        have c2 : wr.cell? ⟨g, off + 2, none⟩ = some (.int .u8 (a2.toNat : Int)) := by
          have h9 := hc2 2 (by omega)
          have e9 : rs[2]'(by omega) = a2 := by simp [hrs]
          rw [e9] at h9
          exact h9
        have c3 : wr.cell? ⟨g, off + 3, none⟩ = some (.int .u8 (a3.toNat : Int)) := by
          have h9 := hc2 3 (by omega)
          have e9 : rs[3]'(by omega) = a3 := by simp [hrs]
          rw [e9] at h9
          exact h9
        have c4 : wr.cell? ⟨g, off + 4, none⟩ = some (.int .u8 (a4.toNat : Int)) := by
          have h9 := hc2 4 (by omega)
          have e9 : rs[4]'(by omega) = a4 := by simp [hrs]
          rw [e9] at h9
          exact h9
        have c5 : wr.cell? ⟨g, off + 5, none⟩ = some (.int .u8 (a5.toNat : Int)) := by
          have h9 := hc2 5 (by omega)
          have e9 : rs[5]'(by omega) = a5 := by simp [hrs]
          rw [e9] at h9
          exact h9
        have c6 : wr.cell? ⟨g, off + 6, none⟩ = some (.int .u8 (a6.toNat : Int)) := by
          have h9 := hc2 6 (by omega)
          have e9 : rs[6]'(by omega) = a6 := by simp [hrs]
          rw [e9] at h9
          exact h9
        have hgl := World.block_lt_of_cell? wr _ c0
        have HIDX : Hid (bits BinOp.or IntKind.u16 (IntKind.u16.wrap (a0.toNat : Int)) (IntKind.u16.wrap (IntKind.u16.wrap (a1.toNat : Int) * 256)) = (headP rs).1) := idx_sum hrs
        have HSUB : Hid ((a2.toNat : Int) = (headP rs).2.1) := by unfold Hid; rw [hrs]; rfl
        have HRG : Hid (Rg (headP rs)) := by
          have hb := numOf_bound (rs.take 2)
          have hl2 : (rs.take 2).length = 2 := by simp; omega
          rw [hl2] at hb
          have b2 := a2.toNat_lt
          have h2 := HSUB.out
          unfold Hid Rg
          refine ⟨?_, ?_, by rw [← h2]; omega, by rw [← h2]; omega⟩
          · exact hb.1
          · have : (headP rs).1 < 256 ^ 2 := hb.2
            omega
        obtain ⟨n, hn⟩ : ∃ n : Nat, numOf ((rs.drop 3).take 4) = (n : Int) := ⟨(numOf ((rs.drop 3).take 4)).toNat, (Int.toNat_of_nonneg (numOf_bound _).1).symm⟩
        have hnb : n < 4294967296 := by
          have hb := (numOf_bound ((rs.drop 3).take 4)).2
          have hl4 : ((rs.drop 3).take 4).length = 4 := by simp; omega
          rw [hl4, hn] at hb
          omega
        have HN := Lib.hid hn
        have HSUM : Hid (bits BinOp.or IntKind.u64 (bits BinOp.or IntKind.u64 (bits BinOp.or IntKind.u64 (IntKind.u64.wrap (a3.toNat : Int)) (IntKind.u64.wrap (IntKind.u64.wrap (a4.toNat : Int) * 256))) (IntKind.u64.wrap (IntKind.u64.wrap (a5.toNat : Int) * 65536))) (IntKind.u64.wrap (IntKind.u64.wrap (a6.toNat : Int) * 16777216)) = (n : Int)) := (len_sum hrs).trans hn
        have hb0 := a0.toNat_lt
        have hb1 := a1.toNat_lt
        have hb2 := a2.toNat_lt
        have hb3 := a3.toNat_lt
        have hb4 := a4.toNat_lt
        have hb5 := a5.toNat_lt
        have hb6 := a6.toNat_lt
        generalize a0.toNat = x0 at *
        generalize a1.toNat = x1 at *
        generalize a2.toNat = x2 at *
        generalize a3.toNat = x3 at *
        generalize a4.toNat = x4 at *
        generalize a5.toNat = x5 at *
        generalize a6.toNat = x6 at *
        have hcc : ∀ Wx, Frm (fun _ => False) wr Wx → Wx.cell? ⟨g, off, none⟩ = some (.int .u8 (x0 : Int)) ∧ Wx.cell? ⟨g, off + 1, none⟩ = some (.int .u8 (x1 : Int)) ∧ Wx.cell? ⟨g, off + 2, none⟩ = some (.int .u8 (x2 : Int)) ∧ Wx.cell? ⟨g, off + 3, none⟩ = some (.int .u8 (x3 : Int)) ∧ Wx.cell? ⟨g, off + 4, none⟩ = some (.int .u8 (x4 : Int)) ∧ Wx.cell? ⟨g, off + 5, none⟩ = some (.int .u8 (x5 : Int)) ∧ Wx.cell? ⟨g, off + 6, none⟩ = some (.int .u8 (x6 : Int)) := fun Wx h => ⟨h.cell c0 (fun h => h), h.cell c1 (fun h => h), h.cell c2 (fun h => h), h.cell c3 (fun h => h), h.cell c4 (fun h => h), h.cell c5 (fun h => h), h.cell c6 (fun h => h)⟩
        have HCC := Lib.hid hcc
        have l0 : (0 : Int) < (rs.length : Int) := by omega
        have l1 : (1 : Int) < (rs.length : Int) := by omega
        have l2 : (2 : Int) < (rs.length : Int) := by omega
        have l3 : (3 : Int) < (rs.length : Int) := by omega
        have l4 : (4 : Int) < (rs.length : Int) := by omega
        have l5 : (5 : Int) < (rs.length : Int) := by omega
        have l6 : (6 : Int) < (rs.length : Int) := by omega
        clear c0 c1 c2 c3 c4 c5 c6 hcell hc2 hcc hn hrs
        go_upto_region 5 with fail
        go_cut [5] (fun pv wx => ∃ gb, pv = .pointer (some ⟨gb, 0, none⟩) ∧ wx.heap[gb]? = some (.cells #[.int .u16 (headP rs).1, .int .u8 (headP rs).2.1, .slice none 0 0] 114 (0, 0)) ∧ Frm (fun _ => False) wr wx ∧ wr.heap.size ≤ gb)
        case first =>
          refine wp_region_held_drew (S := fun W => Frm (fun _ => False) wr W) (by kernel_rfl) ((Frm.refl _ _).drew) (fun hHeld => ?_)
          refine wpAnyH_take (i := 0) (v := ?_) rfl (by kernel_rfl) (by kernel_rfl) (by kernel_rfl) (fun _ _ _ h => h) (Or.inl ⟨by rfl, ?_⟩) (by assumption) ?_; rotate_left; · (intro wq hSq; have hq := HCC.out wq hSq; go_split_ands; go_simp; (try with_reducible rfl))
          try simp only [Act.put, getElem_toArray, getElem_cons_zero, getElem_cons_succ, setIfInBounds_toArray, set_cons_zero, set_cons_succ]
          refine wpAnyH_take (i := 1) (v := ?_) rfl (by kernel_rfl) (by kernel_rfl) (by kernel_rfl) (fun _ _ _ h => h) (Or.inl ⟨by rfl, ?_⟩) (by assumption) ?_; rotate_left; · (intro wq hSq; have hq := HCC.out wq hSq; go_split_ands; go_simp; (try with_reducible rfl))
          try simp only [Act.put, getElem_toArray, getElem_cons_zero, getElem_cons_succ, setIfInBounds_toArray, set_cons_zero, set_cons_succ]
          refine wpAnyH_take (i := 2) (v := ?_) rfl (by kernel_rfl) (by kernel_rfl) (by kernel_rfl) (fun _ _ _ h => h) (Or.inl ⟨by rfl, ?_⟩) (by assumption) ?_; rotate_left; · (intro wq hSq; have hq := HCC.out wq hSq; go_split_ands; go_simp; (try with_reducible rfl))
          try simp only [Act.put, getElem_toArray, getElem_cons_zero, getElem_cons_succ, setIfInBounds_toArray, set_cons_zero, set_cons_succ]
          refine wpAnyH_take (i := 3) (v := ?_) rfl (by kernel_rfl) (by kernel_rfl) (by kernel_rfl) (fun _ _ _ h => h) (Or.inl ⟨by rfl, ?_⟩) (by assumption) ?_; rotate_left; · (intro wq hSq; have hq := HCC.out wq hSq; go_split_ands; go_simp; (try with_reducible rfl))
          try simp only [Act.put, getElem_toArray, getElem_cons_zero, getElem_cons_succ, setIfInBounds_toArray, set_cons_zero, set_cons_succ]
          refine wpAnyH_take (i := 4) (v := ?_) rfl (by kernel_rfl) (by kernel_rfl) (by kernel_rfl) (fun _ _ _ h => h) (Or.inl ⟨by rfl, ?_⟩) (by assumption) ?_; rotate_left; · (intro wq hSq; have hq := HCC.out wq hSq; go_split_ands; go_simp; (try with_reducible rfl))
          try simp only [Act.put, getElem_toArray, getElem_cons_zero, getElem_cons_succ, setIfInBounds_toArray, set_cons_zero, set_cons_succ]
          refine wpAnyH_take (i := 5) (v := ?_) rfl (by kernel_rfl) (by kernel_rfl) (by kernel_rfl) (fun _ _ _ h => h) (Or.inl ⟨by rfl, ?_⟩) (by assumption) ?_; rotate_left; · (intro wq hSq; have hq := HCC.out wq hSq; go_split_ands; go_simp; (try with_reducible rfl))
          try simp only [Act.put, getElem_toArray, getElem_cons_zero, getElem_cons_succ, setIfInBounds_toArray, set_cons_zero, set_cons_succ]
          refine wpAnyH_take (i := 6) (v := ?_) rfl (by kernel_rfl) (by kernel_rfl) (by kernel_rfl) (fun _ _ _ h => h) (Or.inl ⟨by rfl, ?_⟩) (by assumption) ?_; rotate_left; · (intro wq hSq; have hq := HCC.out wq hSq; go_split_ands; go_simp; (try with_reducible rfl))
          try simp only [Act.put, getElem_toArray, getElem_cons_zero, getElem_cons_succ, setIfInBounds_toArray, set_cons_zero, set_cons_succ]
          refine wpAnyH_take (i := 7) (v := ?_) rfl (by kernel_rfl) (by kernel_rfl) (by kernel_rfl) (fun _ _ _ h => h) (Or.inl ⟨by rfl, ?_⟩) (by assumption) ?_; rotate_left; · (intro wq hSq; have hq := HCC.out wq hSq; go_split_ands; go_simp; (try with_reducible rfl))
          try simp only [Act.put, getElem_toArray, getElem_cons_zero, getElem_cons_succ, setIfInBounds_toArray, set_cons_zero, set_cons_succ]
          refine wpAnyH_take (i := 8) (v := ?_) rfl (by kernel_rfl) (by kernel_rfl) (by kernel_rfl) (fun _ _ _ h => h) (Or.inl ⟨by rfl, ?_⟩) (by assumption) ?_; rotate_left; · (intro wq hSq; have hq := HCC.out wq hSq; go_split_ands; go_simp; (try with_reducible rfl))
          try simp only [Act.put, getElem_toArray, getElem_cons_zero, getElem_cons_succ, setIfInBounds_toArray, set_cons_zero, set_cons_succ]
          refine wpAnyH_take (i := 9) (v := ?_) rfl (by kernel_rfl) (by kernel_rfl) (by kernel_rfl) (fun _ _ _ h => h) (Or.inl ⟨by rfl, ?_⟩) (by assumption) ?_; rotate_left; · (intro wq hSq; have hq := HCC.out wq hSq; go_split_ands; go_simp; (try with_reducible rfl))
          try simp only [Act.put, getElem_toArray, getElem_cons_zero, getElem_cons_succ, setIfInBounds_toArray, set_cons_zero, set_cons_succ]
          refine wpAnyH_take (i := 10) (v := ?_) rfl (by kernel_rfl) (by kernel_rfl) (by kernel_rfl) (fun _ _ _ h => h) (Or.inl ⟨by rfl, ?_⟩) (by assumption) ?_; rotate_left; · (intro wq hSq; have hq := HCC.out wq hSq; go_split_ands; go_simp; (try with_reducible rfl))
          try simp only [Act.put, getElem_toArray, getElem_cons_zero, getElem_cons_succ, setIfInBounds_toArray, set_cons_zero, set_cons_succ]
          refine wpAnyH_take (i := 11) (v := ?_) rfl (by kernel_rfl) (by kernel_rfl) (by kernel_rfl) (fun _ _ _ h => h) (Or.inl ⟨by rfl, ?_⟩) (by assumption) ?_; rotate_left; · (intro wq hSq; have hq := HCC.out wq hSq; go_split_ands; go_simp; (try with_reducible rfl))
          try simp only [Act.put, getElem_toArray, getElem_cons_zero, getElem_cons_succ, setIfInBounds_toArray, set_cons_zero, set_cons_succ]
          refine wpAnyH_take (i := 12) (v := ?_) rfl (by kernel_rfl) (by kernel_rfl) (by kernel_rfl) (fun _ _ _ h => h) (Or.inl ⟨by rfl, ?_⟩) (by assumption) ?_; rotate_left; · (intro wq hSq; have hq := HCC.out wq hSq; go_split_ands; go_simp; (try with_reducible rfl))
          try simp only [Act.put, getElem_toArray, getElem_cons_zero, getElem_cons_succ, setIfInBounds_toArray, set_cons_zero, set_cons_succ]
          refine wpAnyH_take (i := 13) (v := ?_) rfl (by kernel_rfl) (by kernel_rfl) (by kernel_rfl) (fun _ _ _ h => h) (Or.inl ⟨by rfl, ?_⟩) (by assumption) ?_; rotate_left; · (intro wq hSq; have hq := HCC.out wq hSq; go_split_ands; go_simp; (try with_reducible rfl))
          try simp only [Act.put, getElem_toArray, getElem_cons_zero, getElem_cons_succ, setIfInBounds_toArray, set_cons_zero, set_cons_succ]
          refine wpAnyH_take (i := 14) (v := ?_) rfl (by kernel_rfl) (by kernel_rfl) (by kernel_rfl) (fun _ _ _ h => h) (Or.inl ⟨by rfl, ?_⟩) (by assumption) ?_; rotate_left; · (intro wq hSq; have hq := HCC.out wq hSq; go_split_ands; go_simp; (try with_reducible rfl))
          try simp only [Act.put, getElem_toArray, getElem_cons_zero, getElem_cons_succ, setIfInBounds_toArray, set_cons_zero, set_cons_succ]
          have hH := hHeld
          refine wpAnyH_ready (rs := [15]) (by kernel_rfl) (by simp) ?_
          refine AllReadyH.cons rfl (fun K hK => ?_) AllReadyH.nil
          try simp only [getElem_toArray, getElem_cons_zero, getElem_cons_succ]
          go_simp
          refine hK.out _ _ (hHeld.alloc _) (fun hHeld => ?_)
          clear hK K
          try simp only [Act.put, setIfInBounds_toArray, set_cons_zero, set_cons_succ]
          refine wpAnyH_ready (rs := [16]) (by kernel_rfl) (by simp) ?_
          refine AllReadyH.cons rfl (fun K hK => ?_) AllReadyH.nil
          try simp only [getElem_toArray, getElem_cons_zero, getElem_cons_succ]
          go_simp
          refine hK.out _ _ (hH.alloc _) (fun hHeld => ?_)
          clear hK K
          try simp only [Act.put, setIfInBounds_toArray, set_cons_zero, set_cons_succ]
          refine wpAnyH_done (by kernel_rfl) ?_ _
          have HH := Lib.hid hHeld
          clear hHeld hH
          go_wp2_with fail
          go_meet
          rw [HSUB.out, HIDX.out] at *
          exact ⟨_, rfl, heap_new _ _, HH.out, by simp⟩
        case rest =>
          obtain ⟨gb, rfl, hK, hFc, hgb⟩ := hcut
          have HCD := Lib.hid (fun Wx h => HCC.out Wx (hFc.trans' h))
          have HK := Lib.hid hK
          have HFC := Lib.hid hFc
          have hgc := Nat.lt_of_lt_of_le hgl hFc.size
          have hwg : w.heap.size ≤ gb := Nat.le_trans HF.out.size hgb
          clear hK hFc HCC hgl
          obtain ⟨wa, hwa⟩ : ∃ wa : World, wa = wc := ⟨_, rfl⟩
          subst hwa
          go_upto_region 6 with fail
          go_cut [6] (fun nv wx => nv = .int .u64 (n : Int) ∧ Frm (fun _ => False) wa wx)
          case first =>
            refine wp_region_held_drew (S := fun W => Frm (fun _ => False) wa W) (by kernel_rfl) ((Frm.refl _ _).drew) (fun hHeld => ?_)
            refine wpAnyH_take (i := 0) (v := ?_) rfl (by kernel_rfl) (by kernel_rfl) (by kernel_rfl) (fun _ _ _ h => h) (Or.inl ⟨by rfl, ?_⟩) (by assumption) ?_; rotate_left; · (intro wq hSq; have hq := HCD.out wq hSq; go_split_ands; go_simp; (try with_reducible rfl))
            try simp only [Act.put, getElem_toArray, getElem_cons_zero, getElem_cons_succ, setIfInBounds_toArray, set_cons_zero, set_cons_succ]
            refine wpAnyH_take (i := 1) (v := ?_) rfl (by kernel_rfl) (by kernel_rfl) (by kernel_rfl) (fun _ _ _ h => h) (Or.inl ⟨by rfl, ?_⟩) (by assumption) ?_; rotate_left; · (intro wq hSq; have hq := HCD.out wq hSq; go_split_ands; go_simp; (try with_reducible rfl))
            try simp only [Act.put, getElem_toArray, getElem_cons_zero, getElem_cons_succ, setIfInBounds_toArray, set_cons_zero, set_cons_succ]
            refine wpAnyH_take (i := 2) (v := ?_) rfl (by kernel_rfl) (by kernel_rfl) (by kernel_rfl) (fun _ _ _ h => h) (Or.inl ⟨by rfl, ?_⟩) (by assumption) ?_; rotate_left; · (intro wq hSq; have hq := HCD.out wq hSq; go_split_ands; go_simp; (try with_reducible rfl))
            try simp only [Act.put, getElem_toArray, getElem_cons_zero, getElem_cons_succ, setIfInBounds_toArray, set_cons_zero, set_cons_succ]
            refine wpAnyH_take (i := 3) (v := ?_) rfl (by kernel_rfl) (by kernel_rfl) (by kernel_rfl) (fun _ _ _ h => h) (Or.inl ⟨by rfl, ?_⟩) (by assumption) ?_; rotate_left; · (intro wq hSq; have hq := HCD.out wq hSq; go_split_ands; go_simp; (try with_reducible rfl))
            try simp only [Act.put, getElem_toArray, getElem_cons_zero, getElem_cons_succ, setIfInBounds_toArray, set_cons_zero, set_cons_succ]
            refine wpAnyH_take (i := 4) (v := ?_) rfl (by kernel_rfl) (by kernel_rfl) (by kernel_rfl) (fun _ _ _ h => h) (Or.inl ⟨by rfl, ?_⟩) (by assumption) ?_; rotate_left; · (intro wq hSq; have hq := HCD.out wq hSq; go_split_ands; go_simp; (try with_reducible rfl))
            try simp only [Act.put, getElem_toArray, getElem_cons_zero, getElem_cons_succ, setIfInBounds_toArray, set_cons_zero, set_cons_succ]
            refine wpAnyH_take (i := 5) (v := ?_) rfl (by kernel_rfl) (by kernel_rfl) (by kernel_rfl) (fun _ _ _ h => h) (Or.inl ⟨by rfl, ?_⟩) (by assumption) ?_; rotate_left; · (intro wq hSq; have hq := HCD.out wq hSq; go_split_ands; go_simp; (try with_reducible rfl))
            try simp only [Act.put, getElem_toArray, getElem_cons_zero, getElem_cons_succ, setIfInBounds_toArray, set_cons_zero, set_cons_succ]
            refine wpAnyH_take (i := 6) (v := ?_) rfl (by kernel_rfl) (by kernel_rfl) (by kernel_rfl) (fun _ _ _ h => h) (Or.inl ⟨by rfl, ?_⟩) (by assumption) ?_; rotate_left; · (intro wq hSq; have hq := HCD.out wq hSq; go_split_ands; go_simp; (try with_reducible rfl))
            try simp only [Act.put, getElem_toArray, getElem_cons_zero, getElem_cons_succ, setIfInBounds_toArray, set_cons_zero, set_cons_succ]
            refine wpAnyH_take (i := 7) (v := ?_) rfl (by kernel_rfl) (by kernel_rfl) (by kernel_rfl) (fun _ _ _ h => h) (Or.inl ⟨by rfl, ?_⟩) (by assumption) ?_; rotate_left; · (intro wq hSq; have hq := HCD.out wq hSq; go_split_ands; go_simp; (try with_reducible rfl))
            try simp only [Act.put, getElem_toArray, getElem_cons_zero, getElem_cons_succ, setIfInBounds_toArray, set_cons_zero, set_cons_succ]
            refine wpAnyH_take (i := 8) (v := ?_) rfl (by kernel_rfl) (by kernel_rfl) (by kernel_rfl) (fun _ _ _ h => h) (Or.inl ⟨by rfl, ?_⟩) (by assumption) ?_; rotate_left; · (intro wq hSq; have hq := HCD.out wq hSq; go_split_ands; go_simp; (try with_reducible rfl))
            try simp only [Act.put, getElem_toArray, getElem_cons_zero, getElem_cons_succ, setIfInBounds_toArray, set_cons_zero, set_cons_succ]
            refine wpAnyH_take (i := 9) (v := ?_) rfl (by kernel_rfl) (by kernel_rfl) (by kernel_rfl) (fun _ _ _ h => h) (Or.inl ⟨by rfl, ?_⟩) (by assumption) ?_; rotate_left; · (intro wq hSq; have hq := HCD.out wq hSq; go_split_ands; go_simp; (try with_reducible rfl))
            try simp only [Act.put, getElem_toArray, getElem_cons_zero, getElem_cons_succ, setIfInBounds_toArray, set_cons_zero, set_cons_succ]
            refine wpAnyH_take (i := 10) (v := ?_) rfl (by kernel_rfl) (by kernel_rfl) (by kernel_rfl) (fun _ _ _ h => h) (Or.inl ⟨by rfl, ?_⟩) (by assumption) ?_; rotate_left; · (intro wq hSq; have hq := HCD.out wq hSq; go_split_ands; go_simp; (try with_reducible rfl))
            try simp only [Act.put, getElem_toArray, getElem_cons_zero, getElem_cons_succ, setIfInBounds_toArray, set_cons_zero, set_cons_succ]
            refine wpAnyH_take (i := 11) (v := ?_) rfl (by kernel_rfl) (by kernel_rfl) (by kernel_rfl) (fun _ _ _ h => h) (Or.inl ⟨by rfl, ?_⟩) (by assumption) ?_; rotate_left; · (intro wq hSq; have hq := HCD.out wq hSq; go_split_ands; go_simp; (try with_reducible rfl))
            try simp only [Act.put, getElem_toArray, getElem_cons_zero, getElem_cons_succ, setIfInBounds_toArray, set_cons_zero, set_cons_succ]
            refine wpAnyH_take (i := 12) (v := ?_) rfl (by kernel_rfl) (by kernel_rfl) (by kernel_rfl) (fun _ _ _ h => h) (Or.inl ⟨by rfl, ?_⟩) (by assumption) ?_; rotate_left; · (intro wq hSq; have hq := HCD.out wq hSq; go_split_ands; go_simp; (try with_reducible rfl))
            try simp only [Act.put, getElem_toArray, getElem_cons_zero, getElem_cons_succ, setIfInBounds_toArray, set_cons_zero, set_cons_succ]
            refine wpAnyH_take (i := 13) (v := ?_) rfl (by kernel_rfl) (by kernel_rfl) (by kernel_rfl) (fun _ _ _ h => h) (Or.inl ⟨by rfl, ?_⟩) (by assumption) ?_; rotate_left; · (intro wq hSq; have hq := HCD.out wq hSq; go_split_ands; go_simp; (try with_reducible rfl))
            try simp only [Act.put, getElem_toArray, getElem_cons_zero, getElem_cons_succ, setIfInBounds_toArray, set_cons_zero, set_cons_succ]
            refine wpAnyH_take (i := 14) (v := ?_) rfl (by kernel_rfl) (by kernel_rfl) (by kernel_rfl) (fun _ _ _ h => h) (Or.inl ⟨by rfl, ?_⟩) (by assumption) ?_; rotate_left; · (intro wq hSq; have hq := HCD.out wq hSq; go_split_ands; go_simp; (try with_reducible rfl))
            try simp only [Act.put, getElem_toArray, getElem_cons_zero, getElem_cons_succ, setIfInBounds_toArray, set_cons_zero, set_cons_succ]
            refine wpAnyH_take (i := 15) (v := ?_) rfl (by kernel_rfl) (by kernel_rfl) (by kernel_rfl) (fun _ _ _ h => h) (Or.inl ⟨by rfl, ?_⟩) (by assumption) ?_; rotate_left; · (intro wq hSq; have hq := HCD.out wq hSq; go_split_ands; go_simp; (try with_reducible rfl))
            try simp only [Act.put, getElem_toArray, getElem_cons_zero, getElem_cons_succ, setIfInBounds_toArray, set_cons_zero, set_cons_succ]
            refine wpAnyH_take (i := 16) (v := ?_) rfl (by kernel_rfl) (by kernel_rfl) (by kernel_rfl) (fun _ _ _ h => h) (Or.inl ⟨by rfl, ?_⟩) (by assumption) ?_; rotate_left; · (intro wq hSq; have hq := HCD.out wq hSq; go_split_ands; go_simp; (try with_reducible rfl))
            try simp only [Act.put, getElem_toArray, getElem_cons_zero, getElem_cons_succ, setIfInBounds_toArray, set_cons_zero, set_cons_succ]
            refine wpAnyH_take (i := 17) (v := ?_) rfl (by kernel_rfl) (by kernel_rfl) (by kernel_rfl) (fun _ _ _ h => h) (Or.inl ⟨by rfl, ?_⟩) (by assumption) ?_; rotate_left; · (intro wq hSq; have hq := HCD.out wq hSq; go_split_ands; go_simp; (try with_reducible rfl))
            try simp only [Act.put, getElem_toArray, getElem_cons_zero, getElem_cons_succ, setIfInBounds_toArray, set_cons_zero, set_cons_succ]
            refine wpAnyH_take (i := 18) (v := ?_) rfl (by kernel_rfl) (by kernel_rfl) (by kernel_rfl) (fun _ _ _ h => h) (Or.inl ⟨by rfl, ?_⟩) (by assumption) ?_; rotate_left; · (intro wq hSq; have hq := HCD.out wq hSq; go_split_ands; go_simp; (try with_reducible rfl))
            try simp only [Act.put, getElem_toArray, getElem_cons_zero, getElem_cons_succ, setIfInBounds_toArray, set_cons_zero, set_cons_succ]
            refine wpAnyH_take (i := 19) (v := ?_) rfl (by kernel_rfl) (by kernel_rfl) (by kernel_rfl) (fun _ _ _ h => h) (Or.inl ⟨by rfl, ?_⟩) (by assumption) ?_; rotate_left; · (intro wq hSq; have hq := HCD.out wq hSq; go_split_ands; go_simp; (try with_reducible rfl))
            try simp only [Act.put, getElem_toArray, getElem_cons_zero, getElem_cons_succ, setIfInBounds_toArray, set_cons_zero, set_cons_succ]
            refine wpAnyH_take (i := 20) (v := ?_) rfl (by kernel_rfl) (by kernel_rfl) (by kernel_rfl) (fun _ _ _ h => h) (Or.inl ⟨by rfl, ?_⟩) (by assumption) ?_; rotate_left; · (intro wq hSq; have hq := HCD.out wq hSq; go_split_ands; go_simp; (try with_reducible rfl))
            try simp only [Act.put, getElem_toArray, getElem_cons_zero, getElem_cons_succ, setIfInBounds_toArray, set_cons_zero, set_cons_succ]
            refine wpAnyH_take (i := 21) (v := ?_) rfl (by kernel_rfl) (by kernel_rfl) (by kernel_rfl) (fun _ _ _ h => h) (Or.inl ⟨by rfl, ?_⟩) (by assumption) ?_; rotate_left; · (intro wq hSq; have hq := HCD.out wq hSq; go_split_ands; go_simp; (try with_reducible rfl))
            try simp only [Act.put, getElem_toArray, getElem_cons_zero, getElem_cons_succ, setIfInBounds_toArray, set_cons_zero, set_cons_succ]
            refine wpAnyH_take (i := 22) (v := ?_) rfl (by kernel_rfl) (by kernel_rfl) (by kernel_rfl) (fun _ _ _ h => h) (Or.inl ⟨by rfl, ?_⟩) (by assumption) ?_; rotate_left; · (intro wq hSq; have hq := HCD.out wq hSq; go_split_ands; go_simp; (try with_reducible rfl))
            try simp only [Act.put, getElem_toArray, getElem_cons_zero, getElem_cons_succ, setIfInBounds_toArray, set_cons_zero, set_cons_succ]
            refine wpAnyH_done (by kernel_rfl) ?_ _
            have HH := Lib.hid hHeld
            clear hHeld
            go_wp2_with fail
            go_meet
            exact ⟨by rw [← HSUM.out], HH.out⟩
          case rest =>
            obtain ⟨rfl, hF6⟩ := hcut
            have HF6 := Lib.hid (HF.out.trans' (HFC.out.trans' hF6))
            have HB6 := Lib.hid (HB.out.grow (HFC.out.trans' hF6))
            have HK6 := Lib.hid (hF6.heap HK.out (fun h => h))
            have HX6 := Lib.hid (HX.out.grow (HFC.out.trans' hF6))
            obtain ⟨r7, hr7⟩ : ∃ r7, r7 = rs.drop 7 := ⟨_, rfl⟩
            have hl7 : rs.length - 7 = r7.length := by rw [hr7, List.length_drop]
            have HR7 := Lib.hid hr7
            have HL7 := Lib.hid hl7
            have hn7 : r7.length ≤ 9223372036854775807 := by omega
            have hg6 := Nat.lt_of_lt_of_le hgc hF6.size
            have hgb6 := lt_of_block HK6.out
            clear hF6 hr7 HK HFC HB HX HF HCD hgc
            go_upto_region 7 with fail
            go_cut [0] (fun bv wx => ∃ A7 c7, bv = .slice A7 r7.length c7 ∧ BytesAt w bv r7 ∧ wx = wc)
            case first =>
              have hB9 := BytesAt.from rfl HBW.out 7 H7.out
              rw [← HR7.out, HL7.out] at hB9
              by_cases hc7 : cap = 7
              · rw [if_pos hc7] at hB9
                have HB9 := Lib.hid hB9
                clear hB9
                go_wp2_with fail
                go_meet
                exact ⟨_, _, rfl, by first | exact HB9.out | simpa [hc7] using HB9.out, rfl⟩
              · rw [if_neg hc7] at hB9
                have HB9 := Lib.hid hB9
                clear hB9
                go_wp2_with fail
                go_meet
                exact ⟨_, _, rfl, by first | exact HB9.out | simpa [hc7] using HB9.out, rfl⟩
            case rest =>
            obtain ⟨A7, c7, rfl, hB7, rfl⟩ := hcut
            have HB7 := Lib.hid hB7
            clear hB7 hl7
            go_upto_region 8 with fail
            go_cut [74] (fun bv wx => bv = .bool (decide (r7.length < n ∨ plP (headP rs) ≤ lastP (xs.map bare))) ∧ Frm (fun _ => False) wc wx)
            case first =>
              have hw : IntKind.u64.wrap (r7.length : Int) = (r7.length : Int) := by rw [IntKind.wrap_u64]; omega
              by_cases hnl : r7.length < n
              · have e1 : decide ((r7.length : Int) < (n : Int)) = true := by simp; omega
                have hnl' : (r7.length : Int) < (n : Int) := by omega
                have HT : Hid (decide (r7.length < n ∨ plP (headP rs) ≤ lastP (xs.map bare)) = true) := by unfold Hid; simp [hnl]
                have hcc : ∀ Wx, Frm (fun _ => False) wc Wx → True := fun _ _ => trivial
                have HCE := Lib.hid hcc
                clear hcc
                refine wp_region_held_drew (S := fun W => Frm (fun _ => False) wc W) (by kernel_rfl) ((Frm.refl _ _).drew) (fun hHeld => ?_)
                refine wpAnyH_take (i := 0) (v := ?_) rfl (by kernel_rfl) (by kernel_rfl) (by kernel_rfl) (fun _ _ _ h => h) (Or.inl ⟨by rfl, ?_⟩) (by assumption) ?_; rotate_left; · (intro wq hSq; have hq := HCE.out wq hSq; go_split_ands; go_simp; (try with_reducible rfl))
                try simp only [Act.put, getElem_toArray, getElem_cons_zero, getElem_cons_succ, setIfInBounds_toArray, set_cons_zero, set_cons_succ]
                refine wpAnyH_take (i := 1) (v := ?_) rfl (by kernel_rfl) (by kernel_rfl) (by kernel_rfl) (fun _ _ _ h => h) (Or.inl ⟨by rfl, ?_⟩) (by assumption) ?_; rotate_left; · (intro wq hSq; have hq := HCE.out wq hSq; go_split_ands; go_simp; (try with_reducible rfl))
                try simp only [Act.put, getElem_toArray, getElem_cons_zero, getElem_cons_succ, setIfInBounds_toArray, set_cons_zero, set_cons_succ]
                refine wpAnyH_take (i := 2) (v := ?_) rfl (by kernel_rfl) (by kernel_rfl) (by kernel_rfl) (fun _ _ _ h => h) (Or.inl ⟨by rfl, ?_⟩) (by assumption) ?_; rotate_left; · (intro wq hSq; have hq := HCE.out wq hSq; go_split_ands; go_simp; (try with_reducible rfl))
                try simp only [Act.put, getElem_toArray, getElem_cons_zero, getElem_cons_succ, setIfInBounds_toArray, set_cons_zero, set_cons_succ]
                refine wpAnyH_take (i := 3) (v := ?_) rfl (by kernel_rfl) (by kernel_rfl) (by kernel_rfl) (fun _ _ _ h => h) (Or.inl ⟨by rfl, ?_⟩) (by assumption) ?_; rotate_left; · (intro wq hSq; have hq := HCE.out wq hSq; go_split_ands; go_simp; (try with_reducible rfl))
                try simp only [Act.put, getElem_toArray, getElem_cons_zero, getElem_cons_succ, setIfInBounds_toArray, set_cons_zero, set_cons_succ]
                refine wpAnyH_take (i := 4) (v := ?_) rfl (by kernel_rfl) (by kernel_rfl) (by kernel_rfl) (fun _ _ _ h => h) (Or.inl ⟨by rfl, ?_⟩) (by assumption) ?_; rotate_left; · (intro wq hSq; have hq := HCE.out wq hSq; go_split_ands; go_simp; (try with_reducible rfl))
                try simp only [Act.put, getElem_toArray, getElem_cons_zero, getElem_cons_succ, setIfInBounds_toArray, set_cons_zero, set_cons_succ]
                refine wpAnyH_take (i := 5) (v := ?_) rfl (by kernel_rfl) (by kernel_rfl) (by kernel_rfl) (fun _ _ _ h => h) (Or.inl ⟨by rfl, ?_⟩) (by assumption) ?_; rotate_left; · (intro wq hSq; have hq := HCE.out wq hSq; go_split_ands; go_simp; (try with_reducible rfl))
                try simp only [Act.put, getElem_toArray, getElem_cons_zero, getElem_cons_succ, setIfInBounds_toArray, set_cons_zero, set_cons_succ]
                refine wpAnyH_take (i := 6) (v := undef) rfl (by kernel_rfl) (by kernel_rfl) (by kernel_rfl) (fun _ _ _ h => h) (Or.inr ⟨by rfl, rfl⟩) (by assumption) ?_
                try simp only [Act.put, getElem_toArray, getElem_cons_zero, getElem_cons_succ, setIfInBounds_toArray, set_cons_zero, set_cons_succ]
                refine wpAnyH_take (i := 7) (v := undef) rfl (by kernel_rfl) (by kernel_rfl) (by kernel_rfl) (fun _ _ _ h => h) (Or.inr ⟨by rfl, rfl⟩) (by assumption) ?_
                try simp only [Act.put, getElem_toArray, getElem_cons_zero, getElem_cons_succ, setIfInBounds_toArray, set_cons_zero, set_cons_succ]
                refine wpAnyH_take (i := 8) (v := undef) rfl (by kernel_rfl) (by kernel_rfl) (by kernel_rfl) (fun _ _ _ h => h) (Or.inr ⟨by rfl, rfl⟩) (by assumption) ?_
                try simp only [Act.put, getElem_toArray, getElem_cons_zero, getElem_cons_succ, setIfInBounds_toArray, set_cons_zero, set_cons_succ]
                refine wpAnyH_take (i := 9) (v := undef) rfl (by kernel_rfl) (by kernel_rfl) (by kernel_rfl) (fun _ _ _ h => h) (Or.inr ⟨by rfl, rfl⟩) (by assumption) ?_
                try simp only [Act.put, getElem_toArray, getElem_cons_zero, getElem_cons_succ, setIfInBounds_toArray, set_cons_zero, set_cons_succ]
                refine wpAnyH_take (i := 10) (v := undef) rfl (by kernel_rfl) (by kernel_rfl) (by kernel_rfl) (fun _ _ _ h => h) (Or.inr ⟨by rfl, rfl⟩) (by assumption) ?_
                try simp only [Act.put, getElem_toArray, getElem_cons_zero, getElem_cons_succ, setIfInBounds_toArray, set_cons_zero, set_cons_succ]
                refine wpAnyH_take (i := 11) (v := undef) rfl (by kernel_rfl) (by kernel_rfl) (by kernel_rfl) (fun _ _ _ h => h) (Or.inr ⟨by rfl, rfl⟩) (by assumption) ?_
                try simp only [Act.put, getElem_toArray, getElem_cons_zero, getElem_cons_succ, setIfInBounds_toArray, set_cons_zero, set_cons_succ]
                refine wpAnyH_take (i := 12) (v := undef) rfl (by kernel_rfl) (by kernel_rfl) (by kernel_rfl) (fun _ _ _ h => h) (Or.inr ⟨by rfl, rfl⟩) (by assumption) ?_
                try simp only [Act.put, getElem_toArray, getElem_cons_zero, getElem_cons_succ, setIfInBounds_toArray, set_cons_zero, set_cons_succ]
                refine wpAnyH_take (i := 13) (v := undef) rfl (by kernel_rfl) (by kernel_rfl) (by kernel_rfl) (fun _ _ _ h => h) (Or.inr ⟨by rfl, rfl⟩) (by assumption) ?_
                try simp only [Act.put, getElem_toArray, getElem_cons_zero, getElem_cons_succ, setIfInBounds_toArray, set_cons_zero, set_cons_succ]
                refine wpAnyH_take (i := 14) (v := undef) rfl (by kernel_rfl) (by kernel_rfl) (by kernel_rfl) (fun _ _ _ h => h) (Or.inr ⟨by rfl, rfl⟩) (by assumption) ?_
                try simp only [Act.put, getElem_toArray, getElem_cons_zero, getElem_cons_succ, setIfInBounds_toArray, set_cons_zero, set_cons_succ]
                refine wpAnyH_take (i := 15) (v := undef) rfl (by kernel_rfl) (by kernel_rfl) (by kernel_rfl) (fun _ _ _ h => h) (Or.inr ⟨by rfl, rfl⟩) (by assumption) ?_
                try simp only [Act.put, getElem_toArray, getElem_cons_zero, getElem_cons_succ, setIfInBounds_toArray, set_cons_zero, set_cons_succ]
                refine wpAnyH_take (i := 16) (v := undef) rfl (by kernel_rfl) (by kernel_rfl) (by kernel_rfl) (fun _ _ _ h => h) (Or.inr ⟨by rfl, rfl⟩) (by assumption) ?_
                try simp only [Act.put, getElem_toArray, getElem_cons_zero, getElem_cons_succ, setIfInBounds_toArray, set_cons_zero, set_cons_succ]
                refine wpAnyH_take (i := 17) (v := undef) rfl (by kernel_rfl) (by kernel_rfl) (by kernel_rfl) (fun _ _ _ h => h) (Or.inr ⟨by rfl, rfl⟩) (by assumption) ?_
                try simp only [Act.put, getElem_toArray, getElem_cons_zero, getElem_cons_succ, setIfInBounds_toArray, set_cons_zero, set_cons_succ]
                refine wpAnyH_take (i := 18) (v := undef) rfl (by kernel_rfl) (by kernel_rfl) (by kernel_rfl) (fun _ _ _ h => h) (Or.inr ⟨by rfl, rfl⟩) (by assumption) ?_
                try simp only [Act.put, getElem_toArray, getElem_cons_zero, getElem_cons_succ, setIfInBounds_toArray, set_cons_zero, set_cons_succ]
                refine wpAnyH_take (i := 19) (v := undef) rfl (by kernel_rfl) (by kernel_rfl) (by kernel_rfl) (fun _ _ _ h => h) (Or.inr ⟨by rfl, rfl⟩) (by assumption) ?_
                try simp only [Act.put, getElem_toArray, getElem_cons_zero, getElem_cons_succ, setIfInBounds_toArray, set_cons_zero, set_cons_succ]
                refine wpAnyH_take (i := 20) (v := undef) rfl (by kernel_rfl) (by kernel_rfl) (by kernel_rfl) (fun _ _ _ h => h) (Or.inr ⟨by rfl, rfl⟩) (by assumption) ?_
                try simp only [Act.put, getElem_toArray, getElem_cons_zero, getElem_cons_succ, setIfInBounds_toArray, set_cons_zero, set_cons_succ]
                refine wpAnyH_take (i := 21) (v := undef) rfl (by kernel_rfl) (by kernel_rfl) (by kernel_rfl) (fun _ _ _ h => h) (Or.inr ⟨by rfl, rfl⟩) (by assumption) ?_
                try simp only [Act.put, getElem_toArray, getElem_cons_zero, getElem_cons_succ, setIfInBounds_toArray, set_cons_zero, set_cons_succ]
                refine wpAnyH_take (i := 22) (v := ?_) rfl (by kernel_rfl) (by kernel_rfl) (by kernel_rfl) (fun _ _ _ h => h) (Or.inl ⟨by rfl, ?_⟩) (by assumption) ?_; rotate_left; · (intro wq hSq; (try dsimp only at hSq); go_split_ands; go_simp; (try with_reducible rfl))
                try simp only [Act.put, getElem_toArray, getElem_cons_zero, getElem_cons_succ, setIfInBounds_toArray, set_cons_zero, set_cons_succ]
                refine wpAnyH_done (by kernel_rfl) ?_ _
                have HH := Lib.hid hHeld
                clear hHeld
                go_wp2_with fail
                go_meet
                exact ⟨by rw [HT.out], HH.out⟩
              · have e1 : decide ((r7.length : Int) < (n : Int)) = false := by simp; omega
                have hnl' : ¬ (r7.length : Int) < (n : Int) := by omega
                rcases Nat.eq_zero_or_pos xs.length with hx0 | hxp
                · have hxn : xs = [] := List.eq_nil_of_length_eq_zero hx0
                  have HT : Hid (decide (r7.length < n ∨ plP (headP rs) ≤ lastP (xs.map bare)) = false) := by
                    have hr := HRG.out
                    unfold Rg at hr
                    unfold Hid
                    rw [hxn]
                    simp only [List.map_nil, lastP, List.getLast?_nil, plP, decide_eq_false_iff_not, not_or]
                    refine ⟨hnl, ?_⟩
                    omega
                  have hcc : ∀ Wx, Frm (fun _ => False) wc Wx → True := fun _ _ => trivial
                  have HCE := Lib.hid hcc
                  have em : ¬ (0 : Int) < (xs.length : Int) := by omega
                  have em2 : decide ((0 : Int) < (xs.length : Int)) = false := by simp; omega
                  have em3 : ¬ (0 < xs.length) := by omega
                  clear hcc hxn hx0
                  refine wp_region_held_drew (S := fun W => Frm (fun _ => False) wc W) (by kernel_rfl) ((Frm.refl _ _).drew) (fun hHeld => ?_)
                  refine wpAnyH_take (i := 0) (v := ?_) rfl (by kernel_rfl) (by kernel_rfl) (by kernel_rfl) (fun _ _ _ h => h) (Or.inl ⟨by rfl, ?_⟩) (by assumption) ?_; rotate_left; · (intro wq hSq; have hq := HCE.out wq hSq; go_split_ands; go_simp; (try with_reducible rfl))
                  try simp only [Act.put, getElem_toArray, getElem_cons_zero, getElem_cons_succ, setIfInBounds_toArray, set_cons_zero, set_cons_succ]
                  refine wpAnyH_take (i := 1) (v := ?_) rfl (by kernel_rfl) (by kernel_rfl) (by kernel_rfl) (fun _ _ _ h => h) (Or.inl ⟨by rfl, ?_⟩) (by assumption) ?_; rotate_left; · (intro wq hSq; have hq := HCE.out wq hSq; go_split_ands; go_simp; (try with_reducible rfl))
                  try simp only [Act.put, getElem_toArray, getElem_cons_zero, getElem_cons_succ, setIfInBounds_toArray, set_cons_zero, set_cons_succ]
                  refine wpAnyH_take (i := 2) (v := ?_) rfl (by kernel_rfl) (by kernel_rfl) (by kernel_rfl) (fun _ _ _ h => h) (Or.inl ⟨by rfl, ?_⟩) (by assumption) ?_; rotate_left; · (intro wq hSq; have hq := HCE.out wq hSq; go_split_ands; go_simp; (try with_reducible rfl))
                  try simp only [Act.put, getElem_toArray, getElem_cons_zero, getElem_cons_succ, setIfInBounds_toArray, set_cons_zero, set_cons_succ]
                  refine wpAnyH_take (i := 3) (v := ?_) rfl (by kernel_rfl) (by kernel_rfl) (by kernel_rfl) (fun _ _ _ h => h) (Or.inl ⟨by rfl, ?_⟩) (by assumption) ?_; rotate_left; · (intro wq hSq; have hq := HCE.out wq hSq; go_split_ands; go_simp; (try with_reducible rfl))
                  try simp only [Act.put, getElem_toArray, getElem_cons_zero, getElem_cons_succ, setIfInBounds_toArray, set_cons_zero, set_cons_succ]
                  refine wpAnyH_take (i := 4) (v := ?_) rfl (by kernel_rfl) (by kernel_rfl) (by kernel_rfl) (fun _ _ _ h => h) (Or.inl ⟨by rfl, ?_⟩) (by assumption) ?_; rotate_left; · (intro wq hSq; have hq := HCE.out wq hSq; go_split_ands; go_simp; (try with_reducible rfl))
                  try simp only [Act.put, getElem_toArray, getElem_cons_zero, getElem_cons_succ, setIfInBounds_toArray, set_cons_zero, set_cons_succ]
                  refine wpAnyH_take (i := 5) (v := ?_) rfl (by kernel_rfl) (by kernel_rfl) (by kernel_rfl) (fun _ _ _ h => h) (Or.inl ⟨by rfl, ?_⟩) (by assumption) ?_; rotate_left; · (intro wq hSq; have hq := HCE.out wq hSq; go_split_ands; go_simp; (try with_reducible rfl))
                  try simp only [Act.put, getElem_toArray, getElem_cons_zero, getElem_cons_succ, setIfInBounds_toArray, set_cons_zero, set_cons_succ]
                  refine wpAnyH_take (i := 6) (v := ?_) rfl (by kernel_rfl) (by kernel_rfl) (by kernel_rfl) (fun _ _ _ h => h) (Or.inl ⟨by rfl, ?_⟩) (by assumption) ?_; rotate_left; · (intro wq hSq; have hq := HCE.out wq hSq; go_split_ands; go_simp; (try with_reducible rfl))
                  try simp only [Act.put, getElem_toArray, getElem_cons_zero, getElem_cons_succ, setIfInBounds_toArray, set_cons_zero, set_cons_succ]
                  refine wpAnyH_take (i := 7) (v := ?_) rfl (by kernel_rfl) (by kernel_rfl) (by kernel_rfl) (fun _ _ _ h => h) (Or.inl ⟨by rfl, ?_⟩) (by assumption) ?_; rotate_left; · (intro wq hSq; have hq := HCE.out wq hSq; go_split_ands; go_simp; (try with_reducible rfl))
                  try simp only [Act.put, getElem_toArray, getElem_cons_zero, getElem_cons_succ, setIfInBounds_toArray, set_cons_zero, set_cons_succ]
                  refine wpAnyH_take (i := 8) (v := ?_) rfl (by kernel_rfl) (by kernel_rfl) (by kernel_rfl) (fun _ _ _ h => h) (Or.inl ⟨by rfl, ?_⟩) (by assumption) ?_; rotate_left; · (intro wq hSq; have hq := HCE.out wq hSq; go_split_ands; go_simp; (try with_reducible rfl))
                  try simp only [Act.put, getElem_toArray, getElem_cons_zero, getElem_cons_succ, setIfInBounds_toArray, set_cons_zero, set_cons_succ]
                  refine wpAnyH_take (i := 9) (v := ?_) rfl (by kernel_rfl) (by kernel_rfl) (by kernel_rfl) (fun _ _ _ h => h) (Or.inl ⟨by rfl, ?_⟩) (by assumption) ?_; rotate_left; · (intro wq hSq; have hq := HCE.out wq hSq; go_split_ands; go_simp; (try with_reducible rfl))
                  try simp only [Act.put, getElem_toArray, getElem_cons_zero, getElem_cons_succ, setIfInBounds_toArray, set_cons_zero, set_cons_succ]
                  refine wpAnyH_take (i := 10) (v := undef) rfl (by kernel_rfl) (by kernel_rfl) (by kernel_rfl) (fun _ _ _ h => h) (Or.inr ⟨by rfl, rfl⟩) (by assumption) ?_
                  try simp only [Act.put, getElem_toArray, getElem_cons_zero, getElem_cons_succ, setIfInBounds_toArray, set_cons_zero, set_cons_succ]
                  refine wpAnyH_take (i := 11) (v := undef) rfl (by kernel_rfl) (by kernel_rfl) (by kernel_rfl) (fun _ _ _ h => h) (Or.inr ⟨by rfl, rfl⟩) (by assumption) ?_
                  try simp only [Act.put, getElem_toArray, getElem_cons_zero, getElem_cons_succ, setIfInBounds_toArray, set_cons_zero, set_cons_succ]
                  refine wpAnyH_take (i := 12) (v := undef) rfl (by kernel_rfl) (by kernel_rfl) (by kernel_rfl) (fun _ _ _ h => h) (Or.inr ⟨by rfl, rfl⟩) (by assumption) ?_
                  try simp only [Act.put, getElem_toArray, getElem_cons_zero, getElem_cons_succ, setIfInBounds_toArray, set_cons_zero, set_cons_succ]
                  refine wpAnyH_take (i := 13) (v := undef) rfl (by kernel_rfl) (by kernel_rfl) (by kernel_rfl) (fun _ _ _ h => h) (Or.inr ⟨by rfl, rfl⟩) (by assumption) ?_
                  try simp only [Act.put, getElem_toArray, getElem_cons_zero, getElem_cons_succ, setIfInBounds_toArray, set_cons_zero, set_cons_succ]
                  refine wpAnyH_take (i := 14) (v := undef) rfl (by kernel_rfl) (by kernel_rfl) (by kernel_rfl) (fun _ _ _ h => h) (Or.inr ⟨by rfl, rfl⟩) (by assumption) ?_
                  try simp only [Act.put, getElem_toArray, getElem_cons_zero, getElem_cons_succ, setIfInBounds_toArray, set_cons_zero, set_cons_succ]
                  refine wpAnyH_take (i := 15) (v := undef) rfl (by kernel_rfl) (by kernel_rfl) (by kernel_rfl) (fun _ _ _ h => h) (Or.inr ⟨by rfl, rfl⟩) (by assumption) ?_
                  try simp only [Act.put, getElem_toArray, getElem_cons_zero, getElem_cons_succ, setIfInBounds_toArray, set_cons_zero, set_cons_succ]
                  refine wpAnyH_take (i := 16) (v := undef) rfl (by kernel_rfl) (by kernel_rfl) (by kernel_rfl) (fun _ _ _ h => h) (Or.inr ⟨by rfl, rfl⟩) (by assumption) ?_
                  try simp only [Act.put, getElem_toArray, getElem_cons_zero, getElem_cons_succ, setIfInBounds_toArray, set_cons_zero, set_cons_succ]
                  refine wpAnyH_take (i := 17) (v := undef) rfl (by kernel_rfl) (by kernel_rfl) (by kernel_rfl) (fun _ _ _ h => h) (Or.inr ⟨by rfl, rfl⟩) (by assumption) ?_
                  try simp only [Act.put, getElem_toArray, getElem_cons_zero, getElem_cons_succ, setIfInBounds_toArray, set_cons_zero, set_cons_succ]
                  refine wpAnyH_take (i := 18) (v := undef) rfl (by kernel_rfl) (by kernel_rfl) (by kernel_rfl) (fun _ _ _ h => h) (Or.inr ⟨by rfl, rfl⟩) (by assumption) ?_
                  try simp only [Act.put, getElem_toArray, getElem_cons_zero, getElem_cons_succ, setIfInBounds_toArray, set_cons_zero, set_cons_succ]
                  refine wpAnyH_take (i := 19) (v := undef) rfl (by kernel_rfl) (by kernel_rfl) (by kernel_rfl) (fun _ _ _ h => h) (Or.inr ⟨by rfl, rfl⟩) (by assumption) ?_
                  try simp only [Act.put, getElem_toArray, getElem_cons_zero, getElem_cons_succ, setIfInBounds_toArray, set_cons_zero, set_cons_succ]
                  refine wpAnyH_take (i := 20) (v := undef) rfl (by kernel_rfl) (by kernel_rfl) (by kernel_rfl) (fun _ _ _ h => h) (Or.inr ⟨by rfl, rfl⟩) (by assumption) ?_
                  try simp only [Act.put, getElem_toArray, getElem_cons_zero, getElem_cons_succ, setIfInBounds_toArray, set_cons_zero, set_cons_succ]
                  refine wpAnyH_take (i := 21) (v := ?_) rfl (by kernel_rfl) (by kernel_rfl) (by kernel_rfl) (fun _ _ _ h => h) (Or.inl ⟨by rfl, ?_⟩) (by assumption) ?_; rotate_left; · (intro wq hSq; (try dsimp only at hSq); go_split_ands; go_simp; (try with_reducible rfl))
                  try simp only [Act.put, getElem_toArray, getElem_cons_zero, getElem_cons_succ, setIfInBounds_toArray, set_cons_zero, set_cons_succ]
                  refine wpAnyH_take (i := 22) (v := ?_) rfl (by kernel_rfl) (by kernel_rfl) (by kernel_rfl) (fun _ _ _ h => h) (Or.inl ⟨by rfl, ?_⟩) (by assumption) ?_; rotate_left; · (intro wq hSq; (try dsimp only at hSq); go_split_ands; go_simp; (try with_reducible rfl))
                  try simp only [Act.put, getElem_toArray, getElem_cons_zero, getElem_cons_succ, setIfInBounds_toArray, set_cons_zero, set_cons_succ]
                  refine wpAnyH_done (by kernel_rfl) ?_ _
                  have HH := Lib.hid hHeld
                  clear hHeld
                  go_wp2_with fail
                  go_meet
                  exact ⟨by rw [HT.out], HH.out⟩
                · obtain ⟨m, hm9⟩ : ∃ m, xs.length = m + 1 := ⟨xs.length - 1, by omega⟩
                  have hml : m < xs.length := by omega
                  have hrow := HX6.out.1
                  obtain ⟨A8, c8, e8, _, _, q8⟩ := row_open hrow
                  simp only [Value.slice.injEq] at e8
                  obtain ⟨rfl, -, rfl⟩ := e8
                  obtain ⟨g8, rfl, _, ⟨cur8, hc8⟩, _, hcc8⟩ := q8 hxp
                  have hg8 := lt_of_block hc8
                  have hcl : ∀ o (ho : o < 3), wc.cell? ⟨g8, m * 3 + o, none⟩ = some ((encIt xs[m])[o]'(by rw [encIt_len]; exact ho)) := fun o ho => by
                    rw [hcc8 _ (by omega), cellsOf_get encIt_len xs m o hml ho]
                    exact List.getElem?_eq_getElem (by rw [encIt_len]; exact ho)
                  have u0 := hcl 0 (by decide)
                  have u1 := hcl 1 (by decide)
                  simp only [encIt, getElem_cons_succ, getElem_cons_zero, Nat.add_zero] at u0 u1
                  have hlast : lastP (xs.map bare) = plP (bare xs[m]) := by
                    have e : (xs.map bare).getLast? = some (bare xs[m]) := by
                      rw [List.getLast?_eq_getElem?, List.length_map, hm9]
                      simp [List.getElem?_eq_getElem hml]
                    unfold lastP
                    rw [e]
                  have hrgm := (HX6.out.2 xs[m] (List.getElem_mem hml)).2
                  have HOR := Lib.hid (fun W => odOrder_any xs[m].1 xs[m].2.1 (headP rs).1 (headP rs).2.1 W)
                  have HT : Hid (decide (r7.length < n ∨ plP (headP rs) ≤ lastP (xs.map bare)) = decide (0 ≤ ordP xs[m].1 xs[m].2.1 (headP rs).1 (headP rs).2.1)) := by
                    have hr := HRG.out
                    unfold Rg bare at hrgm
                    unfold Rg at hr
                    simp only at hrgm
                    unfold Hid
                    rw [hlast, ordP_eq ⟨hrgm.2.2.1, hrgm.2.2.2⟩ ⟨hr.2.2.1, hr.2.2.2⟩]
                    unfold plP bare cmpI
                    simp only [hnl, false_or]
                    by_cases z1 : xs[m].1 * 256 + xs[m].2.1 < (headP rs).1 * 256 + (headP rs).2.1
                    · rw [if_pos z1]
                      simp
                      omega
                    · rw [if_neg z1]
                      by_cases z2 : (headP rs).1 * 256 + (headP rs).2.1 < xs[m].1 * 256 + xs[m].2.1
                      · rw [if_pos z2]
                        simp
                        omega
                      · rw [if_neg z2]
                        simp
                        omega
                  unfold plV at HOR
                  generalize ordP xs[m].1 xs[m].2.1 (headP rs).1 (headP rs).2.1 = od at *
                  generalize xs[m].1 = li at *
                  generalize xs[m].2.1 = ls at *
                  have hcc : ∀ Wx, Frm (fun _ => False) wc Wx → Wx.cell? ⟨g8, m * 3, none⟩ = some (.int .u16 li) ∧ Wx.cell? ⟨g8, m * 3 + 1, none⟩ = some (.int .u8 ls) ∧ Wx.cell? ⟨gb, 0, none⟩ = some (.int .u16 (headP rs).1) ∧ Wx.cell? ⟨gb, 1, none⟩ = some (.int .u8 (headP rs).2.1) := fun Wx h => ⟨h.cell u0 (fun h => h), h.cell u1 (fun h => h), h.cell (cell_at HK6.out) (fun h => h), h.cell (cell_at HK6.out) (fun h => h)⟩
                  have HCE := Lib.hid hcc
                  have hxl : xs.length ≤ 1000000000000000 := by have := HBL.out; omega
                  clear hcc u0 u1 hcl hcc8 hc8 q8 hrow hlast hrgm
                  have em : (xs.length : Int) - 1 = (m : Int) := by omega
                  have em2 : (0 : Int) < (xs.length : Int) := by omega
                  have em3 : (m : Int) < (xs.length : Int) := by omega
                  have em4 : (m : Int) ≤ 1000000000000000 := by omega
                  have em5 : IntKind.i64.wrap (m : Int) = (m : Int) := by simp only [IntKind.wrap, IntKind.bits, IntKind.signed]; simp; omega
                  clear hm9
                  refine wp_region_held_drew (S := fun W => Frm (fun _ => False) wc W) (by kernel_rfl) ((Frm.refl _ _).drew) (fun hHeld => ?_)
                  refine wpAnyH_take (i := 0) (v := ?_) rfl (by kernel_rfl) (by kernel_rfl) (by kernel_rfl) (fun _ _ _ h => h) (Or.inl ⟨by rfl, ?_⟩) (by assumption) ?_; rotate_left; · (intro wq hSq; have hq := HCE.out wq hSq; go_split_ands; go_simp; (try with_reducible rfl))
                  try simp only [Act.put, getElem_toArray, getElem_cons_zero, getElem_cons_succ, setIfInBounds_toArray, set_cons_zero, set_cons_succ]
                  refine wpAnyH_take (i := 1) (v := ?_) rfl (by kernel_rfl) (by kernel_rfl) (by kernel_rfl) (fun _ _ _ h => h) (Or.inl ⟨by rfl, ?_⟩) (by assumption) ?_; rotate_left; · (intro wq hSq; have hq := HCE.out wq hSq; go_split_ands; go_simp; (try with_reducible rfl))
                  try simp only [Act.put, getElem_toArray, getElem_cons_zero, getElem_cons_succ, setIfInBounds_toArray, set_cons_zero, set_cons_succ]
                  refine wpAnyH_take (i := 2) (v := ?_) rfl (by kernel_rfl) (by kernel_rfl) (by kernel_rfl) (fun _ _ _ h => h) (Or.inl ⟨by rfl, ?_⟩) (by assumption) ?_; rotate_left; · (intro wq hSq; have hq := HCE.out wq hSq; go_split_ands; go_simp; (try with_reducible rfl))
                  try simp only [Act.put, getElem_toArray, getElem_cons_zero, getElem_cons_succ, setIfInBounds_toArray, set_cons_zero, set_cons_succ]
                  refine wpAnyH_take (i := 3) (v := ?_) rfl (by kernel_rfl) (by kernel_rfl) (by kernel_rfl) (fun _ _ _ h => h) (Or.inl ⟨by rfl, ?_⟩) (by assumption) ?_; rotate_left; · (intro wq hSq; have hq := HCE.out wq hSq; go_split_ands; go_simp; (try with_reducible rfl))
                  try simp only [Act.put, getElem_toArray, getElem_cons_zero, getElem_cons_succ, setIfInBounds_toArray, set_cons_zero, set_cons_succ]
                  refine wpAnyH_take (i := 4) (v := ?_) rfl (by kernel_rfl) (by kernel_rfl) (by kernel_rfl) (fun _ _ _ h => h) (Or.inl ⟨by rfl, ?_⟩) (by assumption) ?_; rotate_left; · (intro wq hSq; have hq := HCE.out wq hSq; go_split_ands; go_simp; (try with_reducible rfl))
                  try simp only [Act.put, getElem_toArray, getElem_cons_zero, getElem_cons_succ, setIfInBounds_toArray, set_cons_zero, set_cons_succ]
                  refine wpAnyH_take (i := 5) (v := ?_) rfl (by kernel_rfl) (by kernel_rfl) (by kernel_rfl) (fun _ _ _ h => h) (Or.inl ⟨by rfl, ?_⟩) (by assumption) ?_; rotate_left; · (intro wq hSq; have hq := HCE.out wq hSq; go_split_ands; go_simp; (try with_reducible rfl))
                  try simp only [Act.put, getElem_toArray, getElem_cons_zero, getElem_cons_succ, setIfInBounds_toArray, set_cons_zero, set_cons_succ]
                  refine wpAnyH_take (i := 6) (v := ?_) rfl (by kernel_rfl) (by kernel_rfl) (by kernel_rfl) (fun _ _ _ h => h) (Or.inl ⟨by rfl, ?_⟩) (by assumption) ?_; rotate_left; · (intro wq hSq; have hq := HCE.out wq hSq; go_split_ands; go_simp; (try with_reducible rfl))
                  try simp only [Act.put, getElem_toArray, getElem_cons_zero, getElem_cons_succ, setIfInBounds_toArray, set_cons_zero, set_cons_succ]
                  refine wpAnyH_take (i := 7) (v := ?_) rfl (by kernel_rfl) (by kernel_rfl) (by kernel_rfl) (fun _ _ _ h => h) (Or.inl ⟨by rfl, ?_⟩) (by assumption) ?_; rotate_left; · (intro wq hSq; have hq := HCE.out wq hSq; go_split_ands; go_simp; (try with_reducible rfl))
                  try simp only [Act.put, getElem_toArray, getElem_cons_zero, getElem_cons_succ, setIfInBounds_toArray, set_cons_zero, set_cons_succ]
                  refine wpAnyH_take (i := 8) (v := ?_) rfl (by kernel_rfl) (by kernel_rfl) (by kernel_rfl) (fun _ _ _ h => h) (Or.inl ⟨by rfl, ?_⟩) (by assumption) ?_; rotate_left; · (intro wq hSq; have hq := HCE.out wq hSq; go_split_ands; go_simp; (try with_reducible rfl))
                  try simp only [Act.put, getElem_toArray, getElem_cons_zero, getElem_cons_succ, setIfInBounds_toArray, set_cons_zero, set_cons_succ]
                  refine wpAnyH_take (i := 9) (v := ?_) rfl (by kernel_rfl) (by kernel_rfl) (by kernel_rfl) (fun _ _ _ h => h) (Or.inl ⟨by rfl, ?_⟩) (by assumption) ?_; rotate_left; · (intro wq hSq; have hq := HCE.out wq hSq; go_split_ands; go_simp; (try with_reducible rfl))
                  try simp only [Act.put, getElem_toArray, getElem_cons_zero, getElem_cons_succ, setIfInBounds_toArray, set_cons_zero, set_cons_succ]
                  refine wpAnyH_take (i := 10) (v := ?_) rfl (by kernel_rfl) (by kernel_rfl) (by kernel_rfl) (fun _ _ _ h => h) (Or.inl ⟨by rfl, ?_⟩) (by assumption) ?_; rotate_left; · (intro wq hSq; have hq := HCE.out wq hSq; go_split_ands; go_simp; (try with_reducible rfl))
                  try simp only [Act.put, getElem_toArray, getElem_cons_zero, getElem_cons_succ, setIfInBounds_toArray, set_cons_zero, set_cons_succ]
                  refine wpAnyH_take (i := 11) (v := ?_) rfl (by kernel_rfl) (by kernel_rfl) (by kernel_rfl) (fun _ _ _ h => h) (Or.inl ⟨by rfl, ?_⟩) (by assumption) ?_; rotate_left; · (intro wq hSq; have hq := HCE.out wq hSq; go_split_ands; go_simp; (try with_reducible rfl))
                  try simp only [Act.put, getElem_toArray, getElem_cons_zero, getElem_cons_succ, setIfInBounds_toArray, set_cons_zero, set_cons_succ]
                  refine wpAnyH_take (i := 12) (v := ?_) rfl (by kernel_rfl) (by kernel_rfl) (by kernel_rfl) (fun _ _ _ h => h) (Or.inl ⟨by rfl, ?_⟩) (by assumption) ?_; rotate_left; · (intro wq hSq; have hq := HCE.out wq hSq; go_split_ands; go_simp; (try with_reducible rfl))
                  try simp only [Act.put, getElem_toArray, getElem_cons_zero, getElem_cons_succ, setIfInBounds_toArray, set_cons_zero, set_cons_succ]
                  refine wpAnyH_take (i := 13) (v := ?_) rfl (by kernel_rfl) (by kernel_rfl) (by kernel_rfl) (fun _ _ _ h => h) (Or.inl ⟨by rfl, ?_⟩) (by assumption) ?_; rotate_left; · (intro wq hSq; have hq := HCE.out wq hSq; go_split_ands; go_simp; (try with_reducible rfl))
                  try simp only [Act.put, getElem_toArray, getElem_cons_zero, getElem_cons_succ, setIfInBounds_toArray, set_cons_zero, set_cons_succ]
                  refine wpAnyH_take (i := 14) (v := ?_) rfl (by kernel_rfl) (by kernel_rfl) (by kernel_rfl) (fun _ _ _ h => h) (Or.inl ⟨by rfl, ?_⟩) (by assumption) ?_; rotate_left; · (intro wq hSq; have hq := HCE.out wq hSq; go_split_ands; go_simp; (try with_reducible rfl))
                  try simp only [Act.put, getElem_toArray, getElem_cons_zero, getElem_cons_succ, setIfInBounds_toArray, set_cons_zero, set_cons_succ]
                  refine wpAnyH_take (i := 15) (v := ?_) rfl (by kernel_rfl) (by kernel_rfl) (by kernel_rfl) (fun _ _ _ h => h) (Or.inl ⟨by rfl, ?_⟩) (by assumption) ?_; rotate_left; · (intro wq hSq; have hq := HCE.out wq hSq; go_split_ands; go_simp; (try with_reducible rfl))
                  try simp only [Act.put, getElem_toArray, getElem_cons_zero, getElem_cons_succ, setIfInBounds_toArray, set_cons_zero, set_cons_succ]
                  refine wpAnyH_take (i := 16) (v := ?_) rfl (by kernel_rfl) (by kernel_rfl) (by kernel_rfl) (fun _ _ _ h => h) (Or.inl ⟨by rfl, ?_⟩) (by assumption) ?_; rotate_left; · (intro wq hSq; have hq := HCE.out wq hSq; go_split_ands; go_simp; (try with_reducible rfl))
                  try simp only [Act.put, getElem_toArray, getElem_cons_zero, getElem_cons_succ, setIfInBounds_toArray, set_cons_zero, set_cons_succ]
                  refine wpAnyH_take (i := 17) (v := ?_) rfl (by kernel_rfl) (by kernel_rfl) (by kernel_rfl) (fun _ _ _ h => h) (Or.inl ⟨by rfl, ?_⟩) (by assumption) ?_; rotate_left; · (intro wq hSq; have hq := HCE.out wq hSq; go_split_ands; go_simp; (try with_reducible rfl))
                  try simp only [Act.put, getElem_toArray, getElem_cons_zero, getElem_cons_succ, setIfInBounds_toArray, set_cons_zero, set_cons_succ]
                  refine wpAnyH_take (i := 18) (v := ?_) rfl (by kernel_rfl) (by kernel_rfl) (by kernel_rfl) (fun _ _ _ h => h) (Or.inl ⟨by rfl, ?_⟩) (by assumption) ?_; rotate_left; · (intro wq hSq; have hq := HCE.out wq hSq; go_split_ands; go_simp; (try with_reducible rfl))
                  try simp only [Act.put, getElem_toArray, getElem_cons_zero, getElem_cons_succ, setIfInBounds_toArray, set_cons_zero, set_cons_succ]
                  refine wpAnyH_ready (rs := [19]) (by kernel_rfl) (by simp) ?_
                  refine AllReadyH.cons rfl (fun K hK => ?_) AllReadyH.nil
                  try simp only [getElem_toArray, getElem_cons_zero, getElem_cons_succ]
                  go_simp
                  refine (HOR.out _).mono ?_
                  rintro e w8 ⟨rfl, hF8⟩
                  go_wp2_with fail
                  refine hK.out _ _ (hHeld.trans' hF8) (fun hHeld => ?_)
                  clear hK K
                  try simp only [Act.put, setIfInBounds_toArray, set_cons_zero, set_cons_succ]
                  refine wpAnyH_take (i := 20) (v := ?_) rfl (by kernel_rfl) (by kernel_rfl) (by kernel_rfl) (fun _ _ _ h => h) (Or.inl ⟨by rfl, ?_⟩) (by assumption) ?_; rotate_left; · (intro wq hSq; (try dsimp only at hSq); go_split_ands; go_simp; (try with_reducible rfl))
                  try simp only [Act.put, getElem_toArray, getElem_cons_zero, getElem_cons_succ, setIfInBounds_toArray, set_cons_zero, set_cons_succ]
                  refine wpAnyH_take (i := 21) (v := ?_) rfl (by kernel_rfl) (by kernel_rfl) (by kernel_rfl) (fun _ _ _ h => h) (Or.inl ⟨by rfl, ?_⟩) (by assumption) ?_; rotate_left; · (intro wq hSq; (try dsimp only at hSq); go_split_ands; go_simp; (try with_reducible rfl))
                  try simp only [Act.put, getElem_toArray, getElem_cons_zero, getElem_cons_succ, setIfInBounds_toArray, set_cons_zero, set_cons_succ]
                  refine wpAnyH_take (i := 22) (v := ?_) rfl (by kernel_rfl) (by kernel_rfl) (by kernel_rfl) (fun _ _ _ h => h) (Or.inl ⟨by rfl, ?_⟩) (by assumption) ?_; rotate_left; · (intro wq hSq; (try dsimp only at hSq); go_split_ands; go_simp; (try with_reducible rfl))
                  try simp only [Act.put, getElem_toArray, getElem_cons_zero, getElem_cons_succ, setIfInBounds_toArray, set_cons_zero, set_cons_succ]
                  refine wpAnyH_done (by kernel_rfl) ?_ _
                  have HH := Lib.hid hHeld
                  clear hHeld
                  go_wp2_with fail
                  go_meet
                  exact ⟨by rw [HT.out], HH.out⟩
            case rest =>
              obtain ⟨rfl, hF8⟩ := hcut
              by_cases hbad : r7.length < n ∨ plP (headP rs) ≤ lastP (xs.map bare)
              · have HD : Hid (partsD bs = none) := by
                  unfold Hid
                  rw [HP.out, prt_bad h0 (.inr ⟨H7.out, ?_⟩)]
                  · rfl
                  · rw [HN.out, HL7.out]
                    rcases hbad with h | h
                    · exact .inl (by omega)
                    · exact .inr h
                have e1 : decide (r7.length < n ∨ plP (headP rs) ≤ lastP (xs.map bare)) = true := by simpa using hbad
                rw [e1]
                have HF8 := Lib.hid (HF6.out.trans' hF8)
                clear hF8 hbad e1
                go_wp2_with fail
                go_ret2
                exact ⟨HF8.out, .inl ⟨HD.out, rfl⟩⟩
              · have e1 : decide (r7.length < n ∨ plP (headP rs) ≤ lastP (xs.map bare)) = false := by simpa using hbad
                rw [e1]
                have hnn : n ≤ r7.length := by omega
                have hpl : lastP (xs.map bare) < plP (headP rs) := by omega
                have hHB : headP rs = ((headP rs).1, (headP rs).2.1, r7.take n) := by
                  unfold headP
                  rw [HN.out, HR7.out]
                  rfl
                have HNX : Hid (partsD bs = (prtF (r7.drop n).length (lastP (xs.map bare ++ [headP rs])) (r7.drop n)).map ((xs.map bare ++ [headP rs]) ++ ·)) := by
                  unfold Hid
                  rw [HP.out, prt_next H7.out HN.out (by rw [HL7.out]; exact hnn) hpl, lastP_snoc, ← HR7.out]
                  cases prtF (r7.drop n).length (plP (headP rs)) (r7.drop n) <;> simp
                have HLB : Hid ((xs.length : Int) + 1 ≤ plP (headP rs) + 1 ∧ xs.length ≤ 16777216) := by
                  have h1 := HLP.out
                  have h2 := HRG.out
                  unfold Rg at h2
                  have h3 : plP (headP rs) = (headP rs).1 * 256 + (headP rs).2.1 := rfl
                  unfold Hid
                  omega
                have HLN : Hid ((r7.drop n).length + 7 * (xs.length + 1) ≤ bs.length ∧ (r7.drop n).length < rs.length ∧ r7.length - n = (r7.drop n).length) := by
                  have := HL7.out
                  have := H7.out
                  unfold Hid
                  rw [List.length_drop]
                  omega
                have HB8 := HB7
                obtain ⟨A1, hs1, hB1⟩ := bytes_front .u64 HB8.out n hnn
                obtain ⟨A2, hs2, hB2⟩ := bytes_back .u64 HB8.out n hnn
                have HB1 := Lib.hid hB1
                have HB2 := Lib.hid hB2
                have HK8 := Lib.hid (hF8.heap HK6.out (fun h => h))
                have HX8 := Lib.hid (HX6.out.grow hF8)
                have HF8 := Lib.hid (HF6.out.trans' hF8)
                have HHB := Lib.hid hHB
                have hgb8 := lt_of_block HK8.out
                have hxl : xs.length ≤ 1000000000000000 := by have := HBL.out; omega
                clear hF8 hbad e1 hnn hpl hHB hB1 hB2 HB7 HK6 HX6 HF6
                obtain ⟨wd, hwd⟩ : ∃ wd : World, wd = wc := ⟨_, rfl⟩
                subst hwd
                go_upto_region 10 with fail
                have k0 := frees HK8.out
                have k2 : wd.cell? ⟨gb, 2, none⟩ = some (.slice none 0 0) := cell_at HK8.out
                have hcc : ∀ Wx, Frm (One gb) wd Wx → True := fun _ _ => trivial
                have HCE := Lib.hid hcc
                clear hcc
                refine wp_region_held_drew (S := (fun Wx => Frm (One gb) wd Wx)) (by kernel_rfl) ((Frm.refl _ _).drew) (fun hHeld => ?_)
                refine wpAnyH_take (i := 0) (v := ?_) rfl (by kernel_rfl) (by kernel_rfl) (by kernel_rfl) (fun _ _ _ h => h) (Or.inl ⟨by rfl, ?_⟩) (by assumption) ?_; rotate_left; · (intro wq hSq; have hq := HCE.out wq hSq; go_split_ands; go_simp; (try with_reducible rfl))
                try simp only [Act.put, getElem_toArray, getElem_cons_zero, getElem_cons_succ, setIfInBounds_toArray, set_cons_zero, set_cons_succ]
                refine wpAnyH_take (i := 1) (v := ?_) rfl (by kernel_rfl) (by kernel_rfl) (by kernel_rfl) (fun _ _ _ h => h) (Or.inl ⟨by rfl, ?_⟩) (by assumption) ?_; rotate_left; · (intro wq hSq; have hq := HCE.out wq hSq; go_split_ands; go_simp; (try with_reducible rfl))
                try simp only [Act.put, getElem_toArray, getElem_cons_zero, getElem_cons_succ, setIfInBounds_toArray, set_cons_zero, set_cons_succ]
                refine wpAnyH_take (i := 2) (v := ?_) rfl (by kernel_rfl) (by kernel_rfl) (by kernel_rfl) (fun _ _ _ h => h) (Or.inl ⟨by rfl, ?_⟩) (by assumption) ?_; rotate_left; · (intro wq hSq; have hq := HCE.out wq hSq; go_split_ands; go_simp; (try with_reducible rfl))
                try simp only [Act.put, getElem_toArray, getElem_cons_zero, getElem_cons_succ, setIfInBounds_toArray, set_cons_zero, set_cons_succ]
                refine wpAnyH_take (i := 3) (v := ?_) rfl (by kernel_rfl) (by kernel_rfl) (by kernel_rfl) (fun _ _ _ h => h) (Or.inl ⟨by rfl, ?_⟩) (by assumption) ?_; rotate_left; · (intro wq hSq; have hq := HCE.out wq hSq; go_split_ands; go_simp; (try with_reducible rfl))
                try simp only [Act.put, getElem_toArray, getElem_cons_zero, getElem_cons_succ, setIfInBounds_toArray, set_cons_zero, set_cons_succ]
                refine wpAnyH_take (i := 4) (v := ?_) rfl (by kernel_rfl) (by kernel_rfl) (by kernel_rfl) (fun _ _ _ h => h) (Or.inl ⟨by rfl, ?_⟩) (by assumption) ?_; rotate_left; · (intro wq hSq; have hq := HCE.out wq hSq; go_split_ands; go_simp; (try with_reducible rfl))
                try simp only [Act.put, getElem_toArray, getElem_cons_zero, getElem_cons_succ, setIfInBounds_toArray, set_cons_zero, set_cons_succ]
                refine wpAnyH_take (i := 5) (v := ?_) rfl (by kernel_rfl) (by kernel_rfl) (by kernel_rfl) (fun _ _ _ h => h) (Or.inl ⟨by rfl, ?_⟩) (by assumption) ?_; rotate_left; · (intro wq hSq; have hq := HCE.out wq hSq; go_split_ands; go_simp; (try with_reducible rfl))
                try simp only [Act.put, getElem_toArray, getElem_cons_zero, getElem_cons_succ, setIfInBounds_toArray, set_cons_zero, set_cons_succ]
                refine wpAnyH_take (i := 6) (v := ?_) rfl (by kernel_rfl) (by kernel_rfl) (by kernel_rfl) (fun _ _ _ h => h) (Or.inl ⟨by rfl, ?_⟩) (by assumption) ?_; rotate_left; · (intro wq hSq; have hq := HCE.out wq hSq; go_split_ands; go_simp; (try with_reducible rfl))
                try simp only [Act.put, getElem_toArray, getElem_cons_zero, getElem_cons_succ, setIfInBounds_toArray, set_cons_zero, set_cons_succ]
                refine wpAnyH_ready (rs := [7]) (by kernel_rfl) (by simp) ?_
                refine AllReadyH.cons rfl (fun K hK => ?_) AllReadyH.nil
                try simp only [getElem_toArray, getElem_cons_zero, getElem_cons_succ]
                go_simp
                refine hK.out _ _ (hHeld.set1 _) (fun hHeld => ?_)
                clear hK K
                try simp only [Act.put, setIfInBounds_toArray, set_cons_zero, set_cons_succ]
                refine wpAnyH_take (i := 8) (v := ?_) rfl (by kernel_rfl) (by kernel_rfl) (by kernel_rfl) (fun _ _ _ h => h) (Or.inl ⟨by rfl, ?_⟩) (by assumption) ?_; rotate_left; · (intro wq hSq; (try dsimp only at hSq); go_split_ands; go_simp; (try with_reducible rfl))
                try simp only [Act.put, getElem_toArray, getElem_cons_zero, getElem_cons_succ, setIfInBounds_toArray, set_cons_zero, set_cons_succ]
                refine wpAnyH_done (by kernel_rfl) ?_ _
                have hb9 : (wd.setCell ⟨gb, 2, none⟩ (.slice A1 n c7)).drew.heap[gb]? = some (.cells #[.int .u16 (headP rs).1, .int .u8 (headP rs).2.1, .slice A1 n c7] 114 (0, 0)) := heap_set_at HK8.out rfl
                have hF9 : Frm (fun _ => False) w (wd.setCell ⟨gb, 2, none⟩ (.slice A1 n c7)).drew := HF8.out.trans (T := One gb) (((Frm.refl _ _).set1 _).drew) (fun i hi e => by cases e; exact absurd hi (Nat.not_lt.2 hwg))
                have hrow9 : (wd.setCell ⟨gb, 2, none⟩ (.slice A1 n c7)).drew.ownsRow w.heap.size 114 3 (.slice Al xs.length cl) xs.length (cellsOf encIt xs) := Frm.row (S := One gb) (((Frm.refl _ _).set1 _).drew) HX8.out.1 (fun q hq e => by
                  have h9 := HXL.out q hq
                  cases e
                  exact absurd h9 (Nat.not_lt.2 hgb))
                generalize (wd.setCell ⟨gb, 2, none⟩ (.slice A1 n c7)).drew = ws at *
                have z0 : ws.cell? ⟨gb, 0, none⟩ = some (.int .u16 (headP rs).1) := cell_at hb9
                have z1 : ws.cell? ⟨gb, 1, none⟩ = some (.int .u8 (headP rs).2.1) := cell_at hb9
                have z2 : ws.cell? ⟨gb, 2, none⟩ = some (.slice A1 n c7) := cell_at hb9
                have hgbs := lt_of_block hb9
                have HROW9 := Lib.hid hrow9
                have HF9 := Lib.hid hF9
                have hs9 := hF9.size
                have hq1 : xs.length + 1 ≤ maxLen := by unfold maxLen; omega
                have hq2 : (xs.length + 1) * 32 ≤ 140737488355328 := by have := HLB.out; omega
                clear hb9 hF9 hrow9 k0 k2 hs1 hs2 hHeld
                go_wp2_with (at_builtin; refine wpl_app rfl el_part (.tmp 82) (.tmp 84) rfl (B := w.heap.size) (e2 := 114) (fr := (0, 0)) (m := 1) (arr := #[.int .u16 (headP rs).1, .int .u8 (headP rs).2.1, .slice A1 n c7]) rfl rfl (Frm.row (S := fun _ => False) (by (repeat' (first | (with_reducible exact Frm.refl _ _) | (with_reducible assumption) | (with_reducible refine Frm.alloc ?_ _) | (with_reducible refine Frm.drew ?_) | (with_reducible refine Frm.drewN ?_ _) | (with_reducible refine Frm.set1 ?_ _) | (with_reducible refine Frm.setCell ?_ ?_ _) | (exact fun h => absurd h (Nat.lt_irrefl _)) | (intro hlt; simp [World.size_alloc, One] at hlt ⊢; omega)))) HROW9.out (fun _ _ h => h)) (heap_new_at (by simp)) rfl (by simp [Value.oneCell']) (by decide) hq1 hq2 (by simp; omega) ?_; intro g5 cap5 w5 hown5 hfr5 hat5 hlt5)
                have hF5 : Frm (fun _ => False) w w5 := HF9.out.trans (Frm.trans (b := _) (by (repeat' (first | (with_reducible exact Frm.refl _ _) | (with_reducible assumption) | (with_reducible refine Frm.alloc ?_ _) | (with_reducible refine Frm.drew ?_) | (with_reducible refine Frm.drewN ?_ _) | (with_reducible refine Frm.set1 ?_ _) | (with_reducible refine Frm.setCell ?_ ?_ _) | (exact fun h => absurd h (Nat.lt_irrefl _)) | (intro hlt; simp [World.size_alloc, One] at hlt ⊢; omega)))) hfr5 (fun _ _ h => h)) (fun i hi hs => absurd hi (Nat.not_lt.2 (row_block HROW9.out hs).1))
                have HR5 := Lib.hid hown5
                have HF5 := Lib.hid hF5
                clear hown5 hfr5 hat5 hF5
                go_roundw
                case rel =>
                  have hbx : bare ((headP rs).1, (headP rs).2.1, Value.slice A1 n c7, r7.take n) = headP rs := HHB.out.symm
                  refine ⟨r7.drop n, xs ++ [((headP rs).1, (headP rs).2.1, .slice A1 n c7, r7.take n)], HB2.out, by rw [List.length_append]; exact HLN.out.1, ⟨?_, ?_⟩, ?_, ?_, ?_, HF5.out⟩
                  · rw [List.length_append]
                    unfold cellsOf at HR5 ⊢
                    rw [List.flatMap_append]
                    simpa [encIt] using HR5.out
                  · intro x hx
                    rcases List.mem_append.1 hx with hx | hx
                    · exact ⟨(HXW.out x hx).grow HF5.out, (HX8.out.2 x hx).2⟩
                    · simp only [List.mem_singleton] at hx
                      subst hx
                      exact ⟨HB1.out.grow HF5.out, by rw [hbx]; exact HRG.out⟩
                  · intro x hx
                    rcases List.mem_append.1 hx with hx | hx
                    · exact HXW.out x hx
                    · simp only [List.mem_singleton] at hx
                      subst hx
                      exact HB1.out
                  · rw [List.map_append, List.map_cons, List.map_nil, hbx, lastP_snoc, List.length_append]
                    have := HLB.out.1
                    simp
                    omega
                  · rw [List.map_append, List.map_cons, List.map_nil, hbx]
                    exact HNX.out
                case measure =>
                  have h8 := HLN.out
                  simp only []
                  omega
end Go.Proofs.Ytemjdmgfilbfaaa
