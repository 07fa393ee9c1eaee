/-
  An item read of bytes. dcf's Last: the items that are not written again, in memory of their own. A string of bytes. Plain: what bytes say, as items; and back. Rows of items; Decode's walk. That the law's own look at the living ('lives') is true.
-/
import Derived.Deep.RegionLaw
import Derived.Deep.DeepCutAuto
import Derived.Laws.BytesArg
import Derived.Test.YtemjdmgfilbfaaaGreatM40cba657
import Derived.Test.YtemjdmgfilbfaaaGreatM1cb9520b
set_option linter.unusedVariables false
set_option linter.unusedSimpArgs false
namespace Go.Proofs.YtemjdmgfilbfaaaGreat
open Go.RowKit
set_option linter.unusedVariables false

def CloneP (bs : List UInt8) (w : World) (e : Ending) (w' : World) : Prop := ∃ v, e = .returned v ∧ Own8 w.heap.size w' v bs ∧ Frm (fun _ => False) w w'

set_option maxRecDepth 100000 in
set_option maxHeartbeats 1000000 in
theorem clone_any (v : Value) (bs : List UInt8) (w : World) (h : BytesAt w v bs) (hl : bs.length ≤ 140737488351232) :
    Calls Tryz.prog 49 #[v] w (CloneP bs w) := by
  obtain ⟨A, cap, rfl, h1, h2, hn⟩ := h.open_
  have HN := Lib.hid hn
  have hm3 : bs.length ≤ maxLen := by unfold maxLen; omega
  have hm4 : bs.length * 1 ≤ 140737488355328 := by omega
  have HONEB := Lib.hid (oneB bs)
  have HLEN : Hid ((bs.map encB).length = bs.length * 1) := by unfold Hid; simp
  have HEMP := Lib.hid (empty_row w 5 1 w.heap.size (Nat.le_refl _))
  clear hn h
  cases A with
  | none =>
    have h0 : bs = [] := by
      cases bs with
      | nil => rfl
      | cons b r => obtain ⟨g, off, e, _⟩ := HN.out (by simp); cases e
    subst h0
    go_enter Tryz.func49, Tryz.ntmps49
    have hnil := Lib.run_eql_slice_nil (P := Tryz.prog) w 24 5 none 0 cap 0 0 Tryz.underlying24
    go_wp2_with fail
    go_ret
    exact ⟨_, rfl, World.ownsRow_nil _ _ _ _, Frm.refl _ _⟩
  | some a =>
    have hnil := Lib.run_eql_slice_nil (P := Tryz.prog) w 24 5 (some a) bs.length cap 0 0 Tryz.underlying24
    go_enter Tryz.func49, Tryz.ntmps49
    go_wp2_with (at_builtin; refine wpl_clone rfl el_u8 _ _ rfl rfl rfl (B := w.heap.size) (news := bs.map encB) (Frm.row (S := fun _ => False) (by (repeat' (first | (with_reducible exact Frm.refl _ _) | (with_reducible assumption) | (with_reducible refine Frm.alloc ?_ _) | (with_reducible refine Frm.drew ?_) | (with_reducible refine Frm.drewN ?_ _) | (with_reducible refine Frm.set1 ?_ _) | (with_reducible refine Frm.setCell ?_ ?_ _) | (exact fun h => absurd h (Nat.lt_irrefl _)) | (intro hlt; simp [World.size_alloc, One] at hlt ⊢; omega)))) HEMP.out (fun _ _ h => h)) HLEN.out (fun h0 => (HN.out h0).grow (by (repeat' (first | (with_reducible exact Frm.refl _ _) | (with_reducible assumption) | (with_reducible refine Frm.alloc ?_ _) | (with_reducible refine Frm.drew ?_) | (with_reducible refine Frm.drewN ?_ _) | (with_reducible refine Frm.set1 ?_ _) | (with_reducible refine Frm.setCell ?_ ?_ _) | (exact fun h => absurd h (Nat.lt_irrefl _)) | (intro hlt; simp [World.size_alloc, One] at hlt ⊢; omega))))) HONEB.out hm3 hm4 (by simp) ?_; intro A3 cap3 w3 hown3 hfr3)
    go_ret
    exact ⟨_, rfl, hown3, Frm.trans (b := _) (by (repeat' (first | (with_reducible exact Frm.refl _ _) | (with_reducible assumption) | (with_reducible refine Frm.alloc ?_ _) | (with_reducible refine Frm.drew ?_) | (with_reducible refine Frm.drewN ?_ _) | (with_reducible refine Frm.set1 ?_ _) | (with_reducible refine Frm.setCell ?_ ?_ _) | (exact fun h => absurd h (Nat.lt_irrefl _)) | (intro hlt; simp [World.size_alloc, One] at hlt ⊢; omega)))) hfr3 (fun i hi h => by cases h; exact absurd hi (Nat.lt_irrefl _))⟩

def ItemCut (w : World) (idx sub : Int) (p : Value) (wx : World) : Prop :=
  p = .pointer (some ⟨w.heap.size + 1, 0, none⟩) ∧ wx.heap[w.heap.size]? = some (.cells #[.int .u16 0, .int .u8 0, .slice none 0 0] 63 (0, 0)) ∧ wx.heap[w.heap.size + 1]? = some (.cells #[.int .u16 idx, .int .u8 sub, .slice none 0 0] 63 (0, 0)) ∧ Frm (fun _ => False) w wx

/-- Three results, the first a variable that lies in memory. -/
theorem ret_item {fn : Func} {p u v : Tmp} (h : fn.results = #[.cell p 63, .tmp u, .tmp v]) (tmps : Array Value) (w : World) (g : Nat) (x y z : Value)
    (hp : tmps.getD p undef = .pointer (some ⟨g, 0, none⟩)) (hg : w.heap[g]? = some (.cells #[x, y, z] 63 (0, 0))) :
    (results fn tmps).run Tryz.prog w = .ok (.tuple #[.agg #[x, y, z], tmps.getD u undef, tmps.getD v undef]) w := by
  have hp' : tmps[p]?.getD undef = .pointer (some ⟨g, 0, none⟩) := by simpa using hp
  simp [results, h, hp', asAddr, run_loadVar_row w g 63 63 #[x, y, z] (0, 0) _ hg Tryz.underlying63 rfl (by kernel_rfl)]

/-- What reading an item answers: its place, how long it is, the bytes behind its head. -/
def ItemPost (ob : Option Nat) (idx sub n : Int) (bs : List UInt8) (w : World) (e : Ending) (w' : World) : Prop :=
  Frm (fun _ => False) w w' ∧
    if 65536 < n then ∃ i s v, e = .returned (.tuple #[.agg #[.int .u16 i, .int .u8 s, .slice none 0 0], v, .int .i64 2]) else if (bs.length : Int) < n then ∃ i s v, e = .returned (.tuple #[.agg #[.int .u16 i, .int .u8 s, .slice none 0 0], v, .int .i64 3]) else
    ∃ vb vr, e = .returned (.tuple #[.agg #[.int .u16 idx, .int .u8 sub, vb], vr, .int .i64 0]) ∧ Own8 w.heap.size w' vb (bs.take n.toNat) ∧ BytesAt w' vr (bs.drop n.toNat) ∧ vr.ownBlock = ob

set_option maxRecDepth 100000 in
set_option maxHeartbeats 1000000 in
theorem item_long (v : Value) (bs : List UInt8) (w : World) (h : BytesAt w v bs) (h7 : 7 ≤ bs.length) (hl : bs.length ≤ 140737488351232) :
    Calls Tryz.prog 73 #[v] w (ItemPost v.ownBlock (numOf (bs.take 2)) (bs[2].toNat : Int) (numOf ((bs.drop 3).take 4)) (bs.drop 7) w) := by
  obtain ⟨A, cap, rfl, h1, h2, hc⟩ := bytes_cell h
  obtain ⟨g, off, rfl, hc2⟩ := hc (by omega)
  have hm : bs.length ≤ 9223372036854775807 := Nat.le_trans h1 h2
  have c0 : w.cell? ⟨g, off, none⟩ = some (.int .u8 (bs[0].toNat : Int)) := hc2 0 (by omega)
  have c1 : w.cell? ⟨g, off + 1, none⟩ = some (.int .u8 (bs[1].toNat : Int)) := hc2 1 (by omega)
  have c2 : w.cell? ⟨g, off + 2, none⟩ = some (.int .u8 (bs[2].toNat : Int)) := hc2 2 (by omega)
  have b0 := bs[0].toNat_lt
  have b1 := bs[1].toNat_lt
  have b2 := bs[2].toNat_lt
  have hg : g < w.heap.size := World.block_lt_of_cell? w _ c0
  have hg1 : g < w.heap.size + 1 := by omega
  have H := Lib.hid h
  clear h hc hc2
  unfold maxLen at h2
  go_enter Tryz.func73, Tryz.ntmps73
  go_upto_region 3 with fail
  have hidx : bits BinOp.or IntKind.u16 (IntKind.u16.wrap (bs[0].toNat : Int)) (IntKind.u16.wrap (IntKind.u16.wrap (bs[1].toNat : Int) * 256)) = numOf (bs.take 2) := by
    have e0 : IntKind.u16.wrap (bs[0].toNat : Int) = (bs[0].toNat : Int) := by rw [IntKind.wrap_u16]; omega
    have e1 : IntKind.u16.wrap (bs[1].toNat : Int) = (bs[1].toNat : Int) := by rw [IntKind.wrap_u16]; omega
    have e2 : IntKind.u16.wrap ((bs[1].toNat : Int) * 256) = (bs[1].toNat : Int) * 256 := by rw [IntKind.wrap_u16]; omega
    rw [e0, e1, e2, le16_sum _ _ b0 b1]
    clear e0 e1 e2
    clear c0 c1 c2 b0 b1 b2 H
    obtain ⟨x, y, r, rfl⟩ : ∃ x y r, bs = x :: y :: r := by
      match bs, h7 with
      | x :: y :: r, _ => exact ⟨x, y, r, rfl⟩
    simp [numOf]
  have hsub0 : (bs[2].toNat : Int) ≤ 255 := by omega
  have hk0 : (bs[0].toNat : Int) ≤ 255 := by omega
  have hk1 : (bs[1].toNat : Int) ≤ 255 := by omega
  have HIDX := Lib.hid hidx
  have l0n : 0 < bs.length := by omega
  have l0 : (0 : Int) < (bs.length : Int) := by omega
  have l1 : (1 : Int) < (bs.length : Int) := by omega
  have l2 : (2 : Int) < (bs.length : Int) := by omega
  clear hidx
  go_cut [5] (fun p wx => ItemCut w (numOf (bs.take 2)) (bs[2].toNat : Int) p wx)
  case first =>
    go_region_law (fail)
    all_goals
      go_wp2_with fail
      go_meet
      unfold ItemCut
      rw [HIDX.out]
      refine ⟨rfl, ?_, ?_, by (repeat' (first | (with_reducible exact Frm.refl _ _) | (with_reducible assumption) | (with_reducible refine Frm.alloc ?_ _) | (with_reducible refine Frm.drew ?_) | (with_reducible refine Frm.drewN ?_ _) | (with_reducible refine Frm.set1 ?_ _) | (with_reducible refine Frm.setCell ?_ ?_ _) | (exact fun h => absurd h (Nat.lt_irrefl _)) | (intro hlt; simp [World.size_alloc, One] at hlt ⊢; omega)))⟩
      · (apply heap_fin; (case h => (repeat (first | (with_reducible exact heap_new _ _) | (with_reducible apply heap_alloc_old) | (with_reducible apply heap_drewN') | (with_reducible apply heap_drew') | (with_reducible apply heap_set_same) | (with_reducible refine heap_set_other ?_ (by simp only []; omega)) | (with_reducible exact heap_new_at (by simp))))); (case e => rfl))
      · (apply heap_fin; (case h => (repeat (first | (with_reducible exact heap_new_at (by simp)) | (with_reducible apply heap_alloc_old) | (with_reducible apply heap_drewN') | (with_reducible apply heap_drew') | (with_reducible apply heap_set_same) | (with_reducible refine heap_set_other ?_ (by simp only []; omega)) | (with_reducible exact heap_new_at (by simp))))); (case e => rfl))
  case rest =>
    obtain ⟨rfl, ht2, ht5, hF⟩ := hcut
    have HB : Hid (BytesAt wc (.slice (some ⟨g, off, none⟩) bs.length cap) bs) := H.out.grow hF
    have h2sz := lt_of_block ht2
    have h5sz := lt_of_block ht5
    have hft2 := frees ht2
    have hft5 := frees ht5
    have HF := Lib.hid hF
    clear hF
    obtain ⟨wo, hwo⟩ : ∃ wo : World, wo = wc := ⟨_, rfl⟩
    subst hwo
    have hn0 := numOf_bound ((bs.drop 3).take 4)
    have hn4 : ((bs.drop 3).take 4).length = 4 := by simp; omega
    rw [hn4] at hn0
    obtain ⟨hn0, hn1⟩ := hn0
    have hn1 : numOf ((bs.drop 3).take 4) < 4294967296 := by simpa using hn1
    have HR := Lib.hid (read32_any _ (bs.drop 3) wo (HB.out.sub 3 (by omega)) (by simp; omega))
    obtain ⟨n, hn⟩ : ∃ n, n = numOf ((bs.drop 3).take 4) := ⟨_, rfl⟩
    rw [← hn] at hn0 hn1 HR
    have HNE := Lib.hid hn
    clear hn
    have hc7 : 7 ≤ cap := by omega
    have d0 : wo.cell? ⟨w.heap.size + 1, 0, none⟩ = some (.int .u16 (numOf (bs.take 2))) := cell_at ht5
    have d1 : wo.cell? ⟨w.heap.size + 1, 1, none⟩ = some (.int .u8 (bs[2].toNat : Int)) := cell_at ht5
    have d2 : wo.cell? ⟨w.heap.size + 1, 2, none⟩ = some (.slice none 0 0) := cell_at ht5
    have f0 : wo.cell? ⟨w.heap.size, 0, none⟩ = some (.int .u16 0) := cell_at ht2
    have f1 : wo.cell? ⟨w.heap.size, 1, none⟩ = some (.int .u8 0) := cell_at ht2
    have f2 : wo.cell? ⟨w.heap.size, 2, none⟩ = some (.slice none 0 0) := cell_at ht2
    have HT2 := Lib.hid ht2
    have HT5 := Lib.hid ht5
    clear ht2 ht5
    obtain ⟨idx, hix⟩ : ∃ n, n = numOf (bs.take 2) := ⟨_, rfl⟩
    obtain ⟨sub, hsb⟩ : ∃ n : Int, n = (bs[2].toNat : Int) := ⟨_, rfl⟩
    rw [← hix] at d0 HT5
    rw [← hsb] at d1 HT5
    have HIX := Lib.hid hix
    have HSB := Lib.hid hsb
    clear hix hsb
    go_upto_region 5 with (go_at_call 72; refine HR.out.mono ?_; rintro e w3 ⟨rfl, m, rfl⟩)
    go_cut [0] (fun v wx => ∃ o2 c2 N : Nat, N = bs.length - 7 ∧ v = .slice (some ⟨g, o2, none⟩) N c2 ∧ N ≤ c2 ∧ c2 ≤ 9223372036854775807 ∧ BytesAt wx v (bs.drop 7) ∧ wx = wo.drewN m)
    case first =>
      by_cases hcap : cap = 7
      · have hb7 : bs.length = 7 := by omega
        subst hcap
        have hd : bs.drop 7 = [] := List.drop_eq_nil_of_le (by omega)
        go_wp2_with fail
        go_meet
        rw [hd]
        exact ⟨off, 0, 0, by omega, rfl, by omega, by omega, ⟨_, 0, rfl, Nat.le_refl _, by unfold maxLen; omega, fun h => absurd h (by simp)⟩, rfl⟩
      · go_wp2_with fail
        go_meet
        exact ⟨_, _, _, rfl, rfl, by omega, by omega, (HB.out.sub 7 h7).grow (by (repeat' (first | (with_reducible exact Frm.refl _ _) | (with_reducible assumption) | (with_reducible refine Frm.alloc ?_ _) | (with_reducible refine Frm.drew ?_) | (with_reducible refine Frm.drewN ?_ _) | (with_reducible refine Frm.set1 ?_ _) | (with_reducible refine Frm.setCell ?_ ?_ _) | (exact fun h => absurd h (Nat.lt_irrefl _)) | (intro hlt; simp [World.size_alloc, One] at hlt ⊢; omega)))), rfl⟩
    case rest =>
      obtain ⟨o2, c2, N, hN, rfl, hcc2, hcc3, hB7, rfl⟩ := hcut
      have HB7 := Lib.hid hB7
      clear hB7
      have hlen7 : (bs.drop 7).length = N := by simp; omega
      have HL7 := Lib.hid hlen7
      have HNN := Lib.hid hN
      have hNl : N ≤ 140737488351232 := by omega
      clear hlen7 hN
      by_cases hbig : 65536 < n
      · go_wp2_with fail
        refine bodyPost_ret (ret_item rfl _ _ w.heap.size (.int .u16 idx) (.int .u8 sub) (.slice none 0 0) rfl (by (apply heap_fin; (case h => (repeat (first | (with_reducible exact HT2.out) | (with_reducible apply heap_alloc_old) | (with_reducible apply heap_drewN') | (with_reducible apply heap_drew') | (with_reducible apply heap_set_same) | (with_reducible refine heap_set_other ?_ (by simp only []; omega)) | (with_reducible exact heap_new_at (by simp))))); (case e => rfl)))) rfl ?_
        rw [← HNE.out]
        have hF := HF.out
        refine ⟨by ((repeat' (first | (with_reducible exact Frm.refl _ _) | (with_reducible assumption) | (with_reducible refine Frm.alloc ?_ _) | (with_reducible refine Frm.drew ?_) | (with_reducible refine Frm.drewN ?_ _) | (with_reducible refine Frm.set1 ?_ _) | (with_reducible refine Frm.setCell ?_ ?_ _) | (exact fun h => absurd h (Nat.lt_irrefl _)) | (intro hlt; simp [World.size_alloc, One] at hlt ⊢; omega)))) <;> exact fun h => absurd h (Nat.lt_irrefl _), ?_⟩
        rw [if_pos hbig]
        exact ⟨_, _, _, rfl⟩
      · have hnn : n ≤ 65536 := by omega
        by_cases hsh : (N : Int) < n
        · have hbn : (65536 : Int) < n → False := by omega
          clear hbig
          go_wp2_with fail
          refine bodyPost_ret (ret_item rfl _ _ w.heap.size (.int .u16 idx) (.int .u8 sub) (.slice none 0 0) rfl (by (apply heap_fin; (case h => (repeat (first | (with_reducible exact HT2.out) | (with_reducible apply heap_alloc_old) | (with_reducible apply heap_drewN') | (with_reducible apply heap_drew') | (with_reducible apply heap_set_same) | (with_reducible refine heap_set_other ?_ (by simp only []; omega)) | (with_reducible exact heap_new_at (by simp))))); (case e => rfl)))) rfl ?_
          rw [← HNE.out]
          have hF := HF.out
          refine ⟨by ((repeat' (first | (with_reducible exact Frm.refl _ _) | (with_reducible assumption) | (with_reducible refine Frm.alloc ?_ _) | (with_reducible refine Frm.drew ?_) | (with_reducible refine Frm.drewN ?_ _) | (with_reducible refine Frm.set1 ?_ _) | (with_reducible refine Frm.setCell ?_ ?_ _) | (exact fun h => absurd h (Nat.lt_irrefl _)) | (intro hlt; simp [World.size_alloc, One] at hlt ⊢; omega)))) <;> exact fun h => absurd h (Nat.lt_irrefl _), ?_⟩
          rw [if_neg (fun h => hbn h), if_pos (by rw [HL7.out]; omega)]
          exact ⟨_, _, _, rfl⟩
        · have hsh2 : n ≤ (N : Int) := by omega
          clear hsh hbig
          go_upto_region 10 with fail
          obtain ⟨k, hk⟩ : ∃ k : Nat, (k : Int) = n := ⟨n.toNat, by omega⟩
          subst hk
          have hs1 := slice_to (W := wo.drewN m) g o2 N c2 k (by omega)
          have hs2 := fun W => slice_from W g o2 N c2 k (by omega) (by omega)
          have HS2 := Lib.hid hs2
          clear hs2
          have hkl : ((bs.drop 7).take k).length = k := by rw [List.length_take, HL7.out]; omega
          have hcl : Calls Tryz.prog 49 #[.slice (some ⟨g, o2, none⟩) k c2] (wo.drewN m) fun e w' => ∃ A cap, e = .returned (.slice A k cap) ∧ Own8 w.heap.size w' (.slice A k cap) ((bs.drop 7).take k) ∧ Frm (fun _ => False) (wo.drewN m) w' :=
            (clone_any _ ((bs.drop 7).take k) _ (HB7.out.pre HL7.out k (by rw [HL7.out]; omega)) (by rw [hkl]; omega)).mono (by
              rintro e w' ⟨v, rfl, hO, hF⟩
              obtain ⟨A, cap, rfl, _⟩ := row_open hO
              have hO2 : Own8 w.heap.size w' (.slice A ((bs.drop 7).take k).length cap) ((bs.drop 7).take k) := row_base hO (HF.out.size)
              rw [show Value.slice A ((bs.drop 7).take k).length cap = .slice A k cap by rw [hkl]] at hO2 ⊢
              exact ⟨A, cap, rfl, hO2, hF⟩)
          have HKL := Lib.hid hkl
          have HCL := Lib.hid hcl
          have HKN : Hid (k ≤ N ∧ (k : Int) ≤ 65536) := ⟨by omega, hnn⟩
          clear hkl hcl
          go_wp2_with fail
          refine HCL.out.mono ?_
          rintro e w4 ⟨Ab, cb, rfl, hOwn, hF4⟩
          have hF4' : Frm (fun _ => False) wo w4 := Frm.trans' (by (repeat' (first | (with_reducible exact Frm.refl _ _) | (with_reducible assumption) | (with_reducible refine Frm.alloc ?_ _) | (with_reducible refine Frm.drew ?_) | (with_reducible refine Frm.drewN ?_ _) | (with_reducible refine Frm.set1 ?_ _) | (with_reducible refine Frm.setCell ?_ ?_ _) | (exact fun h => absurd h (Nat.lt_irrefl _)) | (intro hlt; simp [World.size_alloc, One] at hlt ⊢; omega)))) hF4
          have ht2 := hF4'.heap HT2.out (fun h => h)
          have ht5 := hF4'.heap HT5.out (fun h => h)
          have f0 : w4.cell? ⟨w.heap.size, 0, none⟩ = some (.int .u16 0) := cell_at ht2
          have f1 : w4.cell? ⟨w.heap.size, 1, none⟩ = some (.int .u8 0) := cell_at ht2
          have f2 : w4.cell? ⟨w.heap.size, 2, none⟩ = some (.slice none 0 0) := cell_at ht2
          have d0 : w4.cell? ⟨w.heap.size + 1, 0, none⟩ = some (.int .u16 idx) := cell_at ht5
          have d1 : w4.cell? ⟨w.heap.size + 1, 1, none⟩ = some (.int .u8 sub) := cell_at ht5
          have d2 : w4.cell? ⟨w.heap.size + 1, 2, none⟩ = some (.slice none 0 0) := cell_at ht5
          have hq2 := frees ht2
          have hq5 := frees ht5
          have hz2 := lt_of_block ht2
          have hz5 := lt_of_block ht5
          have HT2' := Lib.hid ht2
          have HT5' := Lib.hid ht5
          have HOWN := Lib.hid hOwn
          have HF4 := Lib.hid (HF.out.trans' hF4')
          have HB4 := Lib.hid (HB7.out.grow hF4)
          clear hs1 ht2 ht5 hOwn hF4 hF4'
          have hkn : ((k : Int) ≤ N) := hsh2
          clear hnn hsh2 hn0 hn1 hkn
          go_upto_region 11 with fail
          have hs2 := HS2.out
          go_region_law (fail)
          all_goals (go_wp2_with fail)
          all_goals
            refine bodyPost_ret (ret_item rfl _ _ w.heap.size (.int .u16 idx) (.int .u8 sub) (.slice Ab k cb) rfl (by (apply heap_fin; (case h => (repeat (first | (with_reducible exact HT2'.out) | (with_reducible apply heap_alloc_old) | (with_reducible apply heap_drewN') | (with_reducible apply heap_drew') | (with_reducible apply heap_set_same) | (with_reducible refine heap_set_other ?_ (by simp only []; omega)) | (with_reducible exact heap_new_at (by simp))))); (case e => rfl)))) rfl ?_
            rw [← HNE.out]
            have hF := HF4.out
            refine ⟨by ((repeat' (first | (with_reducible exact Frm.refl _ _) | (with_reducible assumption) | (with_reducible refine Frm.alloc ?_ _) | (with_reducible refine Frm.drew ?_) | (with_reducible refine Frm.drewN ?_ _) | (with_reducible refine Frm.set1 ?_ _) | (with_reducible refine Frm.setCell ?_ ?_ _) | (exact fun h => absurd h (Nat.lt_irrefl _)) | (intro hlt; simp [World.size_alloc, One] at hlt ⊢; omega)))) <;> exact fun h => absurd h (by simp only; omega), ?_⟩
            rw [if_neg (fun h => by have := HKN.out.2; omega), if_neg (fun h => by rw [HL7.out] at h; have := HKN.out.1; omega)]
            simp only [Int.toNat_natCast]
            have hfrom := HB4.out.from HL7.out k (by rw [HL7.out]; exact HKN.out.1)
            first | rw [if_pos (by assumption), show c2 - k = 0 by omega] at hfrom | rw [if_neg (by assumption)] at hfrom
            rw [← HIX.out, ← HSB.out]
            have hX := fun (W : World) (hF : Frm (fun j => j = w.heap.size ∨ j = w.heap.size + 1) w4 W) => Frm.row hF HOWN.out (fun j hj hs => by
              obtain ⟨_, cur, hc⟩ := row_block HOWN.out hj
              rcases hs with rfl | rfl
              · exact block_ne hc HT2'.out (by decide) rfl
              · exact block_ne hc HT5'.out (by decide) rfl)
            refine ⟨.slice Ab k cb, _, ?_, hX _ ?_, hfrom.frm (S := fun j => j = w.heap.size ∨ j = w.heap.size + 1) ?_ (fun j hj hs => ?_), rfl⟩
            · rfl
            · ((repeat' (first | (with_reducible exact Frm.refl _ _) | (with_reducible assumption) | (with_reducible refine Frm.alloc ?_ _) | (with_reducible refine Frm.drew ?_) | (with_reducible refine Frm.drewN ?_ _) | (with_reducible refine Frm.set1 ?_ _) | (with_reducible refine Frm.setCell ?_ ?_ _) | (exact fun h => absurd h (Nat.lt_irrefl _)) | (intro hlt; simp [World.size_alloc, One] at hlt ⊢; omega)))) <;> exact fun _ => by simp
            · ((repeat' (first | (with_reducible exact Frm.refl _ _) | (with_reducible assumption) | (with_reducible refine Frm.alloc ?_ _) | (with_reducible refine Frm.drew ?_) | (with_reducible refine Frm.drewN ?_ _) | (with_reducible refine Frm.set1 ?_ _) | (with_reducible refine Frm.setCell ?_ ?_ _) | (exact fun h => absurd h (Nat.lt_irrefl _)) | (intro hlt; simp [World.size_alloc, One] at hlt ⊢; omega)))) <;> exact fun _ => by simp
            · simp [Value.ownBlock] at hj
              omega

set_option maxRecDepth 100000 in
set_option maxHeartbeats 1000000 in
theorem item_short (v : Value) (bs : List UInt8) (w : World) (h : BytesAt w v bs) (h7 : bs.length < 7) :
    Calls Tryz.prog 73 #[v] w fun e w' => (∃ i s v, e = .returned (.tuple #[.agg #[.int .u16 i, .int .u8 s, .slice none 0 0], v, .int .i64 3])) ∧ Frm (fun _ => False) w w' := by
  obtain ⟨A, cap, rfl, h1, h2, hc⟩ := bytes_cell h
  clear hc h h1 h2
  go_enter Tryz.func73, Tryz.ntmps73
  go_wp2_with fail
  refine bodyPost_ret (ret_item rfl _ _ w.heap.size (.int .u16 0) (.int .u8 0) (.slice none 0 0) rfl (by (apply heap_fin; (case h => (repeat (first | (with_reducible exact heap_new _ _) | (with_reducible apply heap_alloc_old) | (with_reducible apply heap_drewN') | (with_reducible apply heap_drew') | (with_reducible apply heap_set_same) | (with_reducible refine heap_set_other ?_ (by simp only []; omega)) | (with_reducible exact heap_new_at (by simp))))); (case e => rfl)))) rfl ?_
  exact ⟨⟨_, _, _, rfl⟩, by ((repeat' (first | (with_reducible exact Frm.refl _ _) | (with_reducible assumption) | (with_reducible refine Frm.alloc ?_ _) | (with_reducible refine Frm.drew ?_) | (with_reducible refine Frm.drewN ?_ _) | (with_reducible refine Frm.set1 ?_ _) | (with_reducible refine Frm.setCell ?_ ?_ _) | (exact fun h => absurd h (Nat.lt_irrefl _)) | (intro hlt; simp [World.size_alloc, One] at hlt ⊢; omega)))) <;> exact fun h => absurd h (Nat.lt_irrefl _)⟩

end Go.Proofs.YtemjdmgfilbfaaaGreat
namespace Go.Proofs.YtemjdmgfilbfaaaGreat
open Go.RowKit
set_option linter.unusedVariables false
set_option linter.unusedSimpArgs false

set_option maxRecDepth 100000 in
set_option maxHeartbeats 2000000 in
theorem lastI_any (v : Value) (xs : List Itm) (B : Nat) (w : World) (h : ItemsRow B w v xs) (hr : ∀ x ∈ xs, Rng (bare x)) (hl : xs.length ≤ 4398046510976) (hb : ∀ x ∈ xs, x.2.2.2.length ≤ 140737488351232) :
    Calls Tryz.prog 23 #[v] w (OwnPost (lastR xs) w) := by
  have HI := Lib.hid h
  have HBL := Lib.hid hb
  have hrs : ∀ x ∈ xs, RngS x := fun x hx => by
    have h1 := hr x hx
    obtain ⟨A9, c9, e9, _, _, _⟩ := row_open (h.2 x hx)
    exact ⟨⟨h1.1, h1.2.1⟩, ⟨h1.2.2.1, h1.2.2.2⟩, _, _, _, e9⟩
  have HLS := Lib.hid (lasts_any v xs w (SlAt.of_row encIt_len h.1) hrs (by omega))
  obtain ⟨hL1, hL2⟩ := last_at xs
  have HL2 := Lib.hid hL2
  have hll := lastR_len xs
  obtain ⟨A, cap, rfl, _, _, q3⟩ := row_open h.1
  have HQ := Lib.hid q3
  unfold LastsP at HLS
  clear h hr hb hrs q3 hL2
  go_enter Tryz.func23, Tryz.ntmps23
  go_wp2_with (go_at_call 48; refine HLS.out.mono ?_; rintro e w6 ⟨v6, rfl, hr6, hF6⟩; have HR6 := Lib.hid hr6; have HF6 := Lib.hid hF6; obtain ⟨A6, c6, rfl, _, _, _⟩ := row_open hr6; clear hr6 hF6)
  go_loopw [3, 10] (fun bv i wr => ∃ (k : Nat) (ys : List Itm), k ≤ (lastB xs).length ∧ i = .int .i64 k ∧ ys.length = k ∧ ys.map bare = ((lastR xs).take k).map bare ∧ ItemsRow w6.heap.size wr bv ys ∧ Frm (fun _ => False) w6 wr) (fun _ i _ => (lastB xs).length - (intOf i).toNat)
  case atStart => exact ⟨0, [], Nat.zero_le _, rfl, rfl, by simp, ⟨World.ownsRow_nil _ _ _ _, fun x hx => by cases hx⟩, Frm.refl _ _⟩
  case round =>
    obtain ⟨k, ys, hk, rfl, hyl, hyb, hY, hF⟩ := hrel
    by_cases hlt : k < (lastB xs).length
    · have hlt2 : k < (lastR xs).length := by omega
      obtain ⟨j, hj, ej, ex⟩ := HL2.out k hlt hlt2
      have hFw := HF6.out.trans' hF
      obtain ⟨_, _, e6, _, _, p3⟩ := row_open HR6.out
      simp only [Value.slice.injEq] at e6
      obtain ⟨rfl, -, rfl⟩ := e6
      obtain ⟨g6, rfl, _, ⟨cu6, hcu6⟩, _, hcc6⟩ := p3 (by omega)
      have hi0 : wr.cell? ⟨g6, k, none⟩ = some (.int .i64 (j : Int)) := by
        refine hF.cell (p := ⟨g6, k, none⟩) ?_ (fun h => h)
        rw [hcc6 k (by omega), List.getElem?_map, List.getElem?_eq_getElem hlt, ej]
        rfl
      have hg6 := Nat.lt_of_lt_of_le (lt_of_block hcu6) hF.size
      obtain ⟨g, rfl, _, ⟨cu, hcu⟩, _, hcc⟩ := HQ.out (by omega)
      have hcell : ∀ o (ho : o < 3), wr.cell? ⟨g, j * 3 + o, none⟩ = some ((encIt xs[j])[o]'(by rw [encIt_len]; exact ho)) := fun o ho => by
        refine hFw.cell (p := ⟨g, j * 3 + o, none⟩) ?_ (fun h => h)
        rw [hcc _ (by omega), cellsOf_get encIt_len xs j o hj ho]
        exact List.getElem?_eq_getElem (by rw [encIt_len]; exact ho)
      have hgl := Nat.lt_of_lt_of_le (lt_of_block hcu) hFw.size
      have hbk := HBL.out _ (List.getElem_mem hj)
      have hOW := (BytesAt.of_row (HI.out.2 _ (List.getElem_mem hj))).grow hFw
      have hek : ((lastR xs).take (k + 1)) = (lastR xs).take k ++ [xs[j]] := by rw [List.take_succ_eq_append_getElem hlt2, ex]
      have HEK := Lib.hid hek
      have hjl : (j : Int) < (xs.length : Int) := by omega
      clear ej ex hek p3 hcc6 hcc hcu hcu6
      generalize xs[j] = x at *
      have HKL : Hid (k + 1 ≤ (lastB xs).length) := hlt
      obtain ⟨x0, x1, xv, xb⟩ := x
      simp only at hbk hOW
      obtain ⟨Ab, cb, rfl, _, _, _⟩ := hOW.open_
      have d0 := hcell 0 (by decide)
      have d1 := hcell 1 (by decide)
      have d2 := hcell 2 (by decide)
      simp only [encIt, List.getElem_cons_succ, List.getElem_cons_zero, Nat.add_zero] at d0 d1 d2
      obtain ⟨Al, cl, rfl, g3, g4, _⟩ := row_open hY.1
      have HY := Lib.hid hY
      have HYB := Lib.hid hyb
      have HYL := Lib.hid hyl
      have HROW := Lib.hid hY.1
      have HF := Lib.hid hF
      have HFW := Lib.hid hFw
      have hsz := hF.size
      have hm3 : ys.length + 1 ≤ maxLen := by unfold maxLen; omega
      have hm4 : (ys.length + 1) * 32 ≤ 140737488355328 := by omega
      have HCL := Lib.hid (fun W hW => clone_any (.slice Ab xb.length cb) xb W (hOW.grow hW) hbk)
      unfold CloneP at HCL
      clear hF hFw hY hyb hyl hOW hcell
      go_upto_region 7 with (go_at_call 49; refine (HCL.out _ ((Frm.refl _ _).alloc _)).mono ?_; rintro e w3 ⟨v3, rfl, hown3, hF3'⟩; obtain ⟨A3, cap3, rfl, _, _, _⟩ := row_open hown3; have hF3 : Frm (fun _ => False) wr w3 := Frm.trans' (b := _) ((Frm.refl _ _).alloc _) hF3'; have ht5 : w3.heap[wr.heap.size]? = some (.cells #[.int .u16 x0, .int .u8 x1, .slice Ab xb.length cb] 63 (0, 0)) := hF3'.heap (heap_new _ _) (fun h => h); have hft5 := frees ht5; have e0 := cell_at (o := 0) ht5; have e1 := cell_at (o := 1) ht5; have e2 := cell_at (o := 2) ht5)
      have HF3 := Lib.hid hF3
      have HO3 := Lib.hid hown3
      have hz3 := hF3.size
      have hlt5 := lt_of_block ht5
      have HT5 := Lib.hid ht5
      clear hF3 hF3' hown3 ht5
      go_wp2_with (at_builtin; go_loud (refine wpl_app rfl el_Item (.tmp 22) (.tmp 24) rfl (B := w6.heap.size) (e2 := 63) (fr := (0, 0)) (arr := #[.int .u16 x0, .int .u8 x1, .slice A3 xb.length cap3]) rfl rfl (Frm.row (S := fun _ => False) (w := wr) (by have hF3 := HF3.out; (repeat' (first | (with_reducible exact Frm.refl _ _) | (with_reducible assumption) | (with_reducible refine Frm.alloc ?_ _) | (with_reducible refine Frm.drew ?_) | (with_reducible refine Frm.drewN ?_ _) | (with_reducible refine Frm.set1 ?_ _) | (with_reducible refine Frm.setCell ?_ ?_ _) | (exact fun h => absurd h (Nat.lt_irrefl _)) | (intro hlt; simp [World.size_alloc, One] at hlt ⊢; omega)))) HROW.out (fun _ _ h => h)) (heap_new_at (by simp)) rfl (by simp [Value.oneCell']) (by decide) hm3 hm4 (by simp; omega) ?_; intro g5 cap5 w5 hown5 hfr5 hat5 hlt5))
      go_roundw
      case rel =>
        have hF3 := HF3.out
        have hno : ∀ q, q < w6.heap.size → (Value.slice Al ys.length cl).ownBlock = some q → False := fun q hq hs => by
          have := (row_block HROW.out hs).1
          omega
        have hF3x : Frm (fun j => j = wr.heap.size) w3 (w3.setCell ⟨wr.heap.size, 2, none⟩ (.slice A3 xb.length cap3)) := (Frm.refl (fun j => j = wr.heap.size) w3).setCell (p := ⟨wr.heap.size, 2, none⟩) (fun _ => rfl) _
        have hO3x := Frm.row hF3x HO3.out (fun j hj e => by
          obtain ⟨_, cur, hc⟩ := row_block HO3.out hj
          rw [e] at hc
          exact block_ne hc HT5.out (by decide) rfl)
        refine ⟨k + 1, ys ++ [(x0, x1, .slice A3 xb.length cap3, xb)], HKL.out, by go_num, by simp [HYL.out], ?_, ?_, ?_⟩
        · rw [HEK.out, List.map_append, List.map_append, HYB.out]; rfl
        · refine ItemsRow.push (w := w3.setCell ⟨wr.heap.size, 2, none⟩ (.slice A3 xb.length cap3)) (HY.out.grow (by (repeat' (first | (with_reducible exact Frm.refl _ _) | (with_reducible assumption) | (with_reducible refine Frm.alloc ?_ _) | (with_reducible refine Frm.drew ?_) | (with_reducible refine Frm.drewN ?_ _) | (with_reducible refine Frm.set1 ?_ _) | (with_reducible refine Frm.setCell ?_ ?_ _) | (exact fun h => absurd h (Nat.lt_irrefl _)) | (intro hlt; simp [World.size_alloc, One] at hlt ⊢; omega))))) _ (row_base hO3x (Nat.le_trans hsz (by simp))) (Frm.trans (b := _) (by (repeat' (first | (with_reducible exact Frm.refl _ _) | (with_reducible assumption) | (with_reducible refine Frm.alloc ?_ _) | (with_reducible refine Frm.drew ?_) | (with_reducible refine Frm.drewN ?_ _) | (with_reducible refine Frm.set1 ?_ _) | (with_reducible refine Frm.setCell ?_ ?_ _) | (exact fun h => absurd h (Nat.lt_irrefl _)) | (intro hlt; simp [World.size_alloc, One] at hlt ⊢; omega)))) hfr5 (fun _ _ h => h)) rfl hown5
        · exact (HF.out.trans' (by (repeat' (first | (with_reducible exact Frm.refl _ _) | (with_reducible assumption) | (with_reducible refine Frm.alloc ?_ _) | (with_reducible refine Frm.drew ?_) | (with_reducible refine Frm.drewN ?_ _) | (with_reducible refine Frm.set1 ?_ _) | (with_reducible refine Frm.setCell ?_ ?_ _) | (exact fun h => absurd h (Nat.lt_irrefl _)) | (intro hlt; simp [World.size_alloc, One] at hlt ⊢; omega))))).trans hfr5 (fun i hi hs => hno i hi hs)
      case measure => have := HKL.out; simp [intOf]; omega
    · go_wp2_with fail
      go_ret
      refine ⟨HF6.out.trans' hF, _, ys, rfl, ?_, row_base hY.1 HF6.out.size, fun x hx => row_base (hY.2 x hx) HF6.out.size⟩
      rw [hyb, List.take_of_length_le (by omega)]
end Go.Proofs.YtemjdmgfilbfaaaGreat
namespace Go.Proofs.YtemjdmgfilbfaaaGreat
open Go.RowKit
set_option linter.unusedVariables false

/-- The string of bytes. -/
def strB (bs : List UInt8) : ByteArray := strOfNums (bs.map fun b => (b.toNat : Int))
theorem conv_bytes {w : World} {v : Value} {bs : List UInt8} (h : BytesAt w v bs) : (convert 24 9 v).run Tryz.prog w = .ok (.string (strB bs)) w := by
  obtain ⟨A, cap, rfl, h1, h2, hc⟩ := bytes_cell h
  by_cases h0 : 0 < bs.length
  · obtain ⟨g, off, rfl, hc2⟩ := hc h0
    exact run_convert_bytes_arg (P := Tryz.prog) w 24 5 Tryz.underlying24 Tryz.underlying5 g off bs.length cap (bs.map fun b => (b.toNat : Int)) (by simp) (fun i hi => by
      rw [hc2 i hi]
      simp [List.getD_eq_getElem?_getD, hi]) 9 Tryz.underlying9
  · obtain rfl : bs = [] := List.eq_nil_of_length_eq_zero (by omega)
    cases A with
    | none => exact run_convert_bytes_nil (P := Tryz.prog) w 24 5 Tryz.underlying24 Tryz.underlying5 _ _ 9 Tryz.underlying9
    | some a =>
      rw [run_convert_bytes_string w 24 9 5 (some a) _ _ Tryz.underlying24 Tryz.underlying5 Tryz.underlying9]
      exact run_bytesToString w a 0 cap [] (by simp [loadCells, loadCellsFrom])
end Go.Proofs.YtemjdmgfilbfaaaGreat
namespace Go.Proofs.YtemjdmgfilbfaaaGreat
set_option linter.unusedVariables false

/-- n items of bytes, up to the first that is none: the items, what stands behind; or what is wrong. -/
def decN : Nat → List UInt8 → Except Int (List It × List UInt8)
  | 0, bs => .ok ([], bs)
  | n + 1, bs =>
    if bs.length < 7 then .error 3
    else if 65536 < numOf ((bs.drop 3).take 4) then .error 2
    else if ((bs.drop 7).length : Int) < numOf ((bs.drop 3).take 4) then .error 3
    else match decN n ((bs.drop 7).drop (numOf ((bs.drop 3).take 4)).toNat) with
      | .error e => .error e
      | .ok (l, r) => .ok ((numOf (bs.take 2), ((bs.getD 2 0).toNat : Int), (bs.drop 7).take (numOf ((bs.drop 3).take 4)).toNat) :: l, r)

def decOf (bs : List UInt8) : List It × Int :=
  if bs.length < 4 then ([], 3)
  else if 1024 < numOf (bs.take 4) then ([], 2)
  else match decN (numOf (bs.take 4)).toNat (bs.drop 4) with
    | .error e => ([], e)
    | .ok (l, r) => if 0 < r.length then ([], 8) else (l, 0)

theorem leOf_numOf (bs : List UInt8) : leOf (numOf bs) bs.length = bs := by
  induction bs with
  | nil => rfl
  | cons b r ih =>
    have hb := b.toNat_lt
    have h1 : numOf (b :: r) % 256 = (b.toNat : Int) := by simp only [numOf]; omega
    have h2 : numOf (b :: r) / 256 = numOf r := by simp only [numOf]; omega
    simp only [List.length_cons, leOf, h1, h2, ih, Int.toNat_natCast, UInt8.ofNat_toNat]

theorem numOf_nn (bs : List UInt8) : 0 ≤ numOf bs := by
  induction bs with
  | nil => simp [numOf]
  | cons b r ih => simp only [numOf]; omega

theorem decN_back (n : Nat) (bs : List UInt8) (l : List It) (r : List UInt8) (h : decN n bs = .ok (l, r)) : l.length = n ∧ bs = l.flatMap encIt8 ++ r ∧ ∀ x ∈ l, (x.2.2.length : Int) ≤ 65536 := by
  induction n generalizing bs l r with
  | zero => simp only [decN, Except.ok.injEq, Prod.mk.injEq] at h; obtain ⟨rfl, rfl⟩ := h; simp
  | succ n ih =>
    rw [decN] at h
    split at h
    · cases h
    · rename_i h7
      split at h
      · cases h
      · rename_i h6
        split at h
        · cases h
        · rename_i h5
          split at h
          · cases h
          · rename_i l2 r2 h4
            simp only [Except.ok.injEq, Prod.mk.injEq] at h
            obtain ⟨rfl, rfl⟩ := h
            obtain ⟨e1, e2, e3⟩ := ih _ _ _ h4
            clear ih h4
            obtain ⟨c0, c1, c2, c3, c4, c5, c6, r0, rfl⟩ : ∃ c0 c1 c2 c3 c4 c5 c6 r0, bs = c0 :: c1 :: c2 :: c3 :: c4 :: c5 :: c6 :: r0 := by
              match bs, h7 with
              | c0 :: c1 :: c2 :: c3 :: c4 :: c5 :: c6 :: r0, _ => exact ⟨_, _, _, _, _, _, _, _, rfl⟩
              | [], h | [_], h | [_, _], h | [_, _, _], h | [_, _, _, _], h | [_, _, _, _, _], h | [_, _, _, _, _, _], h => exact absurd (by simp) h
            simp only [List.drop_succ_cons, List.drop_zero, List.take_succ_cons, List.take_zero] at e2 h6 h5 ⊢
            have hn := numOf_nn [c3, c4, c5, c6]
            have hl1 := leOf_numOf [c0, c1]
            have hl2 := leOf_numOf [c3, c4, c5, c6]
            simp only [List.length_cons, List.length_nil] at hl1 hl2
            generalize numOf [c3, c4, c5, c6] = n0 at *
            obtain ⟨k, rfl⟩ := Int.eq_ofNat_of_zero_le hn
            simp only [Int.toNat_natCast] at e2 ⊢
            have hk : (r0.take k).length = k := by simp; omega
            refine ⟨by simp [e1], ?_, fun x hx => ?_⟩
            · rw [List.flatMap_cons, encIt8]
              simp only [hk, List.getD_cons_succ, List.getD_cons_zero, Int.toNat_natCast, UInt8.ofNat_toNat]
              rw [show leOf (numOf [c0, c1]) 2 = [c0, c1] from hl1, show leOf (k : Int) 4 = [c3, c4, c5, c6] from hl2]
              simp only [List.cons_append, List.nil_append, List.append_assoc]
              rw [← e2, List.take_append_drop]
            · rcases List.mem_cons.1 hx with rfl | hx
              · simp only [hk]; omega
              · exact e3 x hx

theorem decN_error (n : Nat) (bs : List UInt8) (e : Int) (h : decN n bs = .error e) : e = 2 ∨ e = 3 := by
  induction n generalizing bs with
  | zero => simp [decN] at h
  | succ n ih =>
    rw [decN] at h
    split at h
    · simp at h; omega
    · split at h
      · simp at h; omega
      · split at h
        · simp at h; omega
        · split at h
          · rename_i e2 h4
            simp at h
            subst h
            exact ih _ h4
          · simp at h

/-- What was read is written as it was. -/
theorem decOf_back (bs : List UInt8) (l : List It) (h : decOf bs = (l, 0)) : encOf l = bs ∧ (l.length : Int) ≤ 1024 ∧ ∀ x ∈ l, (x.2.2.length : Int) ≤ 65536 := by
  unfold decOf at h
  split at h
  · simp at h
  · rename_i h4
    split at h
    · simp at h
    · rename_i h1
      split at h
      · rename_i e he
        simp only [Prod.mk.injEq] at h
        rcases decN_error _ _ _ he with rfl | rfl <;> omega
      · rename_i l2 r he
        split at h
        · simp at h
        · rename_i hr
          simp only [Prod.mk.injEq, and_true] at h
          subst h
          obtain ⟨e1, e2, e3⟩ := decN_back _ _ _ _ he
          have hn := numOf_nn (bs.take 4)
          have hl := leOf_numOf (bs.take 4)
          rw [List.length_take, Nat.min_eq_left (by omega)] at hl
          have hrn : r = [] := List.eq_nil_of_length_eq_zero (by omega)
          subst hrn
          rw [List.append_nil] at e2
          refine ⟨?_, by omega, e3⟩
          unfold encOf
          rw [e1, ← e2, Int.toNat_of_nonneg hn, hl, List.take_append_drop]

end Go.Proofs.YtemjdmgfilbfaaaGreat
namespace Go.Proofs.YtemjdmgfilbfaaaGreat
open Go.RowKit
set_option linter.unusedVariables false

/-- What was read ahead, and what is read then. -/
def catD (l0 : List It) : Except Int (List It × List UInt8) → Except Int (List It × List UInt8)
  | .error e => .error e
  | .ok (l, r) => .ok (l0 ++ l, r)
def finD : Except Int (List It × List UInt8) → List It × Int
  | .error e => ([], e)
  | .ok (l, r) => if 0 < r.length then ([], 8) else (l, 0)
theorem catD_nil (x : Except Int (List It × List UInt8)) : catD [] x = x := by cases x <;> simp [catD]
theorem catD_catD (a b : List It) (x : Except Int (List It × List UInt8)) : catD a (catD b x) = catD (a ++ b) x := by cases x <;> simp [catD]
theorem decOf_short {bs : List UInt8} (h : bs.length < 4) : decOf bs = ([], 3) := by rw [decOf, if_pos h]
theorem decOf_big {bs : List UInt8} (h : 4 ≤ bs.length) (h2 : 1024 < numOf (bs.take 4)) : decOf bs = ([], 2) := by rw [decOf, if_neg (by omega), if_pos h2]
theorem decOf_run {bs : List UInt8} (h : 4 ≤ bs.length) (n : Nat) (hn : numOf (bs.take 4) = n) (h2 : n ≤ 1024) : decOf bs = finD (decN n (bs.drop 4)) := by
  rw [decOf, if_neg (by omega), if_neg (by omega), hn, Int.toNat_natCast]
  cases decN n (bs.drop 4) <;> rfl
theorem decN_short {m : Nat} {r : List UInt8} (h : r.length < 7) : decN (m + 1) r = .error 3 := by rw [decN, if_pos h]
theorem decN_big {m : Nat} {r : List UInt8} (h : 7 ≤ r.length) (h2 : 65536 < numOf ((r.drop 3).take 4)) : decN (m + 1) r = .error 2 := by rw [decN, if_neg (by omega), if_pos h2]
theorem decN_less {m : Nat} {r : List UInt8} (h : 7 ≤ r.length) (h2 : numOf ((r.drop 3).take 4) ≤ 65536) (h3 : ((r.drop 7).length : Int) < numOf ((r.drop 3).take 4)) : decN (m + 1) r = .error 3 := by rw [decN, if_neg (by omega), if_neg (by omega), if_pos h3]
theorem decN_more {m k : Nat} {r : List UInt8} (h : 7 ≤ r.length) (hk : numOf ((r.drop 3).take 4) = k) (h2 : k ≤ 65536) (h3 : k ≤ (r.drop 7).length) :
    decN (m + 1) r = catD [(numOf (r.take 2), ((r[2]'(by omega)).toNat : Int), (r.drop 7).take k)] (decN m ((r.drop 7).drop k)) := by
  rw [decN, if_neg (by omega), if_neg (by omega), if_neg (by omega), hk, Int.toNat_natCast]
  have hg : r.getD 2 0 = r[2]'(by omega) := by rw [List.getD_eq_getElem?_getD, List.getElem?_eq_getElem (by omega)]; rfl
  rw [hg]
  cases decN m ((r.drop 7).drop k) <;> rfl

def DecPost (bs : List UInt8) (w : World) (e : Ending) (w' : World) : Prop :=
  Frm (fun _ => False) w w' ∧ ∃ v xs code, e = .returned (.tuple #[v, .int .i64 code]) ∧ (xs.map bare, code) = decOf bs ∧ ItemsRow w.heap.size w' v xs

/-- What an item is read as, where it is whole. -/
theorem item_more (v : Value) (r : List UInt8) (k : Nat) (w : World) (h : BytesAt w v r) (h7 : 7 ≤ r.length) (hl : r.length ≤ 140737488351232) (hk : numOf ((r.drop 3).take 4) = k) (h2 : k ≤ 65536) (h3 : k ≤ (r.drop 7).length) :
    Calls Tryz.prog 73 #[v] w fun e w' => Frm (fun _ => False) w w' ∧ ∃ Ab cb Ar nr cr, e = .returned (.tuple #[.agg #[.int .u16 (numOf (r.take 2)), .int .u8 (r[2].toNat : Int), .slice Ab k cb], .slice Ar nr cr, .int .i64 0]) ∧
      Own8 w.heap.size w' (.slice Ab k cb) ((r.drop 7).take k) ∧ BytesAt w' (.slice Ar nr cr) ((r.drop 7).drop k) ∧ (Value.slice Ar nr cr).ownBlock = v.ownBlock := by
  refine (item_long v r w h h7 hl).mono ?_
  rintro e w' ⟨hF, hp⟩
  rw [hk, if_neg (by omega), if_neg (by omega)] at hp
  simp only [Int.toNat_natCast] at hp
  obtain ⟨vb, vr, rfl, hO, hB, hob⟩ := hp
  obtain ⟨Ab, cb, rfl, _⟩ := row_open hO
  obtain ⟨Ar, cr, rfl, _⟩ := bytes_cell hB
  have hkl : ((r.drop 7).take k).length = k := by rw [List.length_take]; omega
  rw [hkl] at hO ⊢
  exact ⟨hF, _, _, _, _, _, rfl, hO, hB, hob⟩
/-- What is wrong with the first item. -/
def itemBad (r : List UInt8) : Option Int := if r.length < 7 then some 3 else if 65536 < numOf ((r.drop 3).take 4) then some 2 else if ((r.drop 7).length : Int) < numOf ((r.drop 3).take 4) then some 3 else none
theorem decN_bad {m : Nat} {r : List UInt8} {d : Int} (h : itemBad r = some d) : decN (m + 1) r = .error d ∧ (d = 2 ∨ d = 3) := by
  unfold itemBad at h
  split at h
  · cases h; exact ⟨decN_short (by assumption), .inr rfl⟩
  · split at h
    · cases h; exact ⟨decN_big (by omega) (by assumption), .inl rfl⟩
    · split at h
      · cases h; exact ⟨decN_less (by omega) (by omega) (by assumption), .inr rfl⟩
      · cases h
theorem item_ok {r : List UInt8} (h : itemBad r = none) : 7 ≤ r.length ∧ ∃ k : Nat, numOf ((r.drop 3).take 4) = k ∧ k ≤ 65536 ∧ k ≤ (r.drop 7).length := by
  unfold itemBad at h
  have hn := numOf_nn ((r.drop 3).take 4)
  split at h
  · cases h
  · split at h
    · cases h
    · split at h
      · cases h
      · exact ⟨by omega, (numOf ((r.drop 3).take 4)).toNat, by omega, by omega, by omega⟩
theorem item_less (v : Value) (r : List UInt8) (w : World) (h : BytesAt w v r) (hl : r.length ≤ 140737488351232) (d : Int) (hd : itemBad r = some d) :
    Calls Tryz.prog 73 #[v] w fun e w' => Frm (fun _ => False) w w' ∧ ∃ i s v, e = .returned (.tuple #[.agg #[.int .u16 i, .int .u8 s, .slice none 0 0], v, .int .i64 d]) := by
  unfold itemBad at hd
  split at hd
  · cases hd
    exact (item_short v r w h (by assumption)).mono fun e w' hp => ⟨hp.2, hp.1⟩
  · refine (item_long v r w h (by omega) hl).mono ?_
    rintro e w' ⟨hF, hp⟩
    refine ⟨hF, ?_⟩
    split at hd
    · cases hd
      rw [if_pos (by assumption)] at hp
      exact hp
    · split at hd
      · cases hd
        rw [if_neg (by assumption), if_pos (by assumption)] at hp
        exact hp
      · cases hd

def FromCut (w : World) (m g : Nat) (bs : List UInt8) (v : Value) (wx : World) : Prop := BytesAt wx v bs ∧ v.ownBlock = some g ∧ wx = w.drewN m

set_option maxRecDepth 100000 in
set_option maxHeartbeats 2000000 in
theorem decode_any (v : Value) (bs : List UInt8) (w : World) (h : BytesAt w v bs) (hl : bs.length ≤ 140737488351232) :
    Calls Tryz.prog 46 #[v] w (DecPost bs w) := by
  by_cases h4 : bs.length < 4
  · have HD := Lib.hid (decOf_short h4)
    obtain ⟨A, cap, rfl, h1, h2, hc⟩ := bytes_cell h
    clear hc h h1 h2
    go_enter Tryz.func46, Tryz.ntmps46
    go_wp2_with fail
    go_ret2
    exact ⟨Frm.refl _ _, _, [], 3, rfl, HD.out.symm, .nil _ _⟩
  have h4' : 4 ≤ bs.length := by omega
  have hn0 := numOf_nn (bs.take 4)
  obtain ⟨n, hn⟩ : ∃ n : Nat, numOf (bs.take 4) = n := ⟨(numOf (bs.take 4)).toNat, by omega⟩
  have HR := Lib.hid (read32_any _ bs w h (by omega))
  rw [hn] at HR
  have H := Lib.hid h
  obtain ⟨A, cap, rfl, h1, h2, hc⟩ := bytes_cell h
  obtain ⟨g, off, rfl, hc2⟩ := hc (by omega)
  unfold maxLen at h2
  have hgs : g < w.heap.size := World.block_lt_of_cell? w _ (hc2 0 (by omega))
  clear hc hc2 h h4 hn0
  by_cases hbig : 1024 < n
  · have HD := Lib.hid (decOf_big h4' (by rw [hn]; omega))
    clear hn
    go_enter Tryz.func46, Tryz.ntmps46
    go_wp2_with (go_at_call 72; refine HR.out.mono ?_; rintro e w3 ⟨rfl, m, rfl⟩)
    go_ret2
    exact ⟨(Frm.refl _ _).drewN _, _, [], 2, rfl, HD.out.symm, .nil _ _⟩
  have HD := Lib.hid (decOf_run h4' n hn (by omega))
  have hn1 : n ≤ 1024 := by omega
  clear hn hbig
  go_enter Tryz.func46, Tryz.ntmps46
  go_upto_region 6 with (go_at_call 72; refine HR.out.mono ?_; rintro e w3 ⟨rfl, m, rfl⟩)
  go_cut [0] (fun v wx => FromCut w m g (bs.drop 4) v wx)
  case first =>
    by_cases hcap : cap = 4
    · have hb4 : bs.length = 4 := by omega
      subst hcap
      have hd : bs.drop 4 = [] := List.drop_eq_nil_of_le (by omega)
      go_wp2_with fail
      go_meet
      exact ⟨by rw [hd]; exact ⟨_, 0, rfl, Nat.le_refl _, by unfold maxLen; omega, fun h => absurd h (by simp)⟩, rfl, rfl⟩
    · go_wp2_with fail
      go_meet
      exact ⟨(H.out.sub 4 h4').grow (by (repeat' (first | (with_reducible exact Frm.refl _ _) | (with_reducible assumption) | (with_reducible refine Frm.alloc ?_ _) | (with_reducible refine Frm.drew ?_) | (with_reducible refine Frm.drewN ?_ _) | (with_reducible refine Frm.set1 ?_ _) | (with_reducible refine Frm.setCell ?_ ?_ _) | (exact fun h => absurd h (Nat.lt_irrefl _)) | (intro hlt; simp [World.size_alloc, One] at hlt ⊢; omega)))), rfl, rfl⟩
  case rest =>
    obtain ⟨hB, hob, rfl⟩ := hcut
    have HOB := Lib.hid hob
    clear hob
    have HB := Lib.hid hB
    clear hB
    have hlen4 : Hid ((bs.drop 4).length ≤ 140737488351232) := by unfold Hid; rw [List.length_drop]; omega
    go_wp2_with fail
    go_loopw [0, 5, 19] (fun rv lv i wr => ∃ (k : Nat) (xs : List Itm) (rest : List UInt8), k ≤ n ∧ i = .int .u64 k ∧ xs.length = k ∧ BytesAt wr rv rest ∧ rv.ownBlock = some g ∧ rest.length ≤ 140737488351232 ∧ ItemsRow w.heap.size wr lv xs ∧ Frm (fun _ => False) w wr ∧
      decN n (bs.drop 4) = catD (xs.map bare) (decN (n - k) rest)) (fun _ _ i _ => n - (intOf i).toNat)
    case atStart => exact ⟨0, [], _, Nat.zero_le _, rfl, rfl, HB.out, HOB.out, hlen4.out, .nil _ _, by (repeat' (first | (with_reducible exact Frm.refl _ _) | (with_reducible assumption) | (with_reducible refine Frm.alloc ?_ _) | (with_reducible refine Frm.drew ?_) | (with_reducible refine Frm.drewN ?_ _) | (with_reducible refine Frm.set1 ?_ _) | (with_reducible refine Frm.setCell ?_ ?_ _) | (exact fun h => absurd h (Nat.lt_irrefl _)) | (intro hlt; simp [World.size_alloc, One] at hlt ⊢; omega))), (catD_nil _).symm⟩
    case round =>
      obtain ⟨k, xs, rest, hk, rfl, hxl, hBr, hob, hrl, hX, hF, hdec⟩ := hrel
      obtain ⟨Ar, cr, rfl, g1, g2, _⟩ := bytes_cell hBr
      obtain ⟨Al, cl, rfl, g3, g4, _⟩ := row_open hX.1
      have HBR := Lib.hid hBr
      have HOB := Lib.hid hob
      have HX := Lib.hid hX
      have HF := Lib.hid hF
      have HDEC := Lib.hid hdec
      have HXL := Lib.hid hxl
      have hsz := hF.size
      clear hBr hob hX hF hdec hxl
      by_cases hlt : k < n
      · obtain ⟨j, hj⟩ : ∃ j, n - k = j + 1 := ⟨n - k - 1, by omega⟩
        rw [hj] at HDEC
        cases hbad : itemBad rest with
        | some d =>
          obtain ⟨hd1, hd2⟩ := decN_bad (m := j) hbad
          have HFIN : Hid (([], d) = decOf bs) := by unfold Hid; rw [HD.out, HDEC.out, hd1]; rfl
          have HI := Lib.hid (item_less _ rest wr HBR.out hrl d hbad)
          have hne : (d != 0) = true := by rcases hd2 with rfl | rfl <;> rfl
          clear hd1 hd2 hbad hj
          go_wp2_with (go_at_call 73; refine HI.out.mono ?_; rintro e w4 ⟨hF4, i0, s0, v0, rfl⟩)
          go_ret2
          exact ⟨(HF.out.trans' hF4).trans' (by (repeat' (first | (with_reducible exact Frm.refl _ _) | (with_reducible assumption) | (with_reducible refine Frm.alloc ?_ _) | (with_reducible refine Frm.drew ?_) | (with_reducible refine Frm.drewN ?_ _) | (with_reducible refine Frm.set1 ?_ _) | (with_reducible refine Frm.setCell ?_ ?_ _) | (exact fun h => absurd h (Nat.lt_irrefl _)) | (intro hlt; simp [World.size_alloc, One] at hlt ⊢; omega)))), _, [], d, rfl, HFIN.out, .nil _ _⟩
        | none =>
          obtain ⟨h7, kk, hkk, hk2, hk3⟩ := item_ok hbad
          have HM := Lib.hid (decN_more (m := j) h7 hkk hk2 hk3)
          have HI := Lib.hid (item_more _ rest kk wr HBR.out h7 hrl hkk hk2 hk3)
          have HJ := Lib.hid hj
          have HK3 := Lib.hid hk3
          have hm5 : xs.length + 1 ≤ maxLen := by rw [HXL.out]; unfold maxLen; omega
          have hm6 : (xs.length + 1) * 32 ≤ 140737488355328 := by rw [HXL.out]; omega
          obtain ⟨idx, hidx⟩ : ∃ i, numOf (rest.take 2) = i := ⟨_, rfl⟩
          obtain ⟨sub, hsub⟩ : ∃ i : Int, (rest[2].toNat : Int) = i := ⟨_, rfl⟩
          rw [hidx, hsub] at HM HI
          have HXR := Lib.hid HX.out.1
          clear hkk hbad hj hidx hsub hk3
          go_wp2_with (first | (go_at_call 73; refine HI.out.mono ?_; rintro e w4 ⟨hF4, Ab, cb, Ar4, nr4, cr4, rfl, hO4, hB4, hob4⟩; have HF4 := Lib.hid hF4; have HO4 := Lib.hid hO4; have HB4 := Lib.hid hB4; have HOB4 := Lib.hid hob4; have hsz4 := hF4.size; clear hF4 hO4 hB4 hob4) | (at_builtin; refine wpl_app rfl el_Item (.tmp 30) (.tmp 32) rfl (B := w.heap.size) (e2 := 63) (fr := (0, 0)) (arr := #[.int .u16 idx, .int .u8 sub, .slice Ab kk cb]) rfl rfl (Frm.row (S := fun _ => False) (w := w4) (by (repeat' (first | (with_reducible exact Frm.refl _ _) | (with_reducible assumption) | (with_reducible refine Frm.alloc ?_ _) | (with_reducible refine Frm.drew ?_) | (with_reducible refine Frm.drewN ?_ _) | (with_reducible refine Frm.set1 ?_ _) | (with_reducible refine Frm.setCell ?_ ?_ _) | (exact fun h => absurd h (Nat.lt_irrefl _)) | (intro hlt; simp [World.size_alloc, One] at hlt ⊢; omega)))) (HF4.out.row HXR.out (fun _ _ h => h)) (fun _ _ h => h)) (heap_new_at (by simp)) rfl (by simp [Value.oneCell']) (by decide) hm5 hm6 (by simp; omega) ?_; intro g5 cap5 w5 hown5 hfr5 hat5 hlt5))
          go_roundw
          case rel =>
            have hF5 : Frm (fun j => (Value.slice Al xs.length cl).ownBlock = some j) w4 w5 := Frm.trans (b := _) (by (repeat' (first | (with_reducible exact Frm.refl _ _) | (with_reducible assumption) | (with_reducible refine Frm.alloc ?_ _) | (with_reducible refine Frm.drew ?_) | (with_reducible refine Frm.drewN ?_ _) | (with_reducible refine Frm.set1 ?_ _) | (with_reducible refine Frm.setCell ?_ ?_ _) | (exact fun h => absurd h (Nat.lt_irrefl _)) | (intro hlt; simp [World.size_alloc, One] at hlt ⊢; omega)))) hfr5 (fun _ _ h => h)
            have hno : ∀ q, q < w.heap.size → ¬ (Value.slice Al xs.length cl).ownBlock = some q := fun q hq hs => by
              have := (row_block HXR.out hs).1
              omega
            refine ⟨k + 1, xs ++ [(idx, sub, .slice Ab kk cb, (rest.drop 7).take kk)], (rest.drop 7).drop kk, by omega, by go_num, by simp [HXL.out], ?_, ?_, ?_, ?_, ?_, ?_⟩
            · exact HB4.out.frm hF5 (fun q hq hs => by
                rw [HOB4.out, HOB.out] at hq
                cases hq
                exact hno g hgs hs)
            · rw [HOB4.out, HOB.out]
            · simp only [List.length_drop]; omega
            · exact (HX.out.grow HF4.out).push (idx, sub, .slice Ab kk cb, (rest.drop 7).take kk) (row_base HO4.out hsz) hF5 rfl hown5
            · exact (HF.out.trans' HF4.out).trans hF5 (fun i hi hs => hno i hi hs)
            · have hnj := HJ.out
              rw [HDEC.out, HM.out, catD_catD, List.map_append, show n - (k + 1) = j by omega]
              rfl
          case measure => simp [intOf]; omega
      · obtain rfl : k = n := by omega
        by_cases hr0 : 0 < rest.length
        · have HFIN : Hid (([], 8) = decOf bs) := by unfold Hid; rw [HD.out, HDEC.out, Nat.sub_self, decN, catD, finD, if_pos hr0]
          go_wp2_with fail
          go_ret2
          exact ⟨HF.out, _, [], 8, rfl, HFIN.out, .nil _ _⟩
        · have HFIN : Hid ((xs.map bare, 0) = decOf bs) := by unfold Hid; rw [HD.out, HDEC.out, Nat.sub_self, decN, catD, finD, if_neg hr0, List.append_nil]
          have hr1 : rest.length ≤ 0 := by omega
          clear hr0
          go_wp2_with fail
          go_ret2
          exact ⟨HF.out, _, xs, 0, rfl, HFIN.out, HX.out⟩
end Go.Proofs.YtemjdmgfilbfaaaGreat
namespace Go.Proofs.YtemjdmgfilbfaaaGreat
open Go.RowKit
set_option linter.unusedVariables false

theorem enc_one : encOf [((4119 : Int), (0 : Int), [(232 : UInt8), 3])] = [1, 0, 0, 0, 23, 16, 0, 2, 0, 0, 0, 232, 3] := by decide
theorem dec_one : decOf [1, 0, 0, 0, 23, 16, 0, 2, 0, 0, 0, 232, 3] = ([((4119 : Int), (0 : Int), [(232 : UInt8), 3])], 0) := by decide

def LivesD (w : World) (e : Ending) (w' : World) : Prop := e = .returned (.bool true) ∧ Frm (fun _ => False) w w'

theorem one_item (w : World) (a b : Nat) (ha : w.heap[a]? = some (.cells #[.int .u8 232, .int .u8 3] 5 (0, 0))) (hb : w.heap[b]? = some (.cells #[.int .u16 4119, .int .u8 0, .slice (some ⟨a, 0, none⟩) 2 2] 63 (0, 0))) :
    ItemsAt w (.slice (some ⟨b, 0, none⟩) 1 1) [(4119, 0, .slice (some ⟨a, 0, none⟩) 2 2, [232, 3])] := by
  refine ⟨⟨_, 1, rfl, Nat.le_refl _, by decide, fun _ => ⟨b, 0, rfl, lt_of_block hb, fun i hi j hj => ?_⟩⟩, fun x hx => ?_⟩
  · obtain rfl : i = 0 := by simp at hi; omega
    rw [cell_at hb]
    simp [encIt]
  · simp at hx
    subst hx
    refine ⟨_, 2, rfl, Nat.le_refl _, by decide, fun _ => ⟨a, 0, rfl, fun i hi => ?_⟩⟩
    rw [cell_at ha]
    match i, hi with
    | 0, _ => rfl
    | 1, _ => rfl
    | n + 2, h => simp at h; omega

set_option maxRecDepth 100000 in
set_option maxHeartbeats 1000000 in
theorem livesD_any (w : World) : Calls Tryz.prog 19 #[] w (LivesD w) := by
  go_enter Tryz.func19, Tryz.ntmps19
  go_wp2_with fail
  refine (encode_any _ [(4119, 0, .slice (some ⟨w.heap.size, 0, none⟩) 2 2, [232, 3])] _ (one_item _ w.heap.size (w.heap.size + 1) (heap_alloc_old (heap_new _ _)) (heap_new_at (by simp))) (by simp) (by simp) (by simp [Rng, bare])).mono ?_
  rintro e w1 ⟨hF1, v1, rfl, hO1⟩
  have hb : encOf (List.map bare [(4119, 0, Value.slice (some ⟨w.heap.size, 0, none⟩) 2 2, [232, 3])]) = [1, 0, 0, 0, 23, 16, 0, 2, 0, 0, 0, 232, 3] := enc_one
  rw [hb] at hO1
  have hB1 : BytesAt w1 v1 [1, 0, 0, 0, 23, 16, 0, 2, 0, 0, 0, 232, 3] := BytesAt.of_row hO1
  have hF1 : Frm (fun _ => False) w w1 := Frm.trans' (by (repeat' (first | (with_reducible exact Frm.refl _ _) | (with_reducible assumption) | (with_reducible refine Frm.alloc ?_ _) | (with_reducible refine Frm.drew ?_) | (with_reducible refine Frm.drewN ?_ _) | (with_reducible refine Frm.set1 ?_ _) | (with_reducible refine Frm.setCell ?_ ?_ _) | (exact fun h => absurd h (Nat.lt_irrefl _)) | (intro hlt; simp [World.size_alloc, One] at hlt ⊢; omega)))) hF1
  have HB1 := Lib.hid hB1
  have HF1 := Lib.hid hF1
  clear hb hO1 hB1 hF1
  go_wp2_with fail
  refine (decode_any v1 _ w1 HB1.out (by decide)).mono ?_
  rintro e w2 ⟨hF2, v2, xs, code, rfl, hx, hR⟩
  rw [dec_one] at hx
  simp only [Prod.mk.injEq] at hx
  obtain ⟨hx, rfl⟩ := hx
  obtain ⟨x, rfl⟩ : ∃ x, xs = [x] := by
    refine List.length_eq_one_iff.1 ?_
    have := congrArg List.length hx
    simpa using this
  obtain ⟨A2, c2, rfl, _, ho⟩ := hR.at_.open_
  obtain ⟨g2, o2, Ab, cb, rfl, _, _, d0, _, _⟩ := ho 0 (by simp)
  simp only [List.getElem_cons_zero, List.length_singleton, Nat.zero_mul, Nat.add_zero] at d0
  have hx0 : x.1 = 4119 := by simpa [bare] using congrArg (fun l => (l.map (·.1)).headD 0) hx
  rw [hx0] at d0
  have hcv := conv_bytes (HB1.out.grow hF2)
  have HF2 := Lib.hid hF2
  clear hx hR ho hx0 hF2
  simp only [List.length_singleton]
  have hs : ((strB [1, 0, 0, 0, 23, 16, 0, 2, 0, 0, 0, 232, 3]).toList == [1, 0, 0, 0, 23, 16, 0, 2, 0, 0, 0, 232, 3]) = true := by decide +kernel
  go_wp2_with fail
  go_ret
  exact ⟨rfl, HF1.out.trans' HF2.out⟩
end Go.Proofs.YtemjdmgfilbfaaaGreat
