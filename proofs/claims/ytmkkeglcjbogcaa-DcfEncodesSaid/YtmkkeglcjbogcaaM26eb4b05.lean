/-
  An item read of bytes. dcf's Last: the items that are not written again, in memory of their own. The document's Again: whether an item is written again by a later one.
-/
import Derived.Deep.RegionLaw
import Derived.Deep.DeepCutAuto
import Derived.Test.YtmkkeglcjbogcaaMd99ed25a
import Derived.Test.YtmkkeglcjbogcaaM11076ade
set_option linter.unusedVariables false
set_option linter.unusedSimpArgs false
namespace Go.Proofs.Ytmkkeglcjbogcaa
open Go.RowKit
set_option linter.unusedVariables false

def CloneP (bs : List UInt8) (w : World) (e : Ending) (w' : World) : Prop := ∃ v, e = .returned v ∧ Own8 w.heap.size w' v bs ∧ Frm (fun _ => False) w w'

set_option maxRecDepth 100000 in
set_option maxHeartbeats 1000000 in
theorem clone_any (v : Value) (bs : List UInt8) (w : World) (h : BytesAt w v bs) (hl : bs.length ≤ 140737488351232) :
    Calls Try.prog 65 #[v] w (CloneP bs w) := by
  obtain ⟨A, cap, rfl, h1, h2, hn⟩ := h.open_
  have HN := Lib.hid hn
  have hm3 : bs.length ≤ maxLen := by unfold maxLen; omega
  have hm4 : bs.length * 1 ≤ 140737488355328 := by omega
  have HONEB := Lib.hid (oneB bs)
  have HLEN : Hid ((bs.map encB).length = bs.length * 1) := by unfold Hid; simp
  have HEMP := Lib.hid (empty_row w 5 1 w.heap.size (Nat.le_refl _))
  clear hn h
  cases A with
  | none =>
    have h0 : bs = [] := by
      cases bs with
      | nil => rfl
      | cons b r => obtain ⟨g, off, e, _⟩ := HN.out (by simp); cases e
    subst h0
    go_enter Try.func65, Try.ntmps65
    have hnil := Lib.run_eql_slice_nil (P := Try.prog) w 22 5 none 0 cap 0 0 Try.underlying22
    go_wp2_with fail
    go_ret
    exact ⟨_, rfl, World.ownsRow_nil _ _ _ _, Frm.refl _ _⟩
  | some a =>
    have hnil := Lib.run_eql_slice_nil (P := Try.prog) w 22 5 (some a) bs.length cap 0 0 Try.underlying22
    go_enter Try.func65, Try.ntmps65
    go_wp2_with (at_builtin; refine wpl_clone rfl el_u8 _ _ rfl rfl rfl (B := w.heap.size) (news := bs.map encB) (Frm.row (S := fun _ => False) (by (repeat' (first | (with_reducible exact Frm.refl _ _) | (with_reducible assumption) | (with_reducible refine Frm.alloc ?_ _) | (with_reducible refine Frm.drew ?_) | (with_reducible refine Frm.drewN ?_ _) | (with_reducible refine Frm.set1 ?_ _) | (with_reducible refine Frm.setCell ?_ ?_ _) | (exact fun h => absurd h (Nat.lt_irrefl _)) | (intro hlt; simp [World.size_alloc, One] at hlt ⊢; omega)))) HEMP.out (fun _ _ h => h)) HLEN.out (fun h0 => (HN.out h0).grow (by (repeat' (first | (with_reducible exact Frm.refl _ _) | (with_reducible assumption) | (with_reducible refine Frm.alloc ?_ _) | (with_reducible refine Frm.drew ?_) | (with_reducible refine Frm.drewN ?_ _) | (with_reducible refine Frm.set1 ?_ _) | (with_reducible refine Frm.setCell ?_ ?_ _) | (exact fun h => absurd h (Nat.lt_irrefl _)) | (intro hlt; simp [World.size_alloc, One] at hlt ⊢; omega))))) HONEB.out hm3 hm4 (by simp) ?_; intro A3 cap3 w3 hown3 hfr3)
    go_ret
    exact ⟨_, rfl, hown3, Frm.trans (b := _) (by (repeat' (first | (with_reducible exact Frm.refl _ _) | (with_reducible assumption) | (with_reducible refine Frm.alloc ?_ _) | (with_reducible refine Frm.drew ?_) | (with_reducible refine Frm.drewN ?_ _) | (with_reducible refine Frm.set1 ?_ _) | (with_reducible refine Frm.setCell ?_ ?_ _) | (exact fun h => absurd h (Nat.lt_irrefl _)) | (intro hlt; simp [World.size_alloc, One] at hlt ⊢; omega)))) hfr3 (fun i hi h => by cases h; exact absurd hi (Nat.lt_irrefl _))⟩

def ItemCut (w : World) (idx sub : Int) (p : Value) (wx : World) : Prop :=
  p = .pointer (some ⟨w.heap.size + 1, 0, none⟩) ∧ wx.heap[w.heap.size]? = some (.cells #[.int .u16 0, .int .u8 0, .slice none 0 0] 121 (0, 0)) ∧ wx.heap[w.heap.size + 1]? = some (.cells #[.int .u16 idx, .int .u8 sub, .slice none 0 0] 121 (0, 0)) ∧ Frm (fun _ => False) w wx

/-- Three results, the first a variable that lies in memory. -/
theorem ret_item {fn : Func} {p u v : Tmp} (h : fn.results = #[.cell p 121, .tmp u, .tmp v]) (tmps : Array Value) (w : World) (g : Nat) (x y z : Value)
    (hp : tmps.getD p undef = .pointer (some ⟨g, 0, none⟩)) (hg : w.heap[g]? = some (.cells #[x, y, z] 121 (0, 0))) :
    (results fn tmps).run Try.prog w = .ok (.tuple #[.agg #[x, y, z], tmps.getD u undef, tmps.getD v undef]) w := by
  have hp' : tmps[p]?.getD undef = .pointer (some ⟨g, 0, none⟩) := by simpa using hp
  simp [results, h, hp', asAddr, run_loadVar_row w g 121 121 #[x, y, z] (0, 0) _ hg Try.underlying121 rfl (by kernel_rfl)]

/-- What reading an item answers: its place, how long it is, the bytes behind its head. -/
def ItemPost (ob : Option Nat) (idx sub n : Int) (bs : List UInt8) (w : World) (e : Ending) (w' : World) : Prop :=
  Frm (fun _ => False) w w' ∧
    if 65536 < n then ∃ i s v, e = .returned (.tuple #[.agg #[.int .u16 i, .int .u8 s, .slice none 0 0], v, .int .i64 2]) else if (bs.length : Int) < n then ∃ i s v, e = .returned (.tuple #[.agg #[.int .u16 i, .int .u8 s, .slice none 0 0], v, .int .i64 3]) else
    ∃ vb vr, e = .returned (.tuple #[.agg #[.int .u16 idx, .int .u8 sub, vb], vr, .int .i64 0]) ∧ Own8 w.heap.size w' vb (bs.take n.toNat) ∧ BytesAt w' vr (bs.drop n.toNat) ∧ vr.ownBlock = ob

set_option maxRecDepth 100000 in
set_option maxHeartbeats 1000000 in
theorem item_long (v : Value) (bs : List UInt8) (w : World) (h : BytesAt w v bs) (h7 : 7 ≤ bs.length) (hl : bs.length ≤ 140737488351232) :
    Calls Try.prog 56 #[v] w (ItemPost v.ownBlock (numOf (bs.take 2)) (bs[2].toNat : Int) (numOf ((bs.drop 3).take 4)) (bs.drop 7) w) := by
  obtain ⟨A, cap, rfl, h1, h2, hc⟩ := bytes_cell h
  obtain ⟨g, off, rfl, hc2⟩ := hc (by omega)
  have hm : bs.length ≤ 9223372036854775807 := Nat.le_trans h1 h2
  have c0 : w.cell? ⟨g, off, none⟩ = some (.int .u8 (bs[0].toNat : Int)) := hc2 0 (by omega)
  have c1 : w.cell? ⟨g, off + 1, none⟩ = some (.int .u8 (bs[1].toNat : Int)) := hc2 1 (by omega)
  have c2 : w.cell? ⟨g, off + 2, none⟩ = some (.int .u8 (bs[2].toNat : Int)) := hc2 2 (by omega)
  have b0 := bs[0].toNat_lt
  have b1 := bs[1].toNat_lt
  have b2 := bs[2].toNat_lt
  have hg : g < w.heap.size := World.block_lt_of_cell? w _ c0
  have hg1 : g < w.heap.size + 1 := by omega
  have H := Lib.hid h
  clear h hc hc2
  unfold maxLen at h2
  go_enter Try.func56, Try.ntmps56
  go_upto_region 3 with fail
  have hidx : bits BinOp.or IntKind.u16 (IntKind.u16.wrap (bs[0].toNat : Int)) (IntKind.u16.wrap (IntKind.u16.wrap (bs[1].toNat : Int) * 256)) = numOf (bs.take 2) := by
    have e0 : IntKind.u16.wrap (bs[0].toNat : Int) = (bs[0].toNat : Int) := by rw [IntKind.wrap_u16]; omega
    have e1 : IntKind.u16.wrap (bs[1].toNat : Int) = (bs[1].toNat : Int) := by rw [IntKind.wrap_u16]; omega
    have e2 : IntKind.u16.wrap ((bs[1].toNat : Int) * 256) = (bs[1].toNat : Int) * 256 := by rw [IntKind.wrap_u16]; omega
    rw [e0, e1, e2, le16_sum _ _ b0 b1]
    clear e0 e1 e2
    clear c0 c1 c2 b0 b1 b2 H
    obtain ⟨x, y, r, rfl⟩ : ∃ x y r, bs = x :: y :: r := by
      match bs, h7 with
      | x :: y :: r, _ => exact ⟨x, y, r, rfl⟩
    simp [numOf]
  have hsub0 : (bs[2].toNat : Int) ≤ 255 := by omega
  have hk0 : (bs[0].toNat : Int) ≤ 255 := by omega
  have hk1 : (bs[1].toNat : Int) ≤ 255 := by omega
  have HIDX := Lib.hid hidx
  have l0n : 0 < bs.length := by omega
  have l0 : (0 : Int) < (bs.length : Int) := by omega
  have l1 : (1 : Int) < (bs.length : Int) := by omega
  have l2 : (2 : Int) < (bs.length : Int) := by omega
  clear hidx
  go_cut [5] (fun p wx => ItemCut w (numOf (bs.take 2)) (bs[2].toNat : Int) p wx)
  case first =>
    go_region_law (fail)
    all_goals
      go_wp2_with fail
      go_meet
      unfold ItemCut
      rw [HIDX.out]
      refine ⟨rfl, ?_, ?_, by (repeat' (first | (with_reducible exact Frm.refl _ _) | (with_reducible assumption) | (with_reducible refine Frm.alloc ?_ _) | (with_reducible refine Frm.drew ?_) | (with_reducible refine Frm.drewN ?_ _) | (with_reducible refine Frm.set1 ?_ _) | (with_reducible refine Frm.setCell ?_ ?_ _) | (exact fun h => absurd h (Nat.lt_irrefl _)) | (intro hlt; simp [World.size_alloc, One] at hlt ⊢; omega)))⟩
      · (apply heap_fin; (case h => (repeat (first | (with_reducible exact heap_new _ _) | (with_reducible apply heap_alloc_old) | (with_reducible apply heap_drewN') | (with_reducible apply heap_drew') | (with_reducible apply heap_set_same) | (with_reducible refine heap_set_other ?_ (by simp only []; omega)) | (with_reducible exact heap_new_at (by simp))))); (case e => rfl))
      · (apply heap_fin; (case h => (repeat (first | (with_reducible exact heap_new_at (by simp)) | (with_reducible apply heap_alloc_old) | (with_reducible apply heap_drewN') | (with_reducible apply heap_drew') | (with_reducible apply heap_set_same) | (with_reducible refine heap_set_other ?_ (by simp only []; omega)) | (with_reducible exact heap_new_at (by simp))))); (case e => rfl))
  case rest =>
    obtain ⟨rfl, ht2, ht5, hF⟩ := hcut
    have HB : Hid (BytesAt wc (.slice (some ⟨g, off, none⟩) bs.length cap) bs) := H.out.grow hF
    have h2sz := lt_of_block ht2
    have h5sz := lt_of_block ht5
    have hft2 := frees ht2
    have hft5 := frees ht5
    have HF := Lib.hid hF
    clear hF
    obtain ⟨wo, hwo⟩ : ∃ wo : World, wo = wc := ⟨_, rfl⟩
    subst hwo
    have hn0 := numOf_bound ((bs.drop 3).take 4)
    have hn4 : ((bs.drop 3).take 4).length = 4 := by simp; omega
    rw [hn4] at hn0
    obtain ⟨hn0, hn1⟩ := hn0
    have hn1 : numOf ((bs.drop 3).take 4) < 4294967296 := by simpa using hn1
    have HR := Lib.hid (read32_any _ (bs.drop 3) wo (HB.out.sub 3 (by omega)) (by simp; omega))
    obtain ⟨n, hn⟩ : ∃ n, n = numOf ((bs.drop 3).take 4) := ⟨_, rfl⟩
    rw [← hn] at hn0 hn1 HR
    have HNE := Lib.hid hn
    clear hn
    have hc7 : 7 ≤ cap := by omega
    have d0 : wo.cell? ⟨w.heap.size + 1, 0, none⟩ = some (.int .u16 (numOf (bs.take 2))) := cell_at ht5
    have d1 : wo.cell? ⟨w.heap.size + 1, 1, none⟩ = some (.int .u8 (bs[2].toNat : Int)) := cell_at ht5
    have d2 : wo.cell? ⟨w.heap.size + 1, 2, none⟩ = some (.slice none 0 0) := cell_at ht5
    have f0 : wo.cell? ⟨w.heap.size, 0, none⟩ = some (.int .u16 0) := cell_at ht2
    have f1 : wo.cell? ⟨w.heap.size, 1, none⟩ = some (.int .u8 0) := cell_at ht2
    have f2 : wo.cell? ⟨w.heap.size, 2, none⟩ = some (.slice none 0 0) := cell_at ht2
    have HT2 := Lib.hid ht2
    have HT5 := Lib.hid ht5
    clear ht2 ht5
    obtain ⟨idx, hix⟩ : ∃ n, n = numOf (bs.take 2) := ⟨_, rfl⟩
    obtain ⟨sub, hsb⟩ : ∃ n : Int, n = (bs[2].toNat : Int) := ⟨_, rfl⟩
    rw [← hix] at d0 HT5
    rw [← hsb] at d1 HT5
    have HIX := Lib.hid hix
    have HSB := Lib.hid hsb
    clear hix hsb
    go_upto_region 5 with (go_at_call 55; refine HR.out.mono ?_; rintro e w3 ⟨rfl, m, rfl⟩)
    go_cut [0] (fun v wx => ∃ o2 c2 N : Nat, N = bs.length - 7 ∧ v = .slice (some ⟨g, o2, none⟩) N c2 ∧ N ≤ c2 ∧ c2 ≤ 9223372036854775807 ∧ BytesAt wx v (bs.drop 7) ∧ wx = wo.drewN m)
    case first =>
      by_cases hcap : cap = 7
      · have hb7 : bs.length = 7 := by omega
        subst hcap
        have hd : bs.drop 7 = [] := List.drop_eq_nil_of_le (by omega)
        go_wp2_with fail
        go_meet
        rw [hd]
        exact ⟨off, 0, 0, by omega, rfl, by omega, by omega, ⟨_, 0, rfl, Nat.le_refl _, by unfold maxLen; omega, fun h => absurd h (by simp)⟩, rfl⟩
      · go_wp2_with fail
        go_meet
        exact ⟨_, _, _, rfl, rfl, by omega, by omega, (HB.out.sub 7 h7).grow (by (repeat' (first | (with_reducible exact Frm.refl _ _) | (with_reducible assumption) | (with_reducible refine Frm.alloc ?_ _) | (with_reducible refine Frm.drew ?_) | (with_reducible refine Frm.drewN ?_ _) | (with_reducible refine Frm.set1 ?_ _) | (with_reducible refine Frm.setCell ?_ ?_ _) | (exact fun h => absurd h (Nat.lt_irrefl _)) | (intro hlt; simp [World.size_alloc, One] at hlt ⊢; omega)))), rfl⟩
    case rest =>
      obtain ⟨o2, c2, N, hN, rfl, hcc2, hcc3, hB7, rfl⟩ := hcut
      have HB7 := Lib.hid hB7
      clear hB7
      have hlen7 : (bs.drop 7).length = N := by simp; omega
      have HL7 := Lib.hid hlen7
      have HNN := Lib.hid hN
      have hNl : N ≤ 140737488351232 := by omega
      clear hlen7 hN
      by_cases hbig : 65536 < n
      · go_wp2_with fail
        refine bodyPost_ret (ret_item rfl _ _ w.heap.size (.int .u16 idx) (.int .u8 sub) (.slice none 0 0) rfl (by (apply heap_fin; (case h => (repeat (first | (with_reducible exact HT2.out) | (with_reducible apply heap_alloc_old) | (with_reducible apply heap_drewN') | (with_reducible apply heap_drew') | (with_reducible apply heap_set_same) | (with_reducible refine heap_set_other ?_ (by simp only []; omega)) | (with_reducible exact heap_new_at (by simp))))); (case e => rfl)))) rfl ?_
        rw [← HNE.out]
        have hF := HF.out
        refine ⟨by ((repeat' (first | (with_reducible exact Frm.refl _ _) | (with_reducible assumption) | (with_reducible refine Frm.alloc ?_ _) | (with_reducible refine Frm.drew ?_) | (with_reducible refine Frm.drewN ?_ _) | (with_reducible refine Frm.set1 ?_ _) | (with_reducible refine Frm.setCell ?_ ?_ _) | (exact fun h => absurd h (Nat.lt_irrefl _)) | (intro hlt; simp [World.size_alloc, One] at hlt ⊢; omega)))) <;> exact fun h => absurd h (Nat.lt_irrefl _), ?_⟩
        rw [if_pos hbig]
        exact ⟨_, _, _, rfl⟩
      · have hnn : n ≤ 65536 := by omega
        by_cases hsh : (N : Int) < n
        · have hbn : (65536 : Int) < n → False := by omega
          clear hbig
          go_wp2_with fail
          refine bodyPost_ret (ret_item rfl _ _ w.heap.size (.int .u16 idx) (.int .u8 sub) (.slice none 0 0) rfl (by (apply heap_fin; (case h => (repeat (first | (with_reducible exact HT2.out) | (with_reducible apply heap_alloc_old) | (with_reducible apply heap_drewN') | (with_reducible apply heap_drew') | (with_reducible apply heap_set_same) | (with_reducible refine heap_set_other ?_ (by simp only []; omega)) | (with_reducible exact heap_new_at (by simp))))); (case e => rfl)))) rfl ?_
          rw [← HNE.out]
          have hF := HF.out
          refine ⟨by ((repeat' (first | (with_reducible exact Frm.refl _ _) | (with_reducible assumption) | (with_reducible refine Frm.alloc ?_ _) | (with_reducible refine Frm.drew ?_) | (with_reducible refine Frm.drewN ?_ _) | (with_reducible refine Frm.set1 ?_ _) | (with_reducible refine Frm.setCell ?_ ?_ _) | (exact fun h => absurd h (Nat.lt_irrefl _)) | (intro hlt; simp [World.size_alloc, One] at hlt ⊢; omega)))) <;> exact fun h => absurd h (Nat.lt_irrefl _), ?_⟩
          rw [if_neg (fun h => hbn h), if_pos (by rw [HL7.out]; omega)]
          exact ⟨_, _, _, rfl⟩
        · have hsh2 : n ≤ (N : Int) := by omega
          clear hsh hbig
          go_upto_region 10 with fail
          obtain ⟨k, hk⟩ : ∃ k : Nat, (k : Int) = n := ⟨n.toNat, by omega⟩
          subst hk
          have hs1 := slice_to (W := wo.drewN m) g o2 N c2 k (by omega)
          have hs2 := fun W => slice_from W g o2 N c2 k (by omega) (by omega)
          have HS2 := Lib.hid hs2
          clear hs2
          have hkl : ((bs.drop 7).take k).length = k := by rw [List.length_take, HL7.out]; omega
          have hcl : Calls Try.prog 65 #[.slice (some ⟨g, o2, none⟩) k c2] (wo.drewN m) fun e w' => ∃ A cap, e = .returned (.slice A k cap) ∧ Own8 w.heap.size w' (.slice A k cap) ((bs.drop 7).take k) ∧ Frm (fun _ => False) (wo.drewN m) w' :=
            (clone_any _ ((bs.drop 7).take k) _ (HB7.out.pre HL7.out k (by rw [HL7.out]; omega)) (by rw [hkl]; omega)).mono (by
              rintro e w' ⟨v, rfl, hO, hF⟩
              obtain ⟨A, cap, rfl, _⟩ := row_open hO
              have hO2 : Own8 w.heap.size w' (.slice A ((bs.drop 7).take k).length cap) ((bs.drop 7).take k) := row_base hO (HF.out.size)
              rw [show Value.slice A ((bs.drop 7).take k).length cap = .slice A k cap by rw [hkl]] at hO2 ⊢
              exact ⟨A, cap, rfl, hO2, hF⟩)
          have HKL := Lib.hid hkl
          have HCL := Lib.hid hcl
          have HKN : Hid (k ≤ N ∧ (k : Int) ≤ 65536) := ⟨by omega, hnn⟩
          clear hkl hcl
          go_wp2_with fail
          refine HCL.out.mono ?_
          rintro e w4 ⟨Ab, cb, rfl, hOwn, hF4⟩
          have hF4' : Frm (fun _ => False) wo w4 := Frm.trans' (by (repeat' (first | (with_reducible exact Frm.refl _ _) | (with_reducible assumption) | (with_reducible refine Frm.alloc ?_ _) | (with_reducible refine Frm.drew ?_) | (with_reducible refine Frm.drewN ?_ _) | (with_reducible refine Frm.set1 ?_ _) | (with_reducible refine Frm.setCell ?_ ?_ _) | (exact fun h => absurd h (Nat.lt_irrefl _)) | (intro hlt; simp [World.size_alloc, One] at hlt ⊢; omega)))) hF4
          have ht2 := hF4'.heap HT2.out (fun h => h)
          have ht5 := hF4'.heap HT5.out (fun h => h)
          have f0 : w4.cell? ⟨w.heap.size, 0, none⟩ = some (.int .u16 0) := cell_at ht2
          have f1 : w4.cell? ⟨w.heap.size, 1, none⟩ = some (.int .u8 0) := cell_at ht2
          have f2 : w4.cell? ⟨w.heap.size, 2, none⟩ = some (.slice none 0 0) := cell_at ht2
          have d0 : w4.cell? ⟨w.heap.size + 1, 0, none⟩ = some (.int .u16 idx) := cell_at ht5
          have d1 : w4.cell? ⟨w.heap.size + 1, 1, none⟩ = some (.int .u8 sub) := cell_at ht5
          have d2 : w4.cell? ⟨w.heap.size + 1, 2, none⟩ = some (.slice none 0 0) := cell_at ht5
          have hq2 := frees ht2
          have hq5 := frees ht5
          have hz2 := lt_of_block ht2
          have hz5 := lt_of_block ht5
          have HT2' := Lib.hid ht2
          have HT5' := Lib.hid ht5
          have HOWN := Lib.hid hOwn
          have HF4 := Lib.hid (HF.out.trans' hF4')
          have HB4 := Lib.hid (HB7.out.grow hF4)
          clear hs1 ht2 ht5 hOwn hF4 hF4'
          have hkn : ((k : Int) ≤ N) := hsh2
          clear hnn hsh2 hn0 hn1 hkn
          go_upto_region 11 with fail
          have hs2 := HS2.out
          go_region_law (fail)
          all_goals (go_wp2_with fail)
          all_goals
            refine bodyPost_ret (ret_item rfl _ _ w.heap.size (.int .u16 idx) (.int .u8 sub) (.slice Ab k cb) rfl (by (apply heap_fin; (case h => (repeat (first | (with_reducible exact HT2'.out) | (with_reducible apply heap_alloc_old) | (with_reducible apply heap_drewN') | (with_reducible apply heap_drew') | (with_reducible apply heap_set_same) | (with_reducible refine heap_set_other ?_ (by simp only []; omega)) | (with_reducible exact heap_new_at (by simp))))); (case e => rfl)))) rfl ?_
            rw [← HNE.out]
            have hF := HF4.out
            refine ⟨by ((repeat' (first | (with_reducible exact Frm.refl _ _) | (with_reducible assumption) | (with_reducible refine Frm.alloc ?_ _) | (with_reducible refine Frm.drew ?_) | (with_reducible refine Frm.drewN ?_ _) | (with_reducible refine Frm.set1 ?_ _) | (with_reducible refine Frm.setCell ?_ ?_ _) | (exact fun h => absurd h (Nat.lt_irrefl _)) | (intro hlt; simp [World.size_alloc, One] at hlt ⊢; omega)))) <;> exact fun h => absurd h (by simp only; omega), ?_⟩
            rw [if_neg (fun h => by have := HKN.out.2; omega), if_neg (fun h => by rw [HL7.out] at h; have := HKN.out.1; omega)]
            simp only [Int.toNat_natCast]
            have hfrom := HB4.out.from HL7.out k (by rw [HL7.out]; exact HKN.out.1)
            first | rw [if_pos (by assumption), show c2 - k = 0 by omega] at hfrom | rw [if_neg (by assumption)] at hfrom
            rw [← HIX.out, ← HSB.out]
            have hX := fun (W : World) (hF : Frm (fun j => j = w.heap.size ∨ j = w.heap.size + 1) w4 W) => Frm.row hF HOWN.out (fun j hj hs => by
              obtain ⟨_, cur, hc⟩ := row_block HOWN.out hj
              rcases hs with rfl | rfl
              · exact block_ne hc HT2'.out (by decide) rfl
              · exact block_ne hc HT5'.out (by decide) rfl)
            refine ⟨.slice Ab k cb, _, ?_, hX _ ?_, hfrom.frm (S := fun j => j = w.heap.size ∨ j = w.heap.size + 1) ?_ (fun j hj hs => ?_), rfl⟩
            · rfl
            · ((repeat' (first | (with_reducible exact Frm.refl _ _) | (with_reducible assumption) | (with_reducible refine Frm.alloc ?_ _) | (with_reducible refine Frm.drew ?_) | (with_reducible refine Frm.drewN ?_ _) | (with_reducible refine Frm.set1 ?_ _) | (with_reducible refine Frm.setCell ?_ ?_ _) | (exact fun h => absurd h (Nat.lt_irrefl _)) | (intro hlt; simp [World.size_alloc, One] at hlt ⊢; omega)))) <;> exact fun _ => by simp
            · ((repeat' (first | (with_reducible exact Frm.refl _ _) | (with_reducible assumption) | (with_reducible refine Frm.alloc ?_ _) | (with_reducible refine Frm.drew ?_) | (with_reducible refine Frm.drewN ?_ _) | (with_reducible refine Frm.set1 ?_ _) | (with_reducible refine Frm.setCell ?_ ?_ _) | (exact fun h => absurd h (Nat.lt_irrefl _)) | (intro hlt; simp [World.size_alloc, One] at hlt ⊢; omega)))) <;> exact fun _ => by simp
            · simp [Value.ownBlock] at hj
              omega

set_option maxRecDepth 100000 in
set_option maxHeartbeats 1000000 in
theorem item_short (v : Value) (bs : List UInt8) (w : World) (h : BytesAt w v bs) (h7 : bs.length < 7) :
    Calls Try.prog 56 #[v] w fun e w' => (∃ i s v, e = .returned (.tuple #[.agg #[.int .u16 i, .int .u8 s, .slice none 0 0], v, .int .i64 3])) ∧ Frm (fun _ => False) w w' := by
  obtain ⟨A, cap, rfl, h1, h2, hc⟩ := bytes_cell h
  clear hc h h1 h2
  go_enter Try.func56, Try.ntmps56
  go_wp2_with fail
  refine bodyPost_ret (ret_item rfl _ _ w.heap.size (.int .u16 0) (.int .u8 0) (.slice none 0 0) rfl (by (apply heap_fin; (case h => (repeat (first | (with_reducible exact heap_new _ _) | (with_reducible apply heap_alloc_old) | (with_reducible apply heap_drewN') | (with_reducible apply heap_drew') | (with_reducible apply heap_set_same) | (with_reducible refine heap_set_other ?_ (by simp only []; omega)) | (with_reducible exact heap_new_at (by simp))))); (case e => rfl)))) rfl ?_
  exact ⟨⟨_, _, _, rfl⟩, by ((repeat' (first | (with_reducible exact Frm.refl _ _) | (with_reducible assumption) | (with_reducible refine Frm.alloc ?_ _) | (with_reducible refine Frm.drew ?_) | (with_reducible refine Frm.drewN ?_ _) | (with_reducible refine Frm.set1 ?_ _) | (with_reducible refine Frm.setCell ?_ ?_ _) | (exact fun h => absurd h (Nat.lt_irrefl _)) | (intro hlt; simp [World.size_alloc, One] at hlt ⊢; omega)))) <;> exact fun h => absurd h (Nat.lt_irrefl _)⟩

end Go.Proofs.Ytmkkeglcjbogcaa
namespace Go.Proofs.Ytmkkeglcjbogcaa
open Go.RowKit
set_option linter.unusedVariables false
set_option linter.unusedSimpArgs false

set_option maxRecDepth 100000 in
set_option maxHeartbeats 2000000 in
theorem lastI_any (v : Value) (xs : List Itm) (B : Nat) (w : World) (h : ItemsRow B w v xs) (hr : ∀ x ∈ xs, Rng (bare x)) (hl : xs.length ≤ 4398046510976) (hb : ∀ x ∈ xs, x.2.2.2.length ≤ 140737488351232) :
    Calls Try.prog 29 #[v] w (OwnPost (lastR xs) w) := by
  have HI := Lib.hid h
  have HBL := Lib.hid hb
  have hrs : ∀ x ∈ xs, RngS x := fun x hx => by
    have h1 := hr x hx
    obtain ⟨A9, c9, e9, _, _, _⟩ := row_open (h.2 x hx)
    exact ⟨⟨h1.1, h1.2.1⟩, ⟨h1.2.2.1, h1.2.2.2⟩, _, _, _, e9⟩
  have HLS := Lib.hid (lasts_any v xs w (SlAt.of_row encIt_len h.1) hrs (by omega))
  obtain ⟨hL1, hL2⟩ := last_at xs
  have HL2 := Lib.hid hL2
  have hll := lastR_len xs
  obtain ⟨A, cap, rfl, _, _, q3⟩ := row_open h.1
  have HQ := Lib.hid q3
  unfold LastsP at HLS
  clear h hr hb hrs q3 hL2
  go_enter Try.func29, Try.ntmps29
  go_wp2_with (go_at_call 64; refine HLS.out.mono ?_; rintro e w6 ⟨v6, rfl, hr6, hF6⟩; have HR6 := Lib.hid hr6; have HF6 := Lib.hid hF6; obtain ⟨A6, c6, rfl, _, _, _⟩ := row_open hr6; clear hr6 hF6)
  go_loopw [3, 10] (fun bv i wr => ∃ (k : Nat) (ys : List Itm), k ≤ (lastB xs).length ∧ i = .int .i64 k ∧ ys.length = k ∧ ys.map bare = ((lastR xs).take k).map bare ∧ ItemsRow w6.heap.size wr bv ys ∧ Frm (fun _ => False) w6 wr) (fun _ i _ => (lastB xs).length - (intOf i).toNat)
  case atStart => exact ⟨0, [], Nat.zero_le _, rfl, rfl, by simp, ⟨World.ownsRow_nil _ _ _ _, fun x hx => by cases hx⟩, Frm.refl _ _⟩
  case round =>
    obtain ⟨k, ys, hk, rfl, hyl, hyb, hY, hF⟩ := hrel
    by_cases hlt : k < (lastB xs).length
    · have hlt2 : k < (lastR xs).length := by omega
      obtain ⟨j, hj, ej, ex⟩ := HL2.out k hlt hlt2
      have hFw := HF6.out.trans' hF
      obtain ⟨_, _, e6, _, _, p3⟩ := row_open HR6.out
      simp only [Value.slice.injEq] at e6
      obtain ⟨rfl, -, rfl⟩ := e6
      obtain ⟨g6, rfl, _, ⟨cu6, hcu6⟩, _, hcc6⟩ := p3 (by omega)
      have hi0 : wr.cell? ⟨g6, k, none⟩ = some (.int .i64 (j : Int)) := by
        refine hF.cell (p := ⟨g6, k, none⟩) ?_ (fun h => h)
        rw [hcc6 k (by omega), List.getElem?_map, List.getElem?_eq_getElem hlt, ej]
        rfl
      have hg6 := Nat.lt_of_lt_of_le (lt_of_block hcu6) hF.size
      obtain ⟨g, rfl, _, ⟨cu, hcu⟩, _, hcc⟩ := HQ.out (by omega)
      have hcell : ∀ o (ho : o < 3), wr.cell? ⟨g, j * 3 + o, none⟩ = some ((encIt xs[j])[o]'(by rw [encIt_len]; exact ho)) := fun o ho => by
        refine hFw.cell (p := ⟨g, j * 3 + o, none⟩) ?_ (fun h => h)
        rw [hcc _ (by omega), cellsOf_get encIt_len xs j o hj ho]
        exact List.getElem?_eq_getElem (by rw [encIt_len]; exact ho)
      have hgl := Nat.lt_of_lt_of_le (lt_of_block hcu) hFw.size
      have hbk := HBL.out _ (List.getElem_mem hj)
      have hOW := (BytesAt.of_row (HI.out.2 _ (List.getElem_mem hj))).grow hFw
      have hek : ((lastR xs).take (k + 1)) = (lastR xs).take k ++ [xs[j]] := by rw [List.take_succ_eq_append_getElem hlt2, ex]
      have HEK := Lib.hid hek
      have hjl : (j : Int) < (xs.length : Int) := by omega
      clear ej ex hek p3 hcc6 hcc hcu hcu6
      generalize xs[j] = x at *
      have HKL : Hid (k + 1 ≤ (lastB xs).length) := hlt
      obtain ⟨x0, x1, xv, xb⟩ := x
      simp only at hbk hOW
      obtain ⟨Ab, cb, rfl, _, _, _⟩ := hOW.open_
      have d0 := hcell 0 (by decide)
      have d1 := hcell 1 (by decide)
      have d2 := hcell 2 (by decide)
      simp only [encIt, List.getElem_cons_succ, List.getElem_cons_zero, Nat.add_zero] at d0 d1 d2
      obtain ⟨Al, cl, rfl, g3, g4, _⟩ := row_open hY.1
      have HY := Lib.hid hY
      have HYB := Lib.hid hyb
      have HYL := Lib.hid hyl
      have HROW := Lib.hid hY.1
      have HF := Lib.hid hF
      have HFW := Lib.hid hFw
      have hsz := hF.size
      have hm3 : ys.length + 1 ≤ maxLen := by unfold maxLen; omega
      have hm4 : (ys.length + 1) * 32 ≤ 140737488355328 := by omega
      have HCL := Lib.hid (fun W hW => clone_any (.slice Ab xb.length cb) xb W (hOW.grow hW) hbk)
      unfold CloneP at HCL
      clear hF hFw hY hyb hyl hOW hcell
      go_upto_region 7 with (go_at_call 65; refine (HCL.out _ ((Frm.refl _ _).alloc _)).mono ?_; rintro e w3 ⟨v3, rfl, hown3, hF3'⟩; obtain ⟨A3, cap3, rfl, _, _, _⟩ := row_open hown3; have hF3 : Frm (fun _ => False) wr w3 := Frm.trans' (b := _) ((Frm.refl _ _).alloc _) hF3'; have ht5 : w3.heap[wr.heap.size]? = some (.cells #[.int .u16 x0, .int .u8 x1, .slice Ab xb.length cb] 121 (0, 0)) := hF3'.heap (heap_new _ _) (fun h => h); have hft5 := frees ht5; have e0 := cell_at (o := 0) ht5; have e1 := cell_at (o := 1) ht5; have e2 := cell_at (o := 2) ht5)
      have HF3 := Lib.hid hF3
      have HO3 := Lib.hid hown3
      have hz3 := hF3.size
      have hlt5 := lt_of_block ht5
      have HT5 := Lib.hid ht5
      clear hF3 hF3' hown3 ht5
      go_wp2_with (at_builtin; go_loud (refine wpl_app rfl el_Item (.tmp 22) (.tmp 24) rfl (B := w6.heap.size) (e2 := 121) (fr := (0, 0)) (arr := #[.int .u16 x0, .int .u8 x1, .slice A3 xb.length cap3]) rfl rfl (Frm.row (S := fun _ => False) (w := wr) (by have hF3 := HF3.out; (repeat' (first | (with_reducible exact Frm.refl _ _) | (with_reducible assumption) | (with_reducible refine Frm.alloc ?_ _) | (with_reducible refine Frm.drew ?_) | (with_reducible refine Frm.drewN ?_ _) | (with_reducible refine Frm.set1 ?_ _) | (with_reducible refine Frm.setCell ?_ ?_ _) | (exact fun h => absurd h (Nat.lt_irrefl _)) | (intro hlt; simp [World.size_alloc, One] at hlt ⊢; omega)))) HROW.out (fun _ _ h => h)) (heap_new_at (by simp)) rfl (by simp [Value.oneCell']) (by decide) hm3 hm4 (by simp; omega) ?_; intro g5 cap5 w5 hown5 hfr5 hat5 hlt5))
      go_roundw
      case rel =>
        have hF3 := HF3.out
        have hno : ∀ q, q < w6.heap.size → (Value.slice Al ys.length cl).ownBlock = some q → False := fun q hq hs => by
          have := (row_block HROW.out hs).1
          omega
        have hF3x : Frm (fun j => j = wr.heap.size) w3 (w3.setCell ⟨wr.heap.size, 2, none⟩ (.slice A3 xb.length cap3)) := (Frm.refl (fun j => j = wr.heap.size) w3).setCell (p := ⟨wr.heap.size, 2, none⟩) (fun _ => rfl) _
        have hO3x := Frm.row hF3x HO3.out (fun j hj e => by
          obtain ⟨_, cur, hc⟩ := row_block HO3.out hj
          rw [e] at hc
          exact block_ne hc HT5.out (by decide) rfl)
        refine ⟨k + 1, ys ++ [(x0, x1, .slice A3 xb.length cap3, xb)], HKL.out, by go_num, by simp [HYL.out], ?_, ?_, ?_⟩
        · rw [HEK.out, List.map_append, List.map_append, HYB.out]; rfl
        · refine ItemsRow.push (w := w3.setCell ⟨wr.heap.size, 2, none⟩ (.slice A3 xb.length cap3)) (HY.out.grow (by (repeat' (first | (with_reducible exact Frm.refl _ _) | (with_reducible assumption) | (with_reducible refine Frm.alloc ?_ _) | (with_reducible refine Frm.drew ?_) | (with_reducible refine Frm.drewN ?_ _) | (with_reducible refine Frm.set1 ?_ _) | (with_reducible refine Frm.setCell ?_ ?_ _) | (exact fun h => absurd h (Nat.lt_irrefl _)) | (intro hlt; simp [World.size_alloc, One] at hlt ⊢; omega))))) _ (row_base hO3x (Nat.le_trans hsz (by simp))) (Frm.trans (b := _) (by (repeat' (first | (with_reducible exact Frm.refl _ _) | (with_reducible assumption) | (with_reducible refine Frm.alloc ?_ _) | (with_reducible refine Frm.drew ?_) | (with_reducible refine Frm.drewN ?_ _) | (with_reducible refine Frm.set1 ?_ _) | (with_reducible refine Frm.setCell ?_ ?_ _) | (exact fun h => absurd h (Nat.lt_irrefl _)) | (intro hlt; simp [World.size_alloc, One] at hlt ⊢; omega)))) hfr5 (fun _ _ h => h)) rfl hown5
        · exact (HF.out.trans' (by (repeat' (first | (with_reducible exact Frm.refl _ _) | (with_reducible assumption) | (with_reducible refine Frm.alloc ?_ _) | (with_reducible refine Frm.drew ?_) | (with_reducible refine Frm.drewN ?_ _) | (with_reducible refine Frm.set1 ?_ _) | (with_reducible refine Frm.setCell ?_ ?_ _) | (exact fun h => absurd h (Nat.lt_irrefl _)) | (intro hlt; simp [World.size_alloc, One] at hlt ⊢; omega))))).trans hfr5 (fun i hi hs => hno i hi hs)
      case measure => have := HKL.out; simp [intOf]; omega
    · go_wp2_with fail
      go_ret
      refine ⟨HF6.out.trans' hF, _, ys, rfl, ?_, row_base hY.1 HF6.out.size, fun x hx => row_base (hY.2 x hx) HF6.out.size⟩
      rw [hyb, List.take_of_length_le (by omega)]
end Go.Proofs.Ytmkkeglcjbogcaa
namespace Go.Proofs.Ytmkkeglcjbogcaa
open Go.RowKit
open List (getElem_toArray getElem_cons_zero getElem_cons_succ setIfInBounds_toArray set_cons_zero set_cons_succ)
set_option linter.unusedVariables false
set_option linter.unusedSimpArgs false

theorem agI_drop (x : Itm) (xs : List Itm) (k : Nat) (hk : k < xs.length) : agI x (xs.drop k) = (samePl xs[k] x || agI x (xs.drop (k + 1))) := by
  unfold agI
  rw [List.drop_eq_getElem_cons hk, List.any_cons]

set_option maxRecDepth 100000 in
set_option maxHeartbeats 4000000 in
theorem again_any (v : Value) (xs : List Itm) (i : Nat) (w : World) (h : SlAt encIt 3 w v xs) (hi : i < xs.length) :
    Calls Try.prog 30 #[v, .int .i64 i] w fun e w' => e = .returned (.bool (agI xs[i] (xs.drop (i + 1)))) ∧ Frm (fun _ => False) w w' := by
  have HI := Lib.hid h
  obtain ⟨A, cap, rfl, hn1, hn2, q3⟩ := h
  obtain ⟨g, off, rfl, hgl, hcc⟩ := q3 (by omega)
  have hm : xs.length ≤ 9223372036854775807 := Nat.le_trans hn1 hn2
  have HC := Lib.hid (fun (k o : Nat) (hk : k < xs.length) (ho : o < 3) => (hcc k hk o ho).trans (List.getElem?_eq_getElem (by rw [encIt_len]; exact ho)))
  obtain ⟨x, hx⟩ : ∃ x, x = xs[i] := ⟨_, rfl⟩
  have HX := Lib.hid hx
  obtain ⟨r, hr⟩ : ∃ r, r = agI x (xs.drop (i + 1)) := ⟨_, rfl⟩
  have HR := Lib.hid hr
  rw [← hx, ← hr]
  have hj : (i : Int) < (xs.length : Int) := by omega
  have ha0 := HC.out i 0 hi (by decide)
  have ha1 := HC.out i 1 hi (by decide)
  rw [← hx] at ha0 ha1
  obtain ⟨x0, x1, xv, xb⟩ := x
  simp only [encIt, getElem_cons_succ, getElem_cons_zero, Nat.add_zero] at ha0 ha1
  have HA0 := Lib.hid ha0
  have HA1 := Lib.hid ha1
  clear hx hr q3 hcc hn1 hn2 ha0 ha1
  go_enter Try.func30, Try.ntmps30
  go_wp2_with fail
  go_loopw [5] (fun j wr => ∃ k : Nat, k ≤ xs.length ∧ j = .int .i64 k ∧ r = agI (x0, x1, xv, xb) (xs.drop k) ∧ Frm (fun _ => False) w wr) (fun j _ => xs.length - (intOf j).toNat)
  case atStart => exact ⟨i + 1, hi, by go_num, HR.out, Frm.refl _ _⟩
  case round =>
    obtain ⟨k, hk, rfl, hcode, hF⟩ := hrel
    by_cases hlt : k < xs.length
    · have hd := agI_drop (x0, x1, xv, xb) xs k hlt
      rw [hd] at hcode
      have hb0 := HC.out k 0 hlt (by decide)
      have hb1 := HC.out k 1 hlt (by decide)
      clear hd
      generalize xs[k] = y at *
      have HKL : Hid (k + 1 ≤ xs.length) := hlt
      obtain ⟨y0, y1, yv, yb⟩ := y
      simp only [encIt, getElem_cons_succ, getElem_cons_zero, Nat.add_zero] at hb0 hb1
      have hC : ∀ Wx, Frm (fun _ => False) wr Wx → Wx.cell? ⟨g, off + k * 3, none⟩ = some (.int .u16 y0) ∧ Wx.cell? ⟨g, off + k * 3 + 1, none⟩ = some (.int .u8 y1) ∧ Wx.cell? ⟨g, off + i * 3, none⟩ = some (.int .u16 x0) ∧ Wx.cell? ⟨g, off + i * 3 + 1, none⟩ = some (.int .u8 x1) := fun Wx h =>
        ⟨(hF.trans' h).cell hb0 (fun h => h), (hF.trans' h).cell hb1 (fun h => h), (hF.trans' h).cell HA0.out (fun h => h), (hF.trans' h).cell HA1.out (fun h => h)⟩
      have HCW := Lib.hid hC
      have HF := Lib.hid hF
      have hsz := hF.size
      have hjk : (k : Int) < (xs.length : Int) := by omega
      have HCO := Lib.hid hcode
      clear hC hF hcode hb0 hb1
      go_upto_region 4 with fail
      by_cases he : y0 = x0
      · subst he
        refine wp_region_held_drew (S := fun W => Frm (fun _ => False) wr W) (by kernel_rfl) ((Frm.refl _ _).drew) (fun hHeld => ?_)
        refine wpAnyH_take (i := 0) (v := ?_) rfl (by kernel_rfl) (by kernel_rfl) (by kernel_rfl) (fun _ _ _ h => h) (Or.inl ⟨by rfl, ?_⟩) (by assumption) ?_; rotate_left; · (intro wq hSq; have hq := HCW.out wq hSq; go_split_ands; go_simp; (try with_reducible rfl))
        try simp only [Act.put, getElem_toArray, getElem_cons_zero, getElem_cons_succ, setIfInBounds_toArray, set_cons_zero, set_cons_succ]
        refine wpAnyH_take (i := 1) (v := ?_) rfl (by kernel_rfl) (by kernel_rfl) (by kernel_rfl) (fun _ _ _ h => h) (Or.inl ⟨by rfl, ?_⟩) (by assumption) ?_; rotate_left; · (intro wq hSq; have hq := HCW.out wq hSq; go_split_ands; go_simp; (try with_reducible rfl))
        try simp only [Act.put, getElem_toArray, getElem_cons_zero, getElem_cons_succ, setIfInBounds_toArray, set_cons_zero, set_cons_succ]
        refine wpAnyH_take (i := 2) (v := ?_) rfl (by kernel_rfl) (by kernel_rfl) (by kernel_rfl) (fun _ _ _ h => h) (Or.inl ⟨by rfl, ?_⟩) (by assumption) ?_; rotate_left; · (intro wq hSq; have hq := HCW.out wq hSq; go_split_ands; go_simp; (try with_reducible rfl))
        try simp only [Act.put, getElem_toArray, getElem_cons_zero, getElem_cons_succ, setIfInBounds_toArray, set_cons_zero, set_cons_succ]
        refine wpAnyH_take (i := 3) (v := ?_) rfl (by kernel_rfl) (by kernel_rfl) (by kernel_rfl) (fun _ _ _ h => h) (Or.inl ⟨by rfl, ?_⟩) (by assumption) ?_; rotate_left; · (intro wq hSq; have hq := HCW.out wq hSq; go_split_ands; go_simp; (try with_reducible rfl))
        try simp only [Act.put, getElem_toArray, getElem_cons_zero, getElem_cons_succ, setIfInBounds_toArray, set_cons_zero, set_cons_succ]
        refine wpAnyH_take (i := 4) (v := ?_) rfl (by kernel_rfl) (by kernel_rfl) (by kernel_rfl) (fun _ _ _ h => h) (Or.inl ⟨by rfl, ?_⟩) (by assumption) ?_; rotate_left; · (intro wq hSq; have hq := HCW.out wq hSq; go_split_ands; go_simp; (try with_reducible rfl))
        try simp only [Act.put, getElem_toArray, getElem_cons_zero, getElem_cons_succ, setIfInBounds_toArray, set_cons_zero, set_cons_succ]
        refine wpAnyH_take (i := 5) (v := ?_) rfl (by kernel_rfl) (by kernel_rfl) (by kernel_rfl) (fun _ _ _ h => h) (Or.inl ⟨by rfl, ?_⟩) (by assumption) ?_; rotate_left; · (intro wq hSq; have hq := HCW.out wq hSq; go_split_ands; go_simp; (try with_reducible rfl))
        try simp only [Act.put, getElem_toArray, getElem_cons_zero, getElem_cons_succ, setIfInBounds_toArray, set_cons_zero, set_cons_succ]
        refine wpAnyH_take (i := 6) (v := ?_) rfl (by kernel_rfl) (by kernel_rfl) (by kernel_rfl) (fun _ _ _ h => h) (Or.inl ⟨by rfl, ?_⟩) (by assumption) ?_; rotate_left; · (intro wq hSq; have hq := HCW.out wq hSq; go_split_ands; go_simp; (try with_reducible rfl))
        try simp only [Act.put, getElem_toArray, getElem_cons_zero, getElem_cons_succ, setIfInBounds_toArray, set_cons_zero, set_cons_succ]
        refine wpAnyH_take (i := 7) (v := ?_) rfl (by kernel_rfl) (by kernel_rfl) (by kernel_rfl) (fun _ _ _ h => h) (Or.inl ⟨by rfl, ?_⟩) (by assumption) ?_; rotate_left; · (intro wq hSq; have hq := HCW.out wq hSq; go_split_ands; go_simp; (try with_reducible rfl))
        try simp only [Act.put, getElem_toArray, getElem_cons_zero, getElem_cons_succ, setIfInBounds_toArray, set_cons_zero, set_cons_succ]
        refine wpAnyH_take (i := 8) (v := ?_) rfl (by kernel_rfl) (by kernel_rfl) (by kernel_rfl) (fun _ _ _ h => h) (Or.inl ⟨by rfl, ?_⟩) (by assumption) ?_; rotate_left; · (intro wq hSq; have hq := HCW.out wq hSq; go_split_ands; go_simp; (try with_reducible rfl))
        try simp only [Act.put, getElem_toArray, getElem_cons_zero, getElem_cons_succ, setIfInBounds_toArray, set_cons_zero, set_cons_succ]
        refine wpAnyH_take (i := 9) (v := ?_) rfl (by kernel_rfl) (by kernel_rfl) (by kernel_rfl) (fun _ _ _ h => h) (Or.inl ⟨by rfl, ?_⟩) (by assumption) ?_; rotate_left; · (intro wq hSq; have hq := HCW.out wq hSq; go_split_ands; go_simp; (try with_reducible rfl))
        try simp only [Act.put, getElem_toArray, getElem_cons_zero, getElem_cons_succ, setIfInBounds_toArray, set_cons_zero, set_cons_succ]
        refine wpAnyH_take (i := 10) (v := ?_) rfl (by kernel_rfl) (by kernel_rfl) (by kernel_rfl) (fun _ _ _ h => h) (Or.inl ⟨by rfl, ?_⟩) (by assumption) ?_; rotate_left; · (intro wq hSq; have hq := HCW.out wq hSq; go_split_ands; go_simp; (try with_reducible rfl))
        try simp only [Act.put, getElem_toArray, getElem_cons_zero, getElem_cons_succ, setIfInBounds_toArray, set_cons_zero, set_cons_succ]
        refine wpAnyH_take (i := 11) (v := ?_) rfl (by kernel_rfl) (by kernel_rfl) (by kernel_rfl) (fun _ _ _ h => h) (Or.inl ⟨by rfl, ?_⟩) (by assumption) ?_; rotate_left; · (intro wq hSq; have hq := HCW.out wq hSq; go_split_ands; go_simp; (try with_reducible rfl))
        try simp only [Act.put, getElem_toArray, getElem_cons_zero, getElem_cons_succ, setIfInBounds_toArray, set_cons_zero, set_cons_succ]
        refine wpAnyH_take (i := 12) (v := ?_) rfl (by kernel_rfl) (by kernel_rfl) (by kernel_rfl) (fun _ _ _ h => h) (Or.inl ⟨by rfl, ?_⟩) (by assumption) ?_; rotate_left; · (intro wq hSq; have hq := HCW.out wq hSq; go_split_ands; go_simp; (try with_reducible rfl))
        try simp only [Act.put, getElem_toArray, getElem_cons_zero, getElem_cons_succ, setIfInBounds_toArray, set_cons_zero, set_cons_succ]
        refine wpAnyH_take (i := 13) (v := ?_) rfl (by kernel_rfl) (by kernel_rfl) (by kernel_rfl) (fun _ _ _ h => h) (Or.inl ⟨by rfl, ?_⟩) (by assumption) ?_; rotate_left; · (intro wq hSq; have hq := HCW.out wq hSq; go_split_ands; go_simp; (try with_reducible rfl))
        try simp only [Act.put, getElem_toArray, getElem_cons_zero, getElem_cons_succ, setIfInBounds_toArray, set_cons_zero, set_cons_succ]
        refine wpAnyH_take (i := 14) (v := ?_) rfl (by kernel_rfl) (by kernel_rfl) (by kernel_rfl) (fun _ _ _ h => h) (Or.inl ⟨by rfl, ?_⟩) (by assumption) ?_; rotate_left; · (intro wq hSq; have hq := HCW.out wq hSq; go_split_ands; go_simp; (try with_reducible rfl))
        try simp only [Act.put, getElem_toArray, getElem_cons_zero, getElem_cons_succ, setIfInBounds_toArray, set_cons_zero, set_cons_succ]
        refine wpAnyH_take (i := 15) (v := ?_) rfl (by kernel_rfl) (by kernel_rfl) (by kernel_rfl) (fun _ _ _ h => h) (Or.inl ⟨by rfl, ?_⟩) (by assumption) ?_; rotate_left; · (intro wq hSq; have hq := HCW.out wq hSq; go_split_ands; go_simp; (try with_reducible rfl))
        try simp only [Act.put, getElem_toArray, getElem_cons_zero, getElem_cons_succ, setIfInBounds_toArray, set_cons_zero, set_cons_succ]
        refine wpAnyH_take (i := 16) (v := ?_) rfl (by kernel_rfl) (by kernel_rfl) (by kernel_rfl) (fun _ _ _ h => h) (Or.inl ⟨by rfl, ?_⟩) (by assumption) ?_; rotate_left; · (intro wq hSq; have hq := HCW.out wq hSq; go_split_ands; go_simp; (try with_reducible rfl))
        try simp only [Act.put, getElem_toArray, getElem_cons_zero, getElem_cons_succ, setIfInBounds_toArray, set_cons_zero, set_cons_succ]
        refine wpAnyH_take (i := 17) (v := ?_) rfl (by kernel_rfl) (by kernel_rfl) (by kernel_rfl) (fun _ _ _ h => h) (Or.inl ⟨by rfl, ?_⟩) (by assumption) ?_; rotate_left; · (intro wq hSq; have hq := HCW.out wq hSq; go_split_ands; go_simp; (try with_reducible rfl))
        try simp only [Act.put, getElem_toArray, getElem_cons_zero, getElem_cons_succ, setIfInBounds_toArray, set_cons_zero, set_cons_succ]
        refine wpAnyH_take (i := 18) (v := ?_) rfl (by kernel_rfl) (by kernel_rfl) (by kernel_rfl) (fun _ _ _ h => h) (Or.inl ⟨by rfl, ?_⟩) (by assumption) ?_; rotate_left; · (intro wq hSq; have hq := HCW.out wq hSq; go_split_ands; go_simp; (try with_reducible rfl))
        try simp only [Act.put, getElem_toArray, getElem_cons_zero, getElem_cons_succ, setIfInBounds_toArray, set_cons_zero, set_cons_succ]
        refine wpAnyH_take (i := 19) (v := ?_) rfl (by kernel_rfl) (by kernel_rfl) (by kernel_rfl) (fun _ _ _ h => h) (Or.inl ⟨by rfl, ?_⟩) (by assumption) ?_; rotate_left; · (intro wq hSq; have hq := HCW.out wq hSq; go_split_ands; go_simp; (try with_reducible rfl))
        try simp only [Act.put, getElem_toArray, getElem_cons_zero, getElem_cons_succ, setIfInBounds_toArray, set_cons_zero, set_cons_succ]
        refine wpAnyH_take (i := 20) (v := ?_) rfl (by kernel_rfl) (by kernel_rfl) (by kernel_rfl) (fun _ _ _ h => h) (Or.inl ⟨by rfl, ?_⟩) (by assumption) ?_; rotate_left; · (intro wq hSq; have hq := HCW.out wq hSq; go_split_ands; go_simp; (try with_reducible rfl))
        try simp only [Act.put, getElem_toArray, getElem_cons_zero, getElem_cons_succ, setIfInBounds_toArray, set_cons_zero, set_cons_succ]
        refine wpAnyH_take (i := 21) (v := ?_) rfl (by kernel_rfl) (by kernel_rfl) (by kernel_rfl) (fun _ _ _ h => h) (Or.inl ⟨by rfl, ?_⟩) (by assumption) ?_; rotate_left; · (intro wq hSq; have hq := HCW.out wq hSq; go_split_ands; go_simp; (try with_reducible rfl))
        try simp only [Act.put, getElem_toArray, getElem_cons_zero, getElem_cons_succ, setIfInBounds_toArray, set_cons_zero, set_cons_succ]
        refine wpAnyH_take (i := 22) (v := ?_) rfl (by kernel_rfl) (by kernel_rfl) (by kernel_rfl) (fun _ _ _ h => h) (Or.inl ⟨by rfl, ?_⟩) (by assumption) ?_; rotate_left; · (intro wq hSq; have hq := HCW.out wq hSq; go_split_ands; go_simp; (try with_reducible rfl))
        try simp only [Act.put, getElem_toArray, getElem_cons_zero, getElem_cons_succ, setIfInBounds_toArray, set_cons_zero, set_cons_succ]
        by_cases he1 : y1 = x1
        · subst he1
          have b1 : (y1 == y1) = true := by simp
          refine wpAnyH_take (i := 23) (v := ?_) rfl (by kernel_rfl) (by kernel_rfl) (by kernel_rfl) (fun _ _ _ h => h) (Or.inl ⟨by rfl, ?_⟩) (by assumption) ?_; rotate_left; · (intro wq hSq; (try dsimp only at hSq); go_split_ands; go_simp; (try with_reducible rfl))
          try simp only [Act.put, getElem_toArray, getElem_cons_zero, getElem_cons_succ, setIfInBounds_toArray, set_cons_zero, set_cons_succ]
          refine wpAnyH_done (by kernel_rfl) ?_ _
          have HH := Lib.hid hHeld
          clear hHeld
          go_wp2_with fail
          go_ret
          exact ⟨by rw [HCO.out]; simp [samePl], HF.out.trans' HH.out⟩
        · have b1 : (y1 == x1) = false := by simpa using he1
          refine wpAnyH_take (i := 23) (v := ?_) rfl (by kernel_rfl) (by kernel_rfl) (by kernel_rfl) (fun _ _ _ h => h) (Or.inl ⟨by rfl, ?_⟩) (by assumption) ?_; rotate_left; · (intro wq hSq; (try dsimp only at hSq); go_split_ands; go_simp; (try with_reducible rfl))
          try simp only [Act.put, getElem_toArray, getElem_cons_zero, getElem_cons_succ, setIfInBounds_toArray, set_cons_zero, set_cons_succ]
          refine wpAnyH_done (by kernel_rfl) ?_ _
          have HH := Lib.hid hHeld
          clear hHeld
          go_wp2_with fail
          go_roundw
          case rel => exact ⟨k + 1, HKL.out, by go_num, by rw [HCO.out]; simp [samePl, b1], HF.out.trans' HH.out⟩
          case measure => have := HKL.out; simp [intOf]; omega
      · have b0 : (y0 == x0) = false := by simpa using he
        refine wp_region_held_drew (S := fun W => Frm (fun _ => False) wr W) (by kernel_rfl) ((Frm.refl _ _).drew) (fun hHeld => ?_)
        refine wpAnyH_take (i := 0) (v := ?_) rfl (by kernel_rfl) (by kernel_rfl) (by kernel_rfl) (fun _ _ _ h => h) (Or.inl ⟨by rfl, ?_⟩) (by assumption) ?_; rotate_left; · (intro wq hSq; have hq := HCW.out wq hSq; go_split_ands; go_simp; (try with_reducible rfl))
        try simp only [Act.put, getElem_toArray, getElem_cons_zero, getElem_cons_succ, setIfInBounds_toArray, set_cons_zero, set_cons_succ]
        refine wpAnyH_take (i := 1) (v := ?_) rfl (by kernel_rfl) (by kernel_rfl) (by kernel_rfl) (fun _ _ _ h => h) (Or.inl ⟨by rfl, ?_⟩) (by assumption) ?_; rotate_left; · (intro wq hSq; have hq := HCW.out wq hSq; go_split_ands; go_simp; (try with_reducible rfl))
        try simp only [Act.put, getElem_toArray, getElem_cons_zero, getElem_cons_succ, setIfInBounds_toArray, set_cons_zero, set_cons_succ]
        refine wpAnyH_take (i := 2) (v := ?_) rfl (by kernel_rfl) (by kernel_rfl) (by kernel_rfl) (fun _ _ _ h => h) (Or.inl ⟨by rfl, ?_⟩) (by assumption) ?_; rotate_left; · (intro wq hSq; have hq := HCW.out wq hSq; go_split_ands; go_simp; (try with_reducible rfl))
        try simp only [Act.put, getElem_toArray, getElem_cons_zero, getElem_cons_succ, setIfInBounds_toArray, set_cons_zero, set_cons_succ]
        refine wpAnyH_take (i := 3) (v := ?_) rfl (by kernel_rfl) (by kernel_rfl) (by kernel_rfl) (fun _ _ _ h => h) (Or.inl ⟨by rfl, ?_⟩) (by assumption) ?_; rotate_left; · (intro wq hSq; have hq := HCW.out wq hSq; go_split_ands; go_simp; (try with_reducible rfl))
        try simp only [Act.put, getElem_toArray, getElem_cons_zero, getElem_cons_succ, setIfInBounds_toArray, set_cons_zero, set_cons_succ]
        refine wpAnyH_take (i := 4) (v := ?_) rfl (by kernel_rfl) (by kernel_rfl) (by kernel_rfl) (fun _ _ _ h => h) (Or.inl ⟨by rfl, ?_⟩) (by assumption) ?_; rotate_left; · (intro wq hSq; have hq := HCW.out wq hSq; go_split_ands; go_simp; (try with_reducible rfl))
        try simp only [Act.put, getElem_toArray, getElem_cons_zero, getElem_cons_succ, setIfInBounds_toArray, set_cons_zero, set_cons_succ]
        refine wpAnyH_take (i := 5) (v := ?_) rfl (by kernel_rfl) (by kernel_rfl) (by kernel_rfl) (fun _ _ _ h => h) (Or.inl ⟨by rfl, ?_⟩) (by assumption) ?_; rotate_left; · (intro wq hSq; have hq := HCW.out wq hSq; go_split_ands; go_simp; (try with_reducible rfl))
        try simp only [Act.put, getElem_toArray, getElem_cons_zero, getElem_cons_succ, setIfInBounds_toArray, set_cons_zero, set_cons_succ]
        refine wpAnyH_take (i := 6) (v := ?_) rfl (by kernel_rfl) (by kernel_rfl) (by kernel_rfl) (fun _ _ _ h => h) (Or.inl ⟨by rfl, ?_⟩) (by assumption) ?_; rotate_left; · (intro wq hSq; have hq := HCW.out wq hSq; go_split_ands; go_simp; (try with_reducible rfl))
        try simp only [Act.put, getElem_toArray, getElem_cons_zero, getElem_cons_succ, setIfInBounds_toArray, set_cons_zero, set_cons_succ]
        refine wpAnyH_take (i := 7) (v := ?_) rfl (by kernel_rfl) (by kernel_rfl) (by kernel_rfl) (fun _ _ _ h => h) (Or.inl ⟨by rfl, ?_⟩) (by assumption) ?_; rotate_left; · (intro wq hSq; have hq := HCW.out wq hSq; go_split_ands; go_simp; (try with_reducible rfl))
        try simp only [Act.put, getElem_toArray, getElem_cons_zero, getElem_cons_succ, setIfInBounds_toArray, set_cons_zero, set_cons_succ]
        refine wpAnyH_take (i := 8) (v := ?_) rfl (by kernel_rfl) (by kernel_rfl) (by kernel_rfl) (fun _ _ _ h => h) (Or.inl ⟨by rfl, ?_⟩) (by assumption) ?_; rotate_left; · (intro wq hSq; have hq := HCW.out wq hSq; go_split_ands; go_simp; (try with_reducible rfl))
        try simp only [Act.put, getElem_toArray, getElem_cons_zero, getElem_cons_succ, setIfInBounds_toArray, set_cons_zero, set_cons_succ]
        refine wpAnyH_take (i := 9) (v := ?_) rfl (by kernel_rfl) (by kernel_rfl) (by kernel_rfl) (fun _ _ _ h => h) (Or.inl ⟨by rfl, ?_⟩) (by assumption) ?_; rotate_left; · (intro wq hSq; have hq := HCW.out wq hSq; go_split_ands; go_simp; (try with_reducible rfl))
        try simp only [Act.put, getElem_toArray, getElem_cons_zero, getElem_cons_succ, setIfInBounds_toArray, set_cons_zero, set_cons_succ]
        refine wpAnyH_take (i := 10) (v := ?_) rfl (by kernel_rfl) (by kernel_rfl) (by kernel_rfl) (fun _ _ _ h => h) (Or.inl ⟨by rfl, ?_⟩) (by assumption) ?_; rotate_left; · (intro wq hSq; have hq := HCW.out wq hSq; go_split_ands; go_simp; (try with_reducible rfl))
        try simp only [Act.put, getElem_toArray, getElem_cons_zero, getElem_cons_succ, setIfInBounds_toArray, set_cons_zero, set_cons_succ]
        refine wpAnyH_take (i := 11) (v := ?_) rfl (by kernel_rfl) (by kernel_rfl) (by kernel_rfl) (fun _ _ _ h => h) (Or.inl ⟨by rfl, ?_⟩) (by assumption) ?_; rotate_left; · (intro wq hSq; have hq := HCW.out wq hSq; go_split_ands; go_simp; (try with_reducible rfl))
        try simp only [Act.put, getElem_toArray, getElem_cons_zero, getElem_cons_succ, setIfInBounds_toArray, set_cons_zero, set_cons_succ]
        refine wpAnyH_take (i := 12) (v := undef) rfl (by kernel_rfl) (by kernel_rfl) (by kernel_rfl) (fun _ _ _ h => h) (Or.inr ⟨by rfl, rfl⟩) (by assumption) ?_
        try simp only [Act.put, getElem_toArray, getElem_cons_zero, getElem_cons_succ, setIfInBounds_toArray, set_cons_zero, set_cons_succ]
        refine wpAnyH_take (i := 13) (v := undef) rfl (by kernel_rfl) (by kernel_rfl) (by kernel_rfl) (fun _ _ _ h => h) (Or.inr ⟨by rfl, rfl⟩) (by assumption) ?_
        try simp only [Act.put, getElem_toArray, getElem_cons_zero, getElem_cons_succ, setIfInBounds_toArray, set_cons_zero, set_cons_succ]
        refine wpAnyH_take (i := 14) (v := undef) rfl (by kernel_rfl) (by kernel_rfl) (by kernel_rfl) (fun _ _ _ h => h) (Or.inr ⟨by rfl, rfl⟩) (by assumption) ?_
        try simp only [Act.put, getElem_toArray, getElem_cons_zero, getElem_cons_succ, setIfInBounds_toArray, set_cons_zero, set_cons_succ]
        refine wpAnyH_take (i := 15) (v := undef) rfl (by kernel_rfl) (by kernel_rfl) (by kernel_rfl) (fun _ _ _ h => h) (Or.inr ⟨by rfl, rfl⟩) (by assumption) ?_
        try simp only [Act.put, getElem_toArray, getElem_cons_zero, getElem_cons_succ, setIfInBounds_toArray, set_cons_zero, set_cons_succ]
        refine wpAnyH_take (i := 16) (v := undef) rfl (by kernel_rfl) (by kernel_rfl) (by kernel_rfl) (fun _ _ _ h => h) (Or.inr ⟨by rfl, rfl⟩) (by assumption) ?_
        try simp only [Act.put, getElem_toArray, getElem_cons_zero, getElem_cons_succ, setIfInBounds_toArray, set_cons_zero, set_cons_succ]
        refine wpAnyH_take (i := 17) (v := undef) rfl (by kernel_rfl) (by kernel_rfl) (by kernel_rfl) (fun _ _ _ h => h) (Or.inr ⟨by rfl, rfl⟩) (by assumption) ?_
        try simp only [Act.put, getElem_toArray, getElem_cons_zero, getElem_cons_succ, setIfInBounds_toArray, set_cons_zero, set_cons_succ]
        refine wpAnyH_take (i := 18) (v := undef) rfl (by kernel_rfl) (by kernel_rfl) (by kernel_rfl) (fun _ _ _ h => h) (Or.inr ⟨by rfl, rfl⟩) (by assumption) ?_
        try simp only [Act.put, getElem_toArray, getElem_cons_zero, getElem_cons_succ, setIfInBounds_toArray, set_cons_zero, set_cons_succ]
        refine wpAnyH_take (i := 19) (v := undef) rfl (by kernel_rfl) (by kernel_rfl) (by kernel_rfl) (fun _ _ _ h => h) (Or.inr ⟨by rfl, rfl⟩) (by assumption) ?_
        try simp only [Act.put, getElem_toArray, getElem_cons_zero, getElem_cons_succ, setIfInBounds_toArray, set_cons_zero, set_cons_succ]
        refine wpAnyH_take (i := 20) (v := undef) rfl (by kernel_rfl) (by kernel_rfl) (by kernel_rfl) (fun _ _ _ h => h) (Or.inr ⟨by rfl, rfl⟩) (by assumption) ?_
        try simp only [Act.put, getElem_toArray, getElem_cons_zero, getElem_cons_succ, setIfInBounds_toArray, set_cons_zero, set_cons_succ]
        refine wpAnyH_take (i := 21) (v := undef) rfl (by kernel_rfl) (by kernel_rfl) (by kernel_rfl) (fun _ _ _ h => h) (Or.inr ⟨by rfl, rfl⟩) (by assumption) ?_
        try simp only [Act.put, getElem_toArray, getElem_cons_zero, getElem_cons_succ, setIfInBounds_toArray, set_cons_zero, set_cons_succ]
        refine wpAnyH_take (i := 22) (v := undef) rfl (by kernel_rfl) (by kernel_rfl) (by kernel_rfl) (fun _ _ _ h => h) (Or.inr ⟨by rfl, rfl⟩) (by assumption) ?_
        try simp only [Act.put, getElem_toArray, getElem_cons_zero, getElem_cons_succ, setIfInBounds_toArray, set_cons_zero, set_cons_succ]
        refine wpAnyH_take (i := 23) (v := ?_) rfl (by kernel_rfl) (by kernel_rfl) (by kernel_rfl) (fun _ _ _ h => h) (Or.inl ⟨by rfl, ?_⟩) (by assumption) ?_; rotate_left; · (intro wq hSq; (try dsimp only at hSq); go_split_ands; go_simp; (try with_reducible rfl))
        try simp only [Act.put, getElem_toArray, getElem_cons_zero, getElem_cons_succ, setIfInBounds_toArray, set_cons_zero, set_cons_succ]
        refine wpAnyH_done (by kernel_rfl) ?_ _
        have HH := Lib.hid hHeld
        clear hHeld
        go_wp2_with fail
        go_roundw
        case rel => exact ⟨k + 1, HKL.out, by go_num, by rw [HCO.out]; simp [samePl, b0], HF.out.trans' HH.out⟩
        case measure => have := HKL.out; simp [intOf]; omega
    · have hkn : k = xs.length := by omega
      subst hkn
      rw [List.drop_length] at hcode
      have HF := Lib.hid hF
      have HCD := Lib.hid hcode
      clear hF hcode
      go_wp2_with fail
      go_ret
      exact ⟨by rw [HCD.out]; rfl, HF.out⟩
end Go.Proofs.Ytmkkeglcjbogcaa
