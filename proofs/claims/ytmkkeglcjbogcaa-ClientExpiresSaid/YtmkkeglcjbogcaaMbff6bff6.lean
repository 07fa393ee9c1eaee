/-
  An item read of bytes. The client begins to write, or to read; it gives up; what came of it. Items written: low32, Encode. Encode's walk.
-/
import Derived.Deep.RegionLaw
import Derived.Deep.DeepCutAuto
import Derived.Test.YtmkkeglcjbogcaaM6fad0cc9
import Derived.Test.YtmkkeglcjbogcaaM7d461c19
set_option linter.unusedVariables false
set_option linter.unusedSimpArgs false
namespace Go.Proofs.Ytmkkeglcjbogcaa
open Go.RowKit
set_option linter.unusedVariables false

def CloneP (bs : List UInt8) (w : World) (e : Ending) (w' : World) : Prop := ∃ v, e = .returned v ∧ Own8 w.heap.size w' v bs ∧ Frm (fun _ => False) w w'

set_option maxRecDepth 100000 in
set_option maxHeartbeats 1000000 in
theorem clone_any (v : Value) (bs : List UInt8) (w : World) (h : BytesAt w v bs) (hl : bs.length ≤ 140737488351232) :
    Calls Try.prog 65 #[v] w (CloneP bs w) := by
  obtain ⟨A, cap, rfl, h1, h2, hn⟩ := h.open_
  have HN := Lib.hid hn
  have hm3 : bs.length ≤ maxLen := by unfold maxLen; omega
  have hm4 : bs.length * 1 ≤ 140737488355328 := by omega
  have HONEB := Lib.hid (oneB bs)
  have HLEN : Hid ((bs.map encB).length = bs.length * 1) := by unfold Hid; simp
  have HEMP := Lib.hid (empty_row w 5 1 w.heap.size (Nat.le_refl _))
  clear hn h
  cases A with
  | none =>
    have h0 : bs = [] := by
      cases bs with
      | nil => rfl
      | cons b r => obtain ⟨g, off, e, _⟩ := HN.out (by simp); cases e
    subst h0
    go_enter Try.func65, Try.ntmps65
    have hnil := Lib.run_eql_slice_nil (P := Try.prog) w 22 5 none 0 cap 0 0 Try.underlying22
    go_wp2_with fail
    go_ret
    exact ⟨_, rfl, World.ownsRow_nil _ _ _ _, Frm.refl _ _⟩
  | some a =>
    have hnil := Lib.run_eql_slice_nil (P := Try.prog) w 22 5 (some a) bs.length cap 0 0 Try.underlying22
    go_enter Try.func65, Try.ntmps65
    go_wp2_with (at_builtin; refine wpl_clone rfl el_u8 _ _ rfl rfl rfl (B := w.heap.size) (news := bs.map encB) (Frm.row (S := fun _ => False) (by (repeat' (first | (with_reducible exact Frm.refl _ _) | (with_reducible assumption) | (with_reducible refine Frm.alloc ?_ _) | (with_reducible refine Frm.drew ?_) | (with_reducible refine Frm.drewN ?_ _) | (with_reducible refine Frm.set1 ?_ _) | (with_reducible refine Frm.setCell ?_ ?_ _) | (exact fun h => absurd h (Nat.lt_irrefl _)) | (intro hlt; simp [World.size_alloc, One] at hlt ⊢; omega)))) HEMP.out (fun _ _ h => h)) HLEN.out (fun h0 => (HN.out h0).grow (by (repeat' (first | (with_reducible exact Frm.refl _ _) | (with_reducible assumption) | (with_reducible refine Frm.alloc ?_ _) | (with_reducible refine Frm.drew ?_) | (with_reducible refine Frm.drewN ?_ _) | (with_reducible refine Frm.set1 ?_ _) | (with_reducible refine Frm.setCell ?_ ?_ _) | (exact fun h => absurd h (Nat.lt_irrefl _)) | (intro hlt; simp [World.size_alloc, One] at hlt ⊢; omega))))) HONEB.out hm3 hm4 (by simp) ?_; intro A3 cap3 w3 hown3 hfr3)
    go_ret
    exact ⟨_, rfl, hown3, Frm.trans (b := _) (by (repeat' (first | (with_reducible exact Frm.refl _ _) | (with_reducible assumption) | (with_reducible refine Frm.alloc ?_ _) | (with_reducible refine Frm.drew ?_) | (with_reducible refine Frm.drewN ?_ _) | (with_reducible refine Frm.set1 ?_ _) | (with_reducible refine Frm.setCell ?_ ?_ _) | (exact fun h => absurd h (Nat.lt_irrefl _)) | (intro hlt; simp [World.size_alloc, One] at hlt ⊢; omega)))) hfr3 (fun i hi h => by cases h; exact absurd hi (Nat.lt_irrefl _))⟩

def ItemCut (w : World) (idx sub : Int) (p : Value) (wx : World) : Prop :=
  p = .pointer (some ⟨w.heap.size + 1, 0, none⟩) ∧ wx.heap[w.heap.size]? = some (.cells #[.int .u16 0, .int .u8 0, .slice none 0 0] 121 (0, 0)) ∧ wx.heap[w.heap.size + 1]? = some (.cells #[.int .u16 idx, .int .u8 sub, .slice none 0 0] 121 (0, 0)) ∧ Frm (fun _ => False) w wx

/-- Three results, the first a variable that lies in memory. -/
theorem ret_item {fn : Func} {p u v : Tmp} (h : fn.results = #[.cell p 121, .tmp u, .tmp v]) (tmps : Array Value) (w : World) (g : Nat) (x y z : Value)
    (hp : tmps.getD p undef = .pointer (some ⟨g, 0, none⟩)) (hg : w.heap[g]? = some (.cells #[x, y, z] 121 (0, 0))) :
    (results fn tmps).run Try.prog w = .ok (.tuple #[.agg #[x, y, z], tmps.getD u undef, tmps.getD v undef]) w := by
  have hp' : tmps[p]?.getD undef = .pointer (some ⟨g, 0, none⟩) := by simpa using hp
  simp [results, h, hp', asAddr, run_loadVar_row w g 121 121 #[x, y, z] (0, 0) _ hg Try.underlying121 rfl (by kernel_rfl)]

/-- What reading an item answers: its place, how long it is, the bytes behind its head. -/
def ItemPost (ob : Option Nat) (idx sub n : Int) (bs : List UInt8) (w : World) (e : Ending) (w' : World) : Prop :=
  Frm (fun _ => False) w w' ∧
    if 65536 < n then ∃ i s v, e = .returned (.tuple #[.agg #[.int .u16 i, .int .u8 s, .slice none 0 0], v, .int .i64 2]) else if (bs.length : Int) < n then ∃ i s v, e = .returned (.tuple #[.agg #[.int .u16 i, .int .u8 s, .slice none 0 0], v, .int .i64 3]) else
    ∃ vb vr, e = .returned (.tuple #[.agg #[.int .u16 idx, .int .u8 sub, vb], vr, .int .i64 0]) ∧ Own8 w.heap.size w' vb (bs.take n.toNat) ∧ BytesAt w' vr (bs.drop n.toNat) ∧ vr.ownBlock = ob

set_option maxRecDepth 100000 in
set_option maxHeartbeats 1000000 in
theorem item_long (v : Value) (bs : List UInt8) (w : World) (h : BytesAt w v bs) (h7 : 7 ≤ bs.length) (hl : bs.length ≤ 140737488351232) :
    Calls Try.prog 56 #[v] w (ItemPost v.ownBlock (numOf (bs.take 2)) (bs[2].toNat : Int) (numOf ((bs.drop 3).take 4)) (bs.drop 7) w) := by
  obtain ⟨A, cap, rfl, h1, h2, hc⟩ := bytes_cell h
  obtain ⟨g, off, rfl, hc2⟩ := hc (by omega)
  have hm : bs.length ≤ 9223372036854775807 := Nat.le_trans h1 h2
  have c0 : w.cell? ⟨g, off, none⟩ = some (.int .u8 (bs[0].toNat : Int)) := hc2 0 (by omega)
  have c1 : w.cell? ⟨g, off + 1, none⟩ = some (.int .u8 (bs[1].toNat : Int)) := hc2 1 (by omega)
  have c2 : w.cell? ⟨g, off + 2, none⟩ = some (.int .u8 (bs[2].toNat : Int)) := hc2 2 (by omega)
  have b0 := bs[0].toNat_lt
  have b1 := bs[1].toNat_lt
  have b2 := bs[2].toNat_lt
  have hg : g < w.heap.size := World.block_lt_of_cell? w _ c0
  have hg1 : g < w.heap.size + 1 := by omega
  have H := Lib.hid h
  clear h hc hc2
  unfold maxLen at h2
  go_enter Try.func56, Try.ntmps56
  go_upto_region 3 with fail
  have hidx : bits BinOp.or IntKind.u16 (IntKind.u16.wrap (bs[0].toNat : Int)) (IntKind.u16.wrap (IntKind.u16.wrap (bs[1].toNat : Int) * 256)) = numOf (bs.take 2) := by
    have e0 : IntKind.u16.wrap (bs[0].toNat : Int) = (bs[0].toNat : Int) := by rw [IntKind.wrap_u16]; omega
    have e1 : IntKind.u16.wrap (bs[1].toNat : Int) = (bs[1].toNat : Int) := by rw [IntKind.wrap_u16]; omega
    have e2 : IntKind.u16.wrap ((bs[1].toNat : Int) * 256) = (bs[1].toNat : Int) * 256 := by rw [IntKind.wrap_u16]; omega
    rw [e0, e1, e2, le16_sum _ _ b0 b1]
    clear e0 e1 e2
    clear c0 c1 c2 b0 b1 b2 H
    obtain ⟨x, y, r, rfl⟩ : ∃ x y r, bs = x :: y :: r := by
      match bs, h7 with
      | x :: y :: r, _ => exact ⟨x, y, r, rfl⟩
    simp [numOf]
  have hsub0 : (bs[2].toNat : Int) ≤ 255 := by omega
  have hk0 : (bs[0].toNat : Int) ≤ 255 := by omega
  have hk1 : (bs[1].toNat : Int) ≤ 255 := by omega
  have HIDX := Lib.hid hidx
  have l0n : 0 < bs.length := by omega
  have l0 : (0 : Int) < (bs.length : Int) := by omega
  have l1 : (1 : Int) < (bs.length : Int) := by omega
  have l2 : (2 : Int) < (bs.length : Int) := by omega
  clear hidx
  go_cut [5] (fun p wx => ItemCut w (numOf (bs.take 2)) (bs[2].toNat : Int) p wx)
  case first =>
    go_region_law (fail)
    all_goals
      go_wp2_with fail
      go_meet
      unfold ItemCut
      rw [HIDX.out]
      refine ⟨rfl, ?_, ?_, by (repeat' (first | (with_reducible exact Frm.refl _ _) | (with_reducible assumption) | (with_reducible refine Frm.alloc ?_ _) | (with_reducible refine Frm.drew ?_) | (with_reducible refine Frm.drewN ?_ _) | (with_reducible refine Frm.set1 ?_ _) | (with_reducible refine Frm.setCell ?_ ?_ _) | (exact fun h => absurd h (Nat.lt_irrefl _)) | (intro hlt; simp [World.size_alloc, One] at hlt ⊢; omega)))⟩
      · (apply heap_fin; (case h => (repeat (first | (with_reducible exact heap_new _ _) | (with_reducible apply heap_alloc_old) | (with_reducible apply heap_drewN') | (with_reducible apply heap_drew') | (with_reducible apply heap_set_same) | (with_reducible refine heap_set_other ?_ (by simp only []; omega)) | (with_reducible exact heap_new_at (by simp))))); (case e => rfl))
      · (apply heap_fin; (case h => (repeat (first | (with_reducible exact heap_new_at (by simp)) | (with_reducible apply heap_alloc_old) | (with_reducible apply heap_drewN') | (with_reducible apply heap_drew') | (with_reducible apply heap_set_same) | (with_reducible refine heap_set_other ?_ (by simp only []; omega)) | (with_reducible exact heap_new_at (by simp))))); (case e => rfl))
  case rest =>
    obtain ⟨rfl, ht2, ht5, hF⟩ := hcut
    have HB : Hid (BytesAt wc (.slice (some ⟨g, off, none⟩) bs.length cap) bs) := H.out.grow hF
    have h2sz := lt_of_block ht2
    have h5sz := lt_of_block ht5
    have hft2 := frees ht2
    have hft5 := frees ht5
    have HF := Lib.hid hF
    clear hF
    obtain ⟨wo, hwo⟩ : ∃ wo : World, wo = wc := ⟨_, rfl⟩
    subst hwo
    have hn0 := numOf_bound ((bs.drop 3).take 4)
    have hn4 : ((bs.drop 3).take 4).length = 4 := by simp; omega
    rw [hn4] at hn0
    obtain ⟨hn0, hn1⟩ := hn0
    have hn1 : numOf ((bs.drop 3).take 4) < 4294967296 := by simpa using hn1
    have HR := Lib.hid (read32_any _ (bs.drop 3) wo (HB.out.sub 3 (by omega)) (by simp; omega))
    obtain ⟨n, hn⟩ : ∃ n, n = numOf ((bs.drop 3).take 4) := ⟨_, rfl⟩
    rw [← hn] at hn0 hn1 HR
    have HNE := Lib.hid hn
    clear hn
    have hc7 : 7 ≤ cap := by omega
    have d0 : wo.cell? ⟨w.heap.size + 1, 0, none⟩ = some (.int .u16 (numOf (bs.take 2))) := cell_at ht5
    have d1 : wo.cell? ⟨w.heap.size + 1, 1, none⟩ = some (.int .u8 (bs[2].toNat : Int)) := cell_at ht5
    have d2 : wo.cell? ⟨w.heap.size + 1, 2, none⟩ = some (.slice none 0 0) := cell_at ht5
    have f0 : wo.cell? ⟨w.heap.size, 0, none⟩ = some (.int .u16 0) := cell_at ht2
    have f1 : wo.cell? ⟨w.heap.size, 1, none⟩ = some (.int .u8 0) := cell_at ht2
    have f2 : wo.cell? ⟨w.heap.size, 2, none⟩ = some (.slice none 0 0) := cell_at ht2
    have HT2 := Lib.hid ht2
    have HT5 := Lib.hid ht5
    clear ht2 ht5
    obtain ⟨idx, hix⟩ : ∃ n, n = numOf (bs.take 2) := ⟨_, rfl⟩
    obtain ⟨sub, hsb⟩ : ∃ n : Int, n = (bs[2].toNat : Int) := ⟨_, rfl⟩
    rw [← hix] at d0 HT5
    rw [← hsb] at d1 HT5
    have HIX := Lib.hid hix
    have HSB := Lib.hid hsb
    clear hix hsb
    go_upto_region 5 with (go_at_call 55; refine HR.out.mono ?_; rintro e w3 ⟨rfl, m, rfl⟩)
    go_cut [0] (fun v wx => ∃ o2 c2 N : Nat, N = bs.length - 7 ∧ v = .slice (some ⟨g, o2, none⟩) N c2 ∧ N ≤ c2 ∧ c2 ≤ 9223372036854775807 ∧ BytesAt wx v (bs.drop 7) ∧ wx = wo.drewN m)
    case first =>
      by_cases hcap : cap = 7
      · have hb7 : bs.length = 7 := by omega
        subst hcap
        have hd : bs.drop 7 = [] := List.drop_eq_nil_of_le (by omega)
        go_wp2_with fail
        go_meet
        rw [hd]
        exact ⟨off, 0, 0, by omega, rfl, by omega, by omega, ⟨_, 0, rfl, Nat.le_refl _, by unfold maxLen; omega, fun h => absurd h (by simp)⟩, rfl⟩
      · go_wp2_with fail
        go_meet
        exact ⟨_, _, _, rfl, rfl, by omega, by omega, (HB.out.sub 7 h7).grow (by (repeat' (first | (with_reducible exact Frm.refl _ _) | (with_reducible assumption) | (with_reducible refine Frm.alloc ?_ _) | (with_reducible refine Frm.drew ?_) | (with_reducible refine Frm.drewN ?_ _) | (with_reducible refine Frm.set1 ?_ _) | (with_reducible refine Frm.setCell ?_ ?_ _) | (exact fun h => absurd h (Nat.lt_irrefl _)) | (intro hlt; simp [World.size_alloc, One] at hlt ⊢; omega)))), rfl⟩
    case rest =>
      obtain ⟨o2, c2, N, hN, rfl, hcc2, hcc3, hB7, rfl⟩ := hcut
      have HB7 := Lib.hid hB7
      clear hB7
      have hlen7 : (bs.drop 7).length = N := by simp; omega
      have HL7 := Lib.hid hlen7
      have HNN := Lib.hid hN
      have hNl : N ≤ 140737488351232 := by omega
      clear hlen7 hN
      by_cases hbig : 65536 < n
      · go_wp2_with fail
        refine bodyPost_ret (ret_item rfl _ _ w.heap.size (.int .u16 idx) (.int .u8 sub) (.slice none 0 0) rfl (by (apply heap_fin; (case h => (repeat (first | (with_reducible exact HT2.out) | (with_reducible apply heap_alloc_old) | (with_reducible apply heap_drewN') | (with_reducible apply heap_drew') | (with_reducible apply heap_set_same) | (with_reducible refine heap_set_other ?_ (by simp only []; omega)) | (with_reducible exact heap_new_at (by simp))))); (case e => rfl)))) rfl ?_
        rw [← HNE.out]
        have hF := HF.out
        refine ⟨by ((repeat' (first | (with_reducible exact Frm.refl _ _) | (with_reducible assumption) | (with_reducible refine Frm.alloc ?_ _) | (with_reducible refine Frm.drew ?_) | (with_reducible refine Frm.drewN ?_ _) | (with_reducible refine Frm.set1 ?_ _) | (with_reducible refine Frm.setCell ?_ ?_ _) | (exact fun h => absurd h (Nat.lt_irrefl _)) | (intro hlt; simp [World.size_alloc, One] at hlt ⊢; omega)))) <;> exact fun h => absurd h (Nat.lt_irrefl _), ?_⟩
        rw [if_pos hbig]
        exact ⟨_, _, _, rfl⟩
      · have hnn : n ≤ 65536 := by omega
        by_cases hsh : (N : Int) < n
        · have hbn : (65536 : Int) < n → False := by omega
          clear hbig
          go_wp2_with fail
          refine bodyPost_ret (ret_item rfl _ _ w.heap.size (.int .u16 idx) (.int .u8 sub) (.slice none 0 0) rfl (by (apply heap_fin; (case h => (repeat (first | (with_reducible exact HT2.out) | (with_reducible apply heap_alloc_old) | (with_reducible apply heap_drewN') | (with_reducible apply heap_drew') | (with_reducible apply heap_set_same) | (with_reducible refine heap_set_other ?_ (by simp only []; omega)) | (with_reducible exact heap_new_at (by simp))))); (case e => rfl)))) rfl ?_
          rw [← HNE.out]
          have hF := HF.out
          refine ⟨by ((repeat' (first | (with_reducible exact Frm.refl _ _) | (with_reducible assumption) | (with_reducible refine Frm.alloc ?_ _) | (with_reducible refine Frm.drew ?_) | (with_reducible refine Frm.drewN ?_ _) | (with_reducible refine Frm.set1 ?_ _) | (with_reducible refine Frm.setCell ?_ ?_ _) | (exact fun h => absurd h (Nat.lt_irrefl _)) | (intro hlt; simp [World.size_alloc, One] at hlt ⊢; omega)))) <;> exact fun h => absurd h (Nat.lt_irrefl _), ?_⟩
          rw [if_neg (fun h => hbn h), if_pos (by rw [HL7.out]; omega)]
          exact ⟨_, _, _, rfl⟩
        · have hsh2 : n ≤ (N : Int) := by omega
          clear hsh hbig
          go_upto_region 10 with fail
          obtain ⟨k, hk⟩ : ∃ k : Nat, (k : Int) = n := ⟨n.toNat, by omega⟩
          subst hk
          have hs1 := slice_to (W := wo.drewN m) g o2 N c2 k (by omega)
          have hs2 := fun W => slice_from W g o2 N c2 k (by omega) (by omega)
          have HS2 := Lib.hid hs2
          clear hs2
          have hkl : ((bs.drop 7).take k).length = k := by rw [List.length_take, HL7.out]; omega
          have hcl : Calls Try.prog 65 #[.slice (some ⟨g, o2, none⟩) k c2] (wo.drewN m) fun e w' => ∃ A cap, e = .returned (.slice A k cap) ∧ Own8 w.heap.size w' (.slice A k cap) ((bs.drop 7).take k) ∧ Frm (fun _ => False) (wo.drewN m) w' :=
            (clone_any _ ((bs.drop 7).take k) _ (HB7.out.pre HL7.out k (by rw [HL7.out]; omega)) (by rw [hkl]; omega)).mono (by
              rintro e w' ⟨v, rfl, hO, hF⟩
              obtain ⟨A, cap, rfl, _⟩ := row_open hO
              have hO2 : Own8 w.heap.size w' (.slice A ((bs.drop 7).take k).length cap) ((bs.drop 7).take k) := row_base hO (HF.out.size)
              rw [show Value.slice A ((bs.drop 7).take k).length cap = .slice A k cap by rw [hkl]] at hO2 ⊢
              exact ⟨A, cap, rfl, hO2, hF⟩)
          have HKL := Lib.hid hkl
          have HCL := Lib.hid hcl
          have HKN : Hid (k ≤ N ∧ (k : Int) ≤ 65536) := ⟨by omega, hnn⟩
          clear hkl hcl
          go_wp2_with fail
          refine HCL.out.mono ?_
          rintro e w4 ⟨Ab, cb, rfl, hOwn, hF4⟩
          have hF4' : Frm (fun _ => False) wo w4 := Frm.trans' (by (repeat' (first | (with_reducible exact Frm.refl _ _) | (with_reducible assumption) | (with_reducible refine Frm.alloc ?_ _) | (with_reducible refine Frm.drew ?_) | (with_reducible refine Frm.drewN ?_ _) | (with_reducible refine Frm.set1 ?_ _) | (with_reducible refine Frm.setCell ?_ ?_ _) | (exact fun h => absurd h (Nat.lt_irrefl _)) | (intro hlt; simp [World.size_alloc, One] at hlt ⊢; omega)))) hF4
          have ht2 := hF4'.heap HT2.out (fun h => h)
          have ht5 := hF4'.heap HT5.out (fun h => h)
          have f0 : w4.cell? ⟨w.heap.size, 0, none⟩ = some (.int .u16 0) := cell_at ht2
          have f1 : w4.cell? ⟨w.heap.size, 1, none⟩ = some (.int .u8 0) := cell_at ht2
          have f2 : w4.cell? ⟨w.heap.size, 2, none⟩ = some (.slice none 0 0) := cell_at ht2
          have d0 : w4.cell? ⟨w.heap.size + 1, 0, none⟩ = some (.int .u16 idx) := cell_at ht5
          have d1 : w4.cell? ⟨w.heap.size + 1, 1, none⟩ = some (.int .u8 sub) := cell_at ht5
          have d2 : w4.cell? ⟨w.heap.size + 1, 2, none⟩ = some (.slice none 0 0) := cell_at ht5
          have hq2 := frees ht2
          have hq5 := frees ht5
          have hz2 := lt_of_block ht2
          have hz5 := lt_of_block ht5
          have HT2' := Lib.hid ht2
          have HT5' := Lib.hid ht5
          have HOWN := Lib.hid hOwn
          have HF4 := Lib.hid (HF.out.trans' hF4')
          have HB4 := Lib.hid (HB7.out.grow hF4)
          clear hs1 ht2 ht5 hOwn hF4 hF4'
          have hkn : ((k : Int) ≤ N) := hsh2
          clear hnn hsh2 hn0 hn1 hkn
          go_upto_region 11 with fail
          have hs2 := HS2.out
          go_region_law (fail)
          all_goals (go_wp2_with fail)
          all_goals
            refine bodyPost_ret (ret_item rfl _ _ w.heap.size (.int .u16 idx) (.int .u8 sub) (.slice Ab k cb) rfl (by (apply heap_fin; (case h => (repeat (first | (with_reducible exact HT2'.out) | (with_reducible apply heap_alloc_old) | (with_reducible apply heap_drewN') | (with_reducible apply heap_drew') | (with_reducible apply heap_set_same) | (with_reducible refine heap_set_other ?_ (by simp only []; omega)) | (with_reducible exact heap_new_at (by simp))))); (case e => rfl)))) rfl ?_
            rw [← HNE.out]
            have hF := HF4.out
            refine ⟨by ((repeat' (first | (with_reducible exact Frm.refl _ _) | (with_reducible assumption) | (with_reducible refine Frm.alloc ?_ _) | (with_reducible refine Frm.drew ?_) | (with_reducible refine Frm.drewN ?_ _) | (with_reducible refine Frm.set1 ?_ _) | (with_reducible refine Frm.setCell ?_ ?_ _) | (exact fun h => absurd h (Nat.lt_irrefl _)) | (intro hlt; simp [World.size_alloc, One] at hlt ⊢; omega)))) <;> exact fun h => absurd h (by simp only; omega), ?_⟩
            rw [if_neg (fun h => by have := HKN.out.2; omega), if_neg (fun h => by rw [HL7.out] at h; have := HKN.out.1; omega)]
            simp only [Int.toNat_natCast]
            have hfrom := HB4.out.from HL7.out k (by rw [HL7.out]; exact HKN.out.1)
            first | rw [if_pos (by assumption), show c2 - k = 0 by omega] at hfrom | rw [if_neg (by assumption)] at hfrom
            rw [← HIX.out, ← HSB.out]
            have hX := fun (W : World) (hF : Frm (fun j => j = w.heap.size ∨ j = w.heap.size + 1) w4 W) => Frm.row hF HOWN.out (fun j hj hs => by
              obtain ⟨_, cur, hc⟩ := row_block HOWN.out hj
              rcases hs with rfl | rfl
              · exact block_ne hc HT2'.out (by decide) rfl
              · exact block_ne hc HT5'.out (by decide) rfl)
            refine ⟨.slice Ab k cb, _, ?_, hX _ ?_, hfrom.frm (S := fun j => j = w.heap.size ∨ j = w.heap.size + 1) ?_ (fun j hj hs => ?_), rfl⟩
            · rfl
            · ((repeat' (first | (with_reducible exact Frm.refl _ _) | (with_reducible assumption) | (with_reducible refine Frm.alloc ?_ _) | (with_reducible refine Frm.drew ?_) | (with_reducible refine Frm.drewN ?_ _) | (with_reducible refine Frm.set1 ?_ _) | (with_reducible refine Frm.setCell ?_ ?_ _) | (exact fun h => absurd h (Nat.lt_irrefl _)) | (intro hlt; simp [World.size_alloc, One] at hlt ⊢; omega)))) <;> exact fun _ => by simp
            · ((repeat' (first | (with_reducible exact Frm.refl _ _) | (with_reducible assumption) | (with_reducible refine Frm.alloc ?_ _) | (with_reducible refine Frm.drew ?_) | (with_reducible refine Frm.drewN ?_ _) | (with_reducible refine Frm.set1 ?_ _) | (with_reducible refine Frm.setCell ?_ ?_ _) | (exact fun h => absurd h (Nat.lt_irrefl _)) | (intro hlt; simp [World.size_alloc, One] at hlt ⊢; omega)))) <;> exact fun _ => by simp
            · simp [Value.ownBlock] at hj
              omega

set_option maxRecDepth 100000 in
set_option maxHeartbeats 1000000 in
theorem item_short (v : Value) (bs : List UInt8) (w : World) (h : BytesAt w v bs) (h7 : bs.length < 7) :
    Calls Try.prog 56 #[v] w fun e w' => (∃ i s v, e = .returned (.tuple #[.agg #[.int .u16 i, .int .u8 s, .slice none 0 0], v, .int .i64 3])) ∧ Frm (fun _ => False) w w' := by
  obtain ⟨A, cap, rfl, h1, h2, hc⟩ := bytes_cell h
  clear hc h h1 h2
  go_enter Try.func56, Try.ntmps56
  go_wp2_with fail
  refine bodyPost_ret (ret_item rfl _ _ w.heap.size (.int .u16 0) (.int .u8 0) (.slice none 0 0) rfl (by (apply heap_fin; (case h => (repeat (first | (with_reducible exact heap_new _ _) | (with_reducible apply heap_alloc_old) | (with_reducible apply heap_drewN') | (with_reducible apply heap_drew') | (with_reducible apply heap_set_same) | (with_reducible refine heap_set_other ?_ (by simp only []; omega)) | (with_reducible exact heap_new_at (by simp))))); (case e => rfl)))) rfl ?_
  exact ⟨⟨_, _, _, rfl⟩, by ((repeat' (first | (with_reducible exact Frm.refl _ _) | (with_reducible assumption) | (with_reducible refine Frm.alloc ?_ _) | (with_reducible refine Frm.drew ?_) | (with_reducible refine Frm.drewN ?_ _) | (with_reducible refine Frm.set1 ?_ _) | (with_reducible refine Frm.setCell ?_ ?_ _) | (exact fun h => absurd h (Nat.lt_irrefl _)) | (intro hlt; simp [World.size_alloc, One] at hlt ⊢; omega)))) <;> exact fun h => absurd h (Nat.lt_irrefl _)⟩

end Go.Proofs.Ytmkkeglcjbogcaa
namespace Go.Proofs.Ytmkkeglcjbogcaa
open Go.RowKit
set_option linter.unusedVariables false
set_option linter.unusedSimpArgs false

set_option maxRecDepth 100000 in
theorem cnew_any (w : World) : Calls Try.prog 31 #[] w fun e w' => ∃ c M, e = .returned (ptr c) ∧ ClHas M w' c Cl.new ∧ Frm (fun _ => False) w w' ∧ ∀ k, M k → w.heap.size ≤ k := by
  unfold ptr
  go_enter Try.func31, Try.ntmps31
  go_wp2
  go_ret
  refine ⟨w.heap.size, One w.heap.size, rfl, ⟨⟨by decide, by decide, ⟨by decide, by decide⟩, .inl rfl, Nat.zero_le _, by decide, by decide, Nat.zero_le _⟩, rfl, fun k hk => by rw [hk]; simp, .slice none 0 0, .slice none 0 0, heap_new w _, nil_bytes _, nil_bytes _, fun k hk => absurd hk (nil_block k), fun k hk => absurd hk (nil_block k), fun h => by rcases h with h | h <;> exact absurd h (by decide), fun _ => rfl⟩, by (repeat' (first | (with_reducible exact Frm.refl _ _) | (with_reducible assumption) | (with_reducible refine Frm.alloc ?_ _) | (with_reducible refine Frm.drew ?_) | (with_reducible refine Frm.drewN ?_ _) | (with_reducible refine Frm.set1 ?_ _) | (with_reducible refine Frm.setCell ?_ ?_ _) | (exact fun h => absurd h (Nat.lt_irrefl _)) | (intro hlt; simp [World.size_alloc, One] at hlt ⊢; omega))), fun k hk => by rw [hk]; exact Nat.le_refl _⟩
set_option maxRecDepth 100000 in
theorem cbusy_any (M : Nat → Prop) (c : Nat) (s : Cl) (w : World) (h : ClHas M w c s) : Calls Try.prog 33 #[ptr c] w fun e w' => e = .returned (.bool s.busy) ∧ w' = w := by
  obtain ⟨_, _, _, vb, vr, hc, _⟩ := h
  have c0 : w.cell? ⟨c, 0, none⟩ = some (.int .i64 s.waits) := cell_at hc
  unfold Cl.busy
  generalize s.waits = x at *
  unfold ptr
  clear hc
  by_cases hx : x = 0
  · subst hx
    go_enter Try.func33, Try.ntmps33
    go_wp2
    go_ret
    exact ⟨rfl, rfl⟩
  · have h1 : (x != 0) = true := by simpa using hx
    have HX := Lib.hid hx
    clear hx
    go_enter Try.func33, Try.ntmps33
    go_wp2
    go_ret
    exact ⟨by rw [decide_eq_true HX.out]; rfl, rfl⟩
def ExpPost (M : Nat → Prop) (c : Nat) (s : Cl) (w : World) (e : Ending) (w' : World) : Prop := e = .returned (.tuple #[s.expire.2.1.v, .bool s.expire.2.2]) ∧ ClPost M w c s.expire.1 w'
set_option maxRecDepth 100000 in
set_option maxHeartbeats 1000000 in
theorem cexpire_any (M : Nat → Prop) (c : Nat) (s : Cl) (w : World) (h : ClHas M w c s) : Calls Try.prog 34 #[ptr c] w (ExpPost M c s w) := by
  have H := Lib.hid h
  obtain ⟨hok, hM, hlt, vb, vr, hc, hb, hr, hvb, hvr, ho, hn⟩ := h
  have HC := Lib.hid hc
  have c0 : w.cell? ⟨c, 0, none⟩ = some (.int .i64 s.waits) := cell_at hc
  have hG := fun W (hF : Frm (fun _ => False) w W) => cgives_any c s vb vr 84148224 W (hF.heap hc (fun h => h)) hok.hi (by decide)
  have HG := Lib.hid hG
  have hclt := lt_of_block hc
  by_cases hx : s.waits = 0
  · have e : s.expire = (s, F8.zero, false) := by unfold Cl.expire; rw [if_pos hx]
    have HE := Lib.hid e
    rw [hx] at c0
    unfold ptr
    clear hc hb hr hvb hvr ho hn hG e hx hok hM hlt
    go_enter Try.func34, Try.ntmps34
    go_wp2
    refine bodyPost_ret (ret_f8b rfl _ _ w.heap.size F8.zero.c rfl rfl (by (apply heap_fin; (case h => (repeat (first | (with_reducible exact heap_new _ _) | (with_reducible apply heap_alloc_old) | (with_reducible apply heap_drewN') | (with_reducible apply heap_drew') | (with_reducible apply heap_set_same) | (with_reducible refine heap_set_other ?_ (by simp only []; omega)) | (with_reducible exact heap_new_at (by simp))))); (case e => rfl)))) rfl ?_
    unfold ExpPost
    rw [HE.out]
    exact ⟨rfl, ClPost.same H.out (by (repeat' (first | (with_reducible exact Frm.refl _ _) | (with_reducible assumption) | (with_reducible refine Frm.alloc ?_ _) | (with_reducible refine Frm.drew ?_) | (with_reducible refine Frm.drewN ?_ _) | (with_reducible refine Frm.set1 ?_ _) | (with_reducible refine Frm.setCell ?_ ?_ _) | (exact fun h => absurd h (Nat.lt_irrefl _)) | (intro hlt; simp [World.size_alloc, One] at hlt ⊢; omega))))⟩
  · have e : s.expire = s.gives 84148224 := by unfold Cl.expire; rw [if_neg hx]
    have HE := Lib.hid e
    have h1 : (s.waits == 0) = false := by simpa using hx
    unfold Cl.gives at HE
    generalize fr8 128 s.idx s.sub 84148224 = f at *
    generalize hw : s.waits = x at *
    unfold ptr F8.v at *
    clear hc hb hr hvb hvr ho hn hG e hx hok hM hlt hw
    go_enter Try.func34, Try.ntmps34
    go_wp2_with (first | (go_at_call 73; refine (HG.out _ (by (repeat' (first | (with_reducible exact Frm.refl _ _) | (with_reducible assumption) | (with_reducible refine Frm.alloc ?_ _) | (with_reducible refine Frm.drew ?_) | (with_reducible refine Frm.drewN ?_ _) | (with_reducible refine Frm.set1 ?_ _) | (with_reducible refine Frm.setCell ?_ ?_ _) | (exact fun h => absurd h (Nat.lt_irrefl _)) | (intro hlt; simp [World.size_alloc, One] at hlt ⊢; omega))))).mono ?_; rintro e w1 ⟨rfl, hc1, hF1⟩; have HC1 := Lib.hid hc1; have HR1 : Hid (w1.heap[w.heap.size]? = some (.cells #[.int .u8 0, .int .u8 0, .int .u8 0, .int .u8 0, .int .u8 0, .int .u8 0, .int .u8 0, .int .u8 0] 73 (0, 0))) := hF1.heap (heap_new w _) (fun h => by simp only [One] at h; omega); have HF1 := Lib.hid hF1; clear hc1 hF1) | (refine wpl_store_whole rfl 73 (.tmp 2) (.tmp 12) rfl w.heap.size f.c rfl rfl 73 _ HR1.out info_f8 rfl (F8.one _) ?_; intro wz hwz hFz; have HW2 := Lib.hid hwz; have HF2 := Lib.hid hFz; clear hwz hFz))
    have hFa : Frm (One c) w w1 := Frm.trans' ((Frm.refl _ _).alloc _) HF1.out
    refine bodyPost_ret (ret_f8b rfl _ _ w.heap.size f.c rfl rfl HW2.out) rfl ?_
    unfold ExpPost
    rw [HE.out]
    exact ⟨rfl, ClPost.over H.out (hFa.trans HF2.out (fun i hi h => by simp only [One] at h; omega)) (by decide) (HF2.out.heap HC1.out (by simp only [One]; omega))⟩
def ResPost (M : Nat → Prop) (c : Nat) (s : Cl) (w : World) (e : Ending) (w' : World) : Prop := (∃ v, e = .returned (.tuple #[v, .int .u32 s.result.2.2.1, .bool s.result.2.2.2]) ∧ BytesAt w' v s.result.2.1 ∧ ∀ k, v.ownBlock = some k → M k) ∧ ClPost M w c s.result.1 w'
set_option maxRecDepth 100000 in
set_option maxHeartbeats 1000000 in
theorem cresult_any (M : Nat → Prop) (c : Nat) (s : Cl) (w : World) (h : ClHas M w c s) : Calls Try.prog 35 #[ptr c] w (ResPost M c s w) := by
  have H := Lib.hid h
  obtain ⟨hok, hM, hlt, vb, vr, hc, hb, hr, hvb, hvr, ho, hn⟩ := h
  have HC := Lib.hid hc
  obtain ⟨Ar, cr, rfl, _, _, _⟩ := bytes_cell hr
  have c9 : w.cell? ⟨c, 9, none⟩ = some (.bool s.has) := cell_at hc
  have hclt := lt_of_block hc
  have HR := Lib.hid hr
  cases hx : s.has with
  | false =>
    have e : s.result = (s, [], 0, false) := by unfold Cl.result; rw [hx]; rfl
    have HE := Lib.hid e
    rw [hx] at c9
    unfold ptr
    clear hc hb hr hvb hvr ho hn e hx hok hM hlt
    go_enter Try.func35, Try.ntmps35
    go_wp2
    go_ret3
    unfold ResPost
    rw [HE.out]
    exact ⟨⟨_, rfl, nil_bytes _, fun k hk => absurd hk (nil_block k)⟩, ClPost.same H.out (Frm.refl _ _)⟩
  | true =>
    have e : s.result = (⟨s.waits, s.idx, s.sub, s.b, s.turn, s.last, s.size, [], 0, false⟩, s.res, s.code, true) := by unfold Cl.result; rw [hx]; rfl
    have HE := Lib.hid e
    rw [hx] at c9
    have c7 : w.cell? ⟨c, 7, none⟩ = some (.slice Ar s.res.length cr) := cell_at hc
    have c8 : w.cell? ⟨c, 8, none⟩ = some (.int .u32 s.code) := cell_at hc
    have kf := frees hc
    have HOK := Lib.hid hok
    have HVB := Lib.hid hvb
    have HB := Lib.hid hb
    have HO := Lib.hid ho
    have HM : Hid (M c) := hM
    have HLT := Lib.hid hlt
    have HVR := Lib.hid hvr
    have HXX : Hid (s.has = true) := hx
    obtain ⟨s0, s1, s2, s3, s4, s5, s6, s7, s8, s9⟩ := s
    simp only at *
    unfold ptr
    clear hc hb hr hvb hvr ho hn e hx hok hM hlt
    go_enter Try.func35, Try.ntmps35
    go_wp2
    go_quiet (fail)
    go_wp2
    go_ret3
    unfold ResPost
    rw [HE.out]
    have hF : Frm (One c) w ((((w.drewN nq).setCell ⟨c, 7, none⟩ (.slice none 0 0)).setCell ⟨c, 8, none⟩ (.int .u32 0)).setCell ⟨c, 9, none⟩ (.bool false)) := by (repeat' (first | (with_reducible exact Frm.refl _ _) | (with_reducible assumption) | (with_reducible refine Frm.alloc ?_ _) | (with_reducible refine Frm.drew ?_) | (with_reducible refine Frm.drewN ?_ _) | (with_reducible refine Frm.set1 ?_ _) | (with_reducible refine Frm.setCell ?_ ?_ _) | (exact fun h => absurd h (Nat.lt_irrefl _)) | (intro hlt; simp [World.size_alloc, One] at hlt ⊢; omega)))
    have HOK := HOK.out
    refine ⟨⟨_, rfl, HR.out.frm hF (fun k hk h => (HVR.out k hk).2 h), fun k hk => (HVR.out k hk).1⟩, ClPost.lay (vb := vb) (vr := .slice none 0 0) H.out (hF.mono (fun i _ hi => by rw [hi]; exact HM.out)) ⟨HOK.hw, HOK.hi, HOK.hs, HOK.ht, HOK.hb, by show (0 : Int) ≤ 0 ∧ (0 : Int) ≤ 4294967295; decide, HOK.hz, Nat.zero_le _⟩ ?_ (HB.out.frm hF (fun k hk h => (HVB.out k hk).2 h)) (nil_bytes _) (fun k hk => ⟨.inl (HVB.out k hk).1, (HVB.out k hk).2⟩) (fun k hk => absurd hk (nil_block k)) (fun hw => hF.row (HO.out hw) (fun k hk h => (HVB.out k hk).2 h)) (fun _ => rfl)⟩
    show _ = some (Obj.cells #[.int .i64 s0, .int .u16 s1, .int .u8 s2, vb, .int .u8 s4, .bool s5, .int .i64 s6, .slice none 0 0, .int .u32 0, .bool false] 143 (0, 0))
    (apply heap_fin; (case h => (repeat (first | (with_reducible exact HC.out) | (with_reducible apply heap_alloc_old) | (with_reducible apply heap_drewN') | (with_reducible apply heap_drew') | (with_reducible apply heap_set_same) | (with_reducible refine heap_set_other ?_ (by simp only []; omega)) | (with_reducible exact heap_new_at (by simp))))); (case e => rfl))
def RdPost (M : Nat → Prop) (c : Nat) (s : Cl) (i q : Int) (w : World) (e : Ending) (w' : World) : Prop := e = .returned (.tuple #[(s.read i q).2.1.v, .int .i64 (s.read i q).2.2]) ∧ ClPost M w c (s.read i q).1 w'
set_option maxRecDepth 100000 in
set_option maxHeartbeats 1000000 in
theorem cread_any (M : Nat → Prop) (c : Nat) (s : Cl) (i q : Int) (w : World) (h : ClHas M w c s) (hi : 0 ≤ i ∧ i ≤ 65535) (hq : 0 ≤ q ∧ q ≤ 255) : Calls Try.prog 67 #[ptr c, .int .u16 i, .int .u8 q] w (RdPost M c s i q w) := by
  have H := Lib.hid h
  obtain ⟨hok, hM, hlt, vb, vr, hc, hb, hr, hvb, hvr, ho, hn⟩ := h
  have HC := Lib.hid hc
  have c0 : w.cell? ⟨c, 0, none⟩ = some (.int .i64 s.waits) := cell_at hc
  have hclt := lt_of_block hc
  have HM : Hid (M c) := hM
  by_cases hx : s.waits = 0
  · have e : s.read i q = (⟨4, i, q, [], 0, false, -1, [], 0, false⟩, fr8 64 i q 0, 0) := by unfold Cl.read; rw [if_neg (by simpa using hx)]
    have HE := Lib.hid e
    rw [hx] at c0
    have hFr := fun W (hc : W.heap[c]? = some (.cells (clC ⟨4, i, q, [], 0, false, -1, [], 0, false⟩ (.slice none 0 0) (.slice none 0 0)) 143 (0, 0))) => cframe_any c ⟨4, i, q, [], 0, false, -1, [], 0, false⟩ (.slice none 0 0) (.slice none 0 0) 64 0 W hc hi (by decide)
    have HFR := Lib.hid hFr
    have HI := Lib.hid hi
    have HQ := Lib.hid hq
    generalize fr8 64 i q 0 = f at *
    unfold ptr F8.v at *
    clear hc hb hr hvb hvr ho hn e hx hok hM hlt hFr hi hq
    go_enter Try.func67, Try.ntmps67
    go_wp2_with (first | (refine wpl_store_whole rfl 143 (.tmp 18) (.tmp 17) rfl c (clC ⟨4, i, q, [], 0, false, -1, [], 0, false⟩ (.slice none 0 0) (.slice none 0 0)) rfl rfl 143 _ (heap_alloc_old HC.out) info_Cl rfl (clC_one _ _ _ _ _ _ _) ?_; intro w1 hw1 hF1; have HW1 := Lib.hid hw1; have HR1 : Hid (w1.heap[w.heap.size]? = some (.cells #[.int .u8 0, .int .u8 0, .int .u8 0, .int .u8 0, .int .u8 0, .int .u8 0, .int .u8 0, .int .u8 0] 73 (0, 0))) := hF1.heap (heap_new w _) (fun h => by simp only [One] at h; omega); have HF1 := Lib.hid hF1; clear hw1 hF1) | (go_at_call 74; refine (HFR.out _ HW1.out).mono ?_; rintro e w2 ⟨rfl, hF2⟩; have HF2 := Lib.hid hF2; clear hF2) | (refine wpl_store_whole rfl 73 (.tmp 6) (.tmp 20) rfl w.heap.size f.c rfl rfl 73 _ (HF2.out.heap HR1.out (fun h => h)) info_f8 rfl (F8.one _) ?_; intro wz hwz hFz; have HW3 := Lib.hid hwz; have HF3 := Lib.hid hFz; clear hwz hFz))
    have hFa : Frm (One c) w w2 := (Frm.trans' ((Frm.refl _ _).alloc _) HF1.out).trans HF2.out (fun i hi h => h.elim)
    have hFb : Frm (One c) w wz := hFa.trans HF3.out (fun i hi h => by simp only [One] at h; omega)
    have hcw := HF3.out.heap (HF2.out.heap HW1.out (fun h => h)) (by simp only [One]; omega)
    refine bodyPost_ret (ret_f8b rfl _ _ w.heap.size f.c rfl rfl HW3.out) rfl ?_
    unfold RdPost
    rw [HE.out]
    exact ⟨rfl, ClPost.lay H.out (hFb.mono (fun i _ hi => by rw [hi]; exact HM.out)) ⟨by show (0 : Int) ≤ 4 ∧ (4 : Int) ≤ 5; decide, HI.out, HQ.out, .inl rfl, Nat.zero_le _, by show (0 : Int) ≤ 0 ∧ (0 : Int) ≤ 4294967295; decide, by show (-1 : Int) ≤ -1 ∧ (-1 : Int) ≤ 65536; decide, Nat.zero_le _⟩ hcw (nil_bytes _) (nil_bytes _) (fun k hk => absurd hk (nil_block k)) (fun k hk => absurd hk (nil_block k)) (fun _ => World.ownsRow_nil _ _ _ _) (fun _ => rfl)⟩
  · have e : s.read i q = (s, F8.zero, 6) := by unfold Cl.read; rw [if_pos hx]
    have HE := Lib.hid e
    have h1 : (s.waits != 0) = true := by simpa using hx
    generalize s.waits = x at *
    unfold ptr
    clear hc hb hr hvb hvr ho hn e hx hok hM hlt hi hq
    go_enter Try.func67, Try.ntmps67
    go_wp2
    refine bodyPost_ret (ret_f8b rfl _ _ w.heap.size F8.zero.c rfl rfl (by (apply heap_fin; (case h => (repeat (first | (with_reducible exact heap_new _ _) | (with_reducible apply heap_alloc_old) | (with_reducible apply heap_drewN') | (with_reducible apply heap_drew') | (with_reducible apply heap_set_same) | (with_reducible refine heap_set_other ?_ (by simp only []; omega)) | (with_reducible exact heap_new_at (by simp))))); (case e => rfl)))) rfl ?_
    unfold RdPost
    rw [HE.out]
    exact ⟨rfl, ClPost.same H.out (by (repeat' (first | (with_reducible exact Frm.refl _ _) | (with_reducible assumption) | (with_reducible refine Frm.alloc ?_ _) | (with_reducible refine Frm.drew ?_) | (with_reducible refine Frm.drewN ?_ _) | (with_reducible refine Frm.set1 ?_ _) | (with_reducible refine Frm.setCell ?_ ?_ _) | (exact fun h => absurd h (Nat.lt_irrefl _)) | (intro hlt; simp [World.size_alloc, One] at hlt ⊢; omega))))⟩
theorem splice_four (x : F8) (bs : List UInt8) (h1 : 1 ≤ bs.length) (h4 : bs.length ≤ 4) : (splice (⟨x.a0, x.a1, x.a2, x.a3, 0, 0, 0, 0⟩ : F8).c.toList 4 (bs.map encB)).toArray = (⟨x.a0, x.a1, x.a2, x.a3, atI bs 0, atI bs 1, atI bs 2, atI bs 3⟩ : F8).c := by
  match bs, h4 with
  | [], _ => exact absurd h1 (by decide)
  | [_], _ => rfl
  | [_, _], _ => rfl
  | [_, _, _], _ => rfl
  | [_, _, _, _], _ => rfl
theorem BytesAt.srcAll {w : World} {A : Option Addr} {cap : Nat} {bs : List UInt8} (h : BytesAt w (.slice A bs.length cap) bs) (h0 : 0 < (bs.map encB).length) : ∃ ad, A = some ad ∧ ∀ j v, (bs.map encB)[j]? = some v → w.cell? (ad.add j) = some v := by
  have := h.src bs.length (Nat.le_refl _)
  rw [List.take_length] at this
  exact this h0
theorem fr8_zero (x i q : Int) : fr8 x i q 0 = ⟨x, i % 256, i / 256, q, 0, 0, 0, 0⟩ := by unfold fr8; rfl
def WrPost (M : Nat → Prop) (c : Nat) (s : Cl) (i q : Int) (bs : List UInt8) (w : World) (e : Ending) (w' : World) : Prop := e = .returned (.tuple #[(s.write i q bs).2.1.v, .int .i64 (s.write i q bs).2.2]) ∧ ClPost M w c (s.write i q bs).1 w'
theorem or_35 (n : Nat) (h1 : 1 ≤ n) (h4 : n ≤ 4) : bits BinOp.or IntKind.u8 35 ((4 - (n : Int)) * 4) = 35 + 4 * (4 - (n : Int)) := by
  have e : ∀ m : Fin 5, 1 ≤ m.val → bits BinOp.or IntKind.u8 35 ((4 - (m.val : Int)) * 4) = 35 + 4 * (4 - (m.val : Int)) := by decide +kernel
  exact e ⟨n, by omega⟩ h1
set_option maxRecDepth 100000 in
set_option maxHeartbeats 2000000 in
theorem cwrite_any (M : Nat → Prop) (c : Nat) (s : Cl) (i q : Int) (v : Value) (bs : List UInt8) (w : World) (h : ClHas M w c s) (hi : 0 ≤ i ∧ i ≤ 65535) (hq : 0 ≤ q ∧ q ≤ 255) (hv : BytesAt w v bs) (hvc : ∀ k, v.ownBlock = some k → k ≠ c) : Calls Try.prog 36 #[ptr c, .int .u16 i, .int .u8 q, v] w (WrPost M c s i q bs w) := by
  have H := Lib.hid h
  obtain ⟨hok, hM, hlt, vb, vr, hc, hb, hr, hvb, hvr, ho, hn⟩ := h
  have HC := Lib.hid hc
  have HV := Lib.hid hv
  have HVC := Lib.hid hvc
  obtain ⟨Av, cv, rfl, hv1, hv2, _⟩ := bytes_cell hv
  have hm : bs.length ≤ 9223372036854775807 := Nat.le_trans hv1 hv2
  have c0 : w.cell? ⟨c, 0, none⟩ = some (.int .i64 s.waits) := cell_at hc
  have hclt := lt_of_block hc
  have HM : Hid (M c) := hM
  clear hv hv1 hv2 hvc
  by_cases hx : s.waits = 0
  · by_cases hbig : 65536 < bs.length
    · have e : s.write i q bs = (s, F8.zero, 2) := by unfold Cl.write; rw [if_neg (by simpa using hx), if_pos hbig]
      have HE := Lib.hid e
      rw [hx] at c0
      unfold ptr
      clear hc hb hr hvb hvr ho hn e hx hok hM hlt hi hq
      go_enter Try.func36, Try.ntmps36
      go_wp2
      refine bodyPost_ret (ret_f8b rfl _ _ w.heap.size F8.zero.c rfl rfl (by (apply heap_fin; (case h => (repeat (first | (with_reducible exact heap_new _ _) | (with_reducible apply heap_alloc_old) | (with_reducible apply heap_drewN') | (with_reducible apply heap_drew') | (with_reducible apply heap_set_same) | (with_reducible refine heap_set_other ?_ (by simp only []; omega)) | (with_reducible exact heap_new_at (by simp))))); (case e => rfl)))) rfl ?_
      unfold WrPost
      rw [HE.out]
      exact ⟨rfl, ClPost.same H.out (by (repeat' (first | (with_reducible exact Frm.refl _ _) | (with_reducible assumption) | (with_reducible refine Frm.alloc ?_ _) | (with_reducible refine Frm.drew ?_) | (with_reducible refine Frm.drewN ?_ _) | (with_reducible refine Frm.set1 ?_ _) | (with_reducible refine Frm.setCell ?_ ?_ _) | (exact fun h => absurd h (Nat.lt_irrefl _)) | (intro hlt; simp [World.size_alloc, One] at hlt ⊢; omega))))⟩
    · have hsm : bs.length ≤ 65536 := by omega
      rw [hx] at c0
      have HI := Lib.hid hi
      have HQ := Lib.hid hq
      have HCL := Lib.hid (fun W (hF : Frm (fun _ => False) w W) => clone_any _ bs W (HV.out.grow hF) (by omega))
      unfold CloneP at HCL
      by_cases hs4 : 1 ≤ bs.length ∧ bs.length ≤ 4
      · have e : s.write i q bs = (⟨1, i, q, bs, 0, false, 0, [], 0, false⟩, ⟨35 + 4 * (4 - bs.length), i % 256, i / 256, q, atI bs 0, atI bs 1, atI bs 2, atI bs 3⟩, 0) := by unfold Cl.write; rw [if_neg (by simpa using hx), if_neg hbig, if_pos hs4]
        have HE := Lib.hid e
        obtain ⟨h41, h42⟩ := hs4
        have hFr := fun W vb (hc : W.heap[c]? = some (.cells (clC ⟨1, i, q, bs, 0, false, 0, [], 0, false⟩ vb (.slice none 0 0)) 143 (0, 0))) => cframe_any c ⟨1, i, q, bs, 0, false, 0, [], 0, false⟩ vb (.slice none 0 0) (35 + 4 * (4 - bs.length)) 0 W hc hi (by decide)
        simp only [fr8_zero] at hFr
        have HFR := Lib.hid hFr
        have hor := or_35 bs.length h41 h42
        have HSM := Lib.hid hsm
        have HSP := Lib.hid (splice_four ⟨35 + 4 * (4 - (bs.length : Int)), i % 256, i / 256, q, 0, 0, 0, 0⟩ bs h41 h42)
        have HLN : Hid ((bs.map encB).length = Nat.min bs.length 4) := by unfold Hid; rw [List.length_map]; exact (Nat.min_eq_left h42).symm
        have HL2 : Hid (4 + (bs.map encB).length ≤ 8) := by unfold Hid; rw [List.length_map]; omega
        have h1 : 1 ≤ (bs.length : Int) := by omega
        have h2 : (bs.length : Int) ≤ 4 := by omega
        simp only at HSP
        obtain ⟨f, hf⟩ : ∃ f : F8, f = ⟨35 + 4 * (4 - (bs.length : Int)), i % 256, i / 256, q, 0, 0, 0, 0⟩ := ⟨_, rfl⟩
        rw [← hf] at HSP HFR
        obtain ⟨f2, hf2⟩ : ∃ f2 : F8, f2 = ⟨35 + 4 * (4 - (bs.length : Int)), i % 256, i / 256, q, atI bs 0, atI bs 1, atI bs 2, atI bs 3⟩ := ⟨_, rfl⟩
        rw [← hf2] at HSP HE
        unfold ptr F8.v at *
        clear hc hb hr hvb hvr ho hn e hx hok hM hlt hFr hi hq hbig hf hf2
        go_enter Try.func36, Try.ntmps36
        go_wp2_with fail
        refine (HCL.out _ (by (repeat' (first | (with_reducible exact Frm.refl _ _) | (with_reducible assumption) | (with_reducible refine Frm.alloc ?_ _) | (with_reducible refine Frm.drew ?_) | (with_reducible refine Frm.drewN ?_ _) | (with_reducible refine Frm.set1 ?_ _) | (with_reducible refine Frm.setCell ?_ ?_ _) | (exact fun h => absurd h (Nat.lt_irrefl _)) | (intro hlt; simp [World.size_alloc, One] at hlt ⊢; omega))))).mono ?_
        rintro e w1 ⟨v1, rfl, hO1, hF1⟩
        have HO1 := Lib.hid hO1
        obtain ⟨A1, c1, rfl, _, _, _⟩ := row_open hO1
        have HC1 := Lib.hid (hF1.heap (heap_alloc_old HC.out) (fun h => h))
        have HR1 := Lib.hid (hF1.heap (heap_new w _) (fun h => h))
        have HF1 := Lib.hid (Frm.trans' ((Frm.refl (fun _ => False) w).alloc _) hF1)
        have hwz := HF1.out.size
        have hwz1 := lt_of_block HR1.out
        clear hO1 hF1
        have HFR2 := Lib.hid (fun W => HFR.out W (.slice A1 bs.length c1))
        go_wp2_with (first | (refine wpl_store_whole rfl 143 (.tmp 30) (.tmp 29) rfl c (clC ⟨2, i, q, bs, 0, false, 0, [], 0, false⟩ (.slice A1 bs.length c1) (.slice none 0 0)) rfl rfl 143 _ HC1.out info_Cl rfl (clC_one _ _ _ _ _ _ _) ?_; intro w2 hw2 hF2; have HW2 := Lib.hid hw2; have HR2 : Hid (w2.heap[w.heap.size]? = some (.cells #[.int .u8 0, .int .u8 0, .int .u8 0, .int .u8 0, .int .u8 0, .int .u8 0, .int .u8 0, .int .u8 0] 73 (0, 0))) := hF2.heap HR1.out (fun h => by simp only [One] at h; omega); have k0 : w2.cell? ⟨c, 0, none⟩ = some (.int .i64 2) := cell_at hw2; have kf := frees hw2; have hc2 := lt_of_block hw2; have HF2 := Lib.hid hF2; clear hw2 hF2) | (go_at_call 74; refine (HFR2.out _ (by show _ = some (Obj.cells #[.int .i64 1, .int .u16 i, .int .u8 q, .slice A1 bs.length c1, .int .u8 0, .bool false, .int .i64 0, .slice none 0 0, .int .u32 0, .bool false] 143 (0, 0)); (apply heap_fin; (case h => (repeat (first | (with_reducible exact HW2.out) | (with_reducible apply heap_alloc_old) | (with_reducible apply heap_drewN') | (with_reducible apply heap_drew') | (with_reducible apply heap_set_same) | (with_reducible refine heap_set_other ?_ (by simp only []; omega)) | (with_reducible exact heap_new_at (by simp))))); (case e => rfl)))).mono ?_; rintro e w3 ⟨rfl, hF3⟩; have HR3 : Hid (w3.heap[w.heap.size]? = some (.cells #[.int .u8 0, .int .u8 0, .int .u8 0, .int .u8 0, .int .u8 0, .int .u8 0, .int .u8 0, .int .u8 0] 73 (0, 0))) := hF3.heap (by (apply heap_fin; (case h => (repeat (first | (with_reducible exact HR2.out) | (with_reducible apply heap_alloc_old) | (with_reducible apply heap_drewN') | (with_reducible apply heap_drew') | (with_reducible apply heap_set_same) | (with_reducible refine heap_set_other ?_ (by simp only []; omega)) | (with_reducible exact heap_new_at (by simp))))); (case e => rfl))) (fun h => h); have hch : Frm (One c) w w3 := ((((HF1.out.mono (fun _ _ h => h.elim)).trans HF2.out (fun i hi h => h)).set1 _).trans hF3 (fun i hi h => h.elim)); have HCH3 := Lib.hid hch; have HC3 : Hid (w3.heap[c]? = some (.cells (clC ⟨1, i, q, bs, 0, false, 0, [], 0, false⟩ (.slice A1 bs.length c1) (.slice none 0 0)) 143 (0, 0))) := hF3.heap (by show _ = some (Obj.cells #[.int .i64 1, .int .u16 i, .int .u8 q, .slice A1 bs.length c1, .int .u8 0, .bool false, .int .i64 0, .slice none 0 0, .int .u32 0, .bool false] 143 (0, 0)); (apply heap_fin; (case h => (repeat (first | (with_reducible exact HW2.out) | (with_reducible apply heap_alloc_old) | (with_reducible apply heap_drewN') | (with_reducible apply heap_drew') | (with_reducible apply heap_set_same) | (with_reducible refine heap_set_other ?_ (by simp only []; omega)) | (with_reducible exact heap_new_at (by simp))))); (case e => rfl))) (fun h => h); have hs3 := lt_of_block HC3.out; have hs4 := lt_of_block HR3.out; have HF13 : Hid (Frm (One c) w1 w3) := (HF2.out.set1 _).trans hF3 (fun i hi h => h.elim); clear hF3 hch) | (refine wpl_store_whole rfl 73 (.tmp 11) (.tmp 48) rfl w3.heap.size f.c rfl rfl 73 _ (heap_new w3 _) info_f8 rfl (F8.one _) ?_; intro wz hwz hFz; have HW4 := Lib.hid hwz; have HF4 := Lib.hid hFz; clear hwz hFz) | (refine wpl_copy_frm rfl (.tmp 49) (.tmp 50) 22 22 rfl 5 Try.underlying22 info_u8 _ _ 4 4 bs.length cv rfl rfl w3.heap.size 4 f.c.toList 73 HW4.out (bs.map encB) HLN.out (fun h0 => ⟨rfl, (HV.out.frm ((HCH3.out.alloc _).trans HF4.out (fun i hi h => by have := HCH3.out.size; simp only [One] at h; omega)) (fun k hk h => HVC.out k hk h)).srcAll h0⟩) HL2.out (oneB' _) ?_; intro w5 hw5 hF5; rw [HSP.out] at hw5; have HW5 := Lib.hid hw5; have HF5 := Lib.hid hF5; clear hw5 hF5) | (refine wpList_load_row rfl 73 (.tmp 11) rfl w3.heap.size rfl 73 f2.c (0, 0) _ HW5.out Try.underlying73 rfl (by first | exact info_f8 | (rw [F8.size]; exact info_f8)) ?_) | (refine wpl_store_whole rfl 73 (.tmp 8) (.tmp 52) rfl w.heap.size f2.c rfl rfl 73 _ (HF5.out.heap (HF4.out.heap (heap_alloc_old HR3.out) (by simp only [One]; omega)) (by simp only [One]; omega)) info_f8 rfl (F8.one _) ?_; intro w6 hw6 hF6; have HW6 := Lib.hid hw6; have HF6 := Lib.hid hF6; clear hw6 hF6))
        have hs5 := HCH3.out.size
        have hFb : Frm (One c) w w6 := (((HCH3.out.alloc _).trans HF4.out (fun i hi h => by simp only [One] at h; omega)).trans HF5.out (fun i hi h => by simp only [One] at h; omega)).trans HF6.out (fun i hi h => by simp only [One] at h; omega)
        have hFc : Frm (fun k => k = w3.heap.size ∨ k = w.heap.size) w3 w6 := (((((Frm.refl _ _).alloc _).trans HF4.out (fun i hi h => .inl h)).trans HF5.out (fun i hi h => .inl h)).trans HF6.out (fun i hi h => .inr h))
        have hcw := hFc.heap HC3.out (by omega)
        have hO3 : Own8 (w.heap.size + 1) w6 (.slice A1 bs.length c1) bs := by
          have h3 : Own8 (w.heap.size + 1) w3 (.slice A1 bs.length c1) bs := HF13.out.row (row_base HO1.out (by simp)) (fun k hk h => by have := (HO1.out.blk hk).1; simp [One] at h this; omega)
          exact hFc.row h3 (fun k hk h => by have := h3.blk hk; omega)
        refine bodyPost_ret (ret_f8b rfl _ _ w.heap.size f2.c rfl rfl HW6.out) rfl ?_
        unfold WrPost
        rw [HE.out]
        exact ⟨rfl, ClPost.lay H.out (hFb.mono (fun i _ hi => by rw [hi]; exact HM.out)) ⟨by show (0 : Int) ≤ 1 ∧ (1 : Int) ≤ 5; decide, HI.out, HQ.out, .inl rfl, Nat.le_trans (by have := HSM.out; exact this) (by decide), by show (0 : Int) ≤ 0 ∧ (0 : Int) ≤ 4294967295; decide, by show (-1 : Int) ≤ 0 ∧ (0 : Int) ≤ 65536; decide, Nat.zero_le _⟩ hcw (BytesAt.of_row hO3) (nil_bytes _) (fun k hk => ⟨.inr ⟨by have := (hO3.blk hk).1; omega, (hO3.blk hk).2⟩, by have := (hO3.blk hk).1; omega⟩) (fun k hk => absurd hk (nil_block k)) (fun h => by rcases h with h | h <;> exact absurd h (by show ¬ (1 : Int) = _; decide)) (fun _ => rfl)⟩
      · have e : s.write i q bs = (⟨2, i, q, bs, 0, false, 0, [], 0, false⟩, fr8 33 i q bs.length, 0) := by unfold Cl.write; rw [if_neg (by simpa using hx), if_neg hbig, if_neg hs4]
        have HE := Lib.hid e
        have hFr := fun W vb (hc : W.heap[c]? = some (.cells (clC ⟨2, i, q, bs, 0, false, 0, [], 0, false⟩ vb (.slice none 0 0)) 143 (0, 0))) => cframe_any c ⟨2, i, q, bs, 0, false, 0, [], 0, false⟩ vb (.slice none 0 0) 33 bs.length W hc hi (by omega)
        have HFR := Lib.hid hFr
        have HSM := Lib.hid hsm
        have HB4 : Hid (bs.length = 0 ∨ 5 ≤ bs.length) := by unfold Hid; omega
        generalize fr8 33 i q bs.length = f at *
        unfold ptr F8.v at *
        clear hc hb hr hvb hvr ho hn e hx hok hM hlt hFr hi hq hbig hs4
        go_enter Try.func36, Try.ntmps36
        go_wp2_with fail
        refine (HCL.out _ (by (repeat' (first | (with_reducible exact Frm.refl _ _) | (with_reducible assumption) | (with_reducible refine Frm.alloc ?_ _) | (with_reducible refine Frm.drew ?_) | (with_reducible refine Frm.drewN ?_ _) | (with_reducible refine Frm.set1 ?_ _) | (with_reducible refine Frm.setCell ?_ ?_ _) | (exact fun h => absurd h (Nat.lt_irrefl _)) | (intro hlt; simp [World.size_alloc, One] at hlt ⊢; omega))))).mono ?_
        rintro e w1 ⟨v1, rfl, hO1, hF1⟩
        have HO1 := Lib.hid hO1
        obtain ⟨A1, c1, rfl, _, _, _⟩ := row_open hO1
        have HC1 := Lib.hid (hF1.heap (heap_alloc_old HC.out) (fun h => h))
        have HR1 := Lib.hid (hF1.heap (heap_new w _) (fun h => h))
        have HF1 := Lib.hid (Frm.trans' ((Frm.refl (fun _ => False) w).alloc _) hF1)
        have hwz := HF1.out.size
        have hwz1 := lt_of_block HR1.out
        clear hO1 hF1
        have HFR2 := Lib.hid (fun W => HFR.out W (.slice A1 bs.length c1))
        rcases HB4.out with hz | hz
        · have h1 : ¬ 1 ≤ (bs.length : Int) := by omega
          clear hz
          go_wp2_with (first | (refine wpl_store_whole rfl 143 (.tmp 30) (.tmp 29) rfl c (clC ⟨2, i, q, bs, 0, false, 0, [], 0, false⟩ (.slice A1 bs.length c1) (.slice none 0 0)) rfl rfl 143 _ HC1.out info_Cl rfl (clC_one _ _ _ _ _ _ _) ?_; intro w2 hw2 hF2; have HW2 := Lib.hid hw2; have HR2 : Hid (w2.heap[w.heap.size]? = some (.cells #[.int .u8 0, .int .u8 0, .int .u8 0, .int .u8 0, .int .u8 0, .int .u8 0, .int .u8 0, .int .u8 0] 73 (0, 0))) := hF2.heap HR1.out (fun h => by simp only [One] at h; omega); have HF2 := Lib.hid hF2; clear hw2 hF2) | (go_at_call 74; refine (HFR2.out _ HW2.out).mono ?_; rintro e w3 ⟨rfl, hF3⟩; have HF3 := Lib.hid hF3; clear hF3) | (refine wpl_store_whole rfl 73 (.tmp 8) (.tmp 56) rfl w.heap.size f.c rfl rfl 73 _ (HF3.out.heap HR2.out (fun h => h)) info_f8 rfl (F8.one _) ?_; intro wz hwz hFz; have HW4 := Lib.hid hwz; have HF4 := Lib.hid hFz; clear hwz hFz))
          have hFa : Frm (One c) w w3 := ((HF1.out.mono (fun _ _ h => h.elim)).trans HF2.out (fun i hi h => h)).trans HF3.out (fun i hi h => h.elim)
          have hFb : Frm (One c) w wz := hFa.trans HF4.out (fun i hi h => by simp only [One] at h; omega)
          have hcw := HF4.out.heap (HF3.out.heap HW2.out (fun h => h)) (by simp only [One]; omega)
          have hO3 : Own8 (w.heap.size + 1) wz (.slice A1 bs.length c1) bs := HF4.out.row (HF3.out.row (HF2.out.row (row_base HO1.out (by simp)) (fun k hk h => by have := (HO1.out.blk hk).1; simp [One] at h this; omega)) (fun _ _ h => h)) (fun k hk h => by have := (HO1.out.blk hk).1; simp [One] at h this; omega)
          refine bodyPost_ret (ret_f8b rfl _ _ w.heap.size f.c rfl rfl HW4.out) rfl ?_
          unfold WrPost
          rw [HE.out]
          exact ⟨rfl, ClPost.lay H.out (hFb.mono (fun i _ hi => by rw [hi]; exact HM.out)) ⟨by show (0 : Int) ≤ 2 ∧ (2 : Int) ≤ 5; decide, HI.out, HQ.out, .inl rfl, Nat.le_trans (by have := HSM.out; exact this) (by decide), by show (0 : Int) ≤ 0 ∧ (0 : Int) ≤ 4294967295; decide, by show (-1 : Int) ≤ 0 ∧ (0 : Int) ≤ 65536; decide, Nat.zero_le _⟩ hcw (BytesAt.of_row hO3) (nil_bytes _) (fun k hk => ⟨.inr ⟨by have := (hO3.blk hk).1; omega, (hO3.blk hk).2⟩, by have := (hO3.blk hk).1; omega⟩) (fun k hk => absurd hk (nil_block k)) (fun h => by rcases h with h | h <;> exact absurd h (by show ¬ (2 : Int) = _; decide)) (fun _ => rfl)⟩
        · have h1 : 1 ≤ (bs.length : Int) := by omega
          have h2 : ¬ (bs.length : Int) ≤ 4 := by omega
          clear hz
          go_wp2_with (first | (refine wpl_store_whole rfl 143 (.tmp 30) (.tmp 29) rfl c (clC ⟨2, i, q, bs, 0, false, 0, [], 0, false⟩ (.slice A1 bs.length c1) (.slice none 0 0)) rfl rfl 143 _ HC1.out info_Cl rfl (clC_one _ _ _ _ _ _ _) ?_; intro w2 hw2 hF2; have HW2 := Lib.hid hw2; have HR2 : Hid (w2.heap[w.heap.size]? = some (.cells #[.int .u8 0, .int .u8 0, .int .u8 0, .int .u8 0, .int .u8 0, .int .u8 0, .int .u8 0, .int .u8 0] 73 (0, 0))) := hF2.heap HR1.out (fun h => by simp only [One] at h; omega); have HF2 := Lib.hid hF2; clear hw2 hF2) | (go_at_call 74; refine (HFR2.out _ HW2.out).mono ?_; rintro e w3 ⟨rfl, hF3⟩; have HF3 := Lib.hid hF3; clear hF3) | (refine wpl_store_whole rfl 73 (.tmp 8) (.tmp 56) rfl w.heap.size f.c rfl rfl 73 _ (HF3.out.heap HR2.out (fun h => h)) info_f8 rfl (F8.one _) ?_; intro wz hwz hFz; have HW4 := Lib.hid hwz; have HF4 := Lib.hid hFz; clear hwz hFz))
          have hFa : Frm (One c) w w3 := ((HF1.out.mono (fun _ _ h => h.elim)).trans HF2.out (fun i hi h => h)).trans HF3.out (fun i hi h => h.elim)
          have hFb : Frm (One c) w wz := hFa.trans HF4.out (fun i hi h => by simp only [One] at h; omega)
          have hcw := HF4.out.heap (HF3.out.heap HW2.out (fun h => h)) (by simp only [One]; omega)
          have hO3 : Own8 (w.heap.size + 1) wz (.slice A1 bs.length c1) bs := HF4.out.row (HF3.out.row (HF2.out.row (row_base HO1.out (by simp)) (fun k hk h => by have := (HO1.out.blk hk).1; simp [One] at h this; omega)) (fun _ _ h => h)) (fun k hk h => by have := (HO1.out.blk hk).1; simp [One] at h this; omega)
          refine bodyPost_ret (ret_f8b rfl _ _ w.heap.size f.c rfl rfl HW4.out) rfl ?_
          unfold WrPost
          rw [HE.out]
          exact ⟨rfl, ClPost.lay H.out (hFb.mono (fun i _ hi => by rw [hi]; exact HM.out)) ⟨by show (0 : Int) ≤ 2 ∧ (2 : Int) ≤ 5; decide, HI.out, HQ.out, .inl rfl, Nat.le_trans (by have := HSM.out; exact this) (by decide), by show (0 : Int) ≤ 0 ∧ (0 : Int) ≤ 4294967295; decide, by show (-1 : Int) ≤ 0 ∧ (0 : Int) ≤ 65536; decide, Nat.zero_le _⟩ hcw (BytesAt.of_row hO3) (nil_bytes _) (fun k hk => ⟨.inr ⟨by have := (hO3.blk hk).1; omega, (hO3.blk hk).2⟩, by have := (hO3.blk hk).1; omega⟩) (fun k hk => absurd hk (nil_block k)) (fun h => by rcases h with h | h <;> exact absurd h (by show ¬ (2 : Int) = _; decide)) (fun _ => rfl)⟩
  · have e : s.write i q bs = (s, F8.zero, 6) := by unfold Cl.write; rw [if_pos hx]
    have HE := Lib.hid e
    have h1 : (s.waits != 0) = true := by simpa using hx
    generalize s.waits = x at *
    unfold ptr
    clear hc hb hr hvb hvr ho hn e hx hok hM hlt hi hq
    go_enter Try.func36, Try.ntmps36
    go_wp2
    refine bodyPost_ret (ret_f8b rfl _ _ w.heap.size F8.zero.c rfl rfl (by (apply heap_fin; (case h => (repeat (first | (with_reducible exact heap_new _ _) | (with_reducible apply heap_alloc_old) | (with_reducible apply heap_drewN') | (with_reducible apply heap_drew') | (with_reducible apply heap_set_same) | (with_reducible refine heap_set_other ?_ (by simp only []; omega)) | (with_reducible exact heap_new_at (by simp))))); (case e => rfl)))) rfl ?_
    unfold WrPost
    rw [HE.out]
    exact ⟨rfl, ClPost.same H.out (by (repeat' (first | (with_reducible exact Frm.refl _ _) | (with_reducible assumption) | (with_reducible refine Frm.alloc ?_ _) | (with_reducible refine Frm.drew ?_) | (with_reducible refine Frm.drewN ?_ _) | (with_reducible refine Frm.set1 ?_ _) | (with_reducible refine Frm.setCell ?_ ?_ _) | (exact fun h => absurd h (Nat.lt_irrefl _)) | (intro hlt; simp [World.size_alloc, One] at hlt ⊢; omega))))⟩
end Go.Proofs.Ytmkkeglcjbogcaa
namespace Go.Proofs.Ytmkkeglcjbogcaa
open Go.RowKit
set_option linter.unusedVariables false

set_option maxHeartbeats 1000000 in
theorem low32_any (n : Int) (w : World) (h0 : 0 ≤ n) (h1 : n ≤ 140737488351232) :
    Calls Try.prog 60 #[.int .i64 n] w fun e w' => e = .returned (.slice (some ⟨w.heap.size, 0, none⟩) 4 4) ∧ w' = w.alloc (.cells ((leOf n 4).map encB).toArray 5) := by
  go_enter Try.func60, Try.ntmps60
  go_wp2
  go_ret
  refine ⟨rfl, ?_⟩
  have e2 : n / 256 / 256 = n / 65536 := by omega
  have e3 : n / 65536 / 256 = n / 16777216 := by omega
  simp only [leOf, List.map_cons, List.map_nil, encB_mod, e2, e3]
end Go.Proofs.Ytmkkeglcjbogcaa
namespace Go.Proofs.Ytmkkeglcjbogcaa
open Go.RowKit
set_option linter.unusedVariables false

set_option maxHeartbeats 1000000 in
theorem enc1_any (i s : Int) (A : Option Addr) (n c : Nat) (w : World) (hn : n ≤ maxLen) :
    Calls Try.prog 59 #[.agg #[.int .u16 i, .int .u8 s, .slice A n c]] w fun e w' => e = .returned (.bool (decide (65536 < (n : Int)))) ∧ Frm (fun _ => False) w w' := by
  unfold maxLen at hn
  go_enter Try.func59, Try.ntmps59
  go_wp2_with fail
  go_ret
  exact ⟨rfl, by (repeat' (first | (with_reducible exact Frm.refl _ _) | (with_reducible assumption) | (with_reducible refine Frm.alloc ?_ _) | (with_reducible refine Frm.drew ?_) | (with_reducible refine Frm.drewN ?_ _) | (with_reducible refine Frm.set1 ?_ _) | (with_reducible refine Frm.setCell ?_ ?_ _) | (exact fun h => absurd h (Nat.lt_irrefl _)) | (intro hlt; simp [World.size_alloc, One] at hlt ⊢; omega)))⟩

def IdxNo (w : World) (e : Ending) (w' : World) : Prop := e = .returned (.int .i64 (-1)) ∧ Frm (fun _ => False) w w'
def IdxYes (w : World) (e : Ending) (w' : World) : Prop := (∃ k : Nat, k ≤ 9223372036854775807 ∧ e = .returned (.int .i64 k)) ∧ Frm (fun _ => False) w w'

set_option maxRecDepth 100000 in
set_option maxHeartbeats 1000000 in
theorem idxI_no (v : Value) (xs : List Itm) (w : World) (h : ItemsAt w v xs) (hb : ∀ x ∈ xs, x.2.2.2.length ≤ 65536) :
    Calls Try.prog 89 #[v, .func (.func 59) #[] #[]] w (IdxNo w) := by
  obtain ⟨A, cap, rfl, hm, ho⟩ := h.open_
  have HO := Lib.hid ho
  have HB := Lib.hid hb
  unfold maxLen at hm
  clear h ho hb
  go_enter Try.func89, Try.ntmps89
  go_wp2
  go_loopw [5, 8] (fun _ i wr => ∃ k : Nat, k ≤ xs.length ∧ i = .int .i64 k ∧ Frm (fun _ => False) w wr) (fun _ i _ => xs.length - (intOf i).toNat)
  case atStart => exact ⟨0, Nat.zero_le _, rfl, Frm.refl _ _⟩
  case round =>
    obtain ⟨k, hk, rfl, hF⟩ := hrel
    by_cases hlt : k < xs.length
    · obtain ⟨g, off, Ab, cb, rfl, _, hml, c0, c1, c2⟩ := HO.out k hlt
      have d0 := hF.cell c0 (fun h => h)
      have d1 := hF.cell c1 (fun h => h)
      have d2 := hF.cell c2 (fun h => h)
      have hbk := HB.out _ (List.getElem_mem hlt)
      clear c0 c1 c2
      generalize xs[k] = x at *
      obtain ⟨x0, x1, xv, xb⟩ := x
      simp only at d0 d1 d2 hml hbk
      have HF := Lib.hid hF
      have hdec : decide (65536 < (xb.length : Int)) = false := by simp; omega
      have H1 := Lib.hid (fun W => enc1_any x0 x1 Ab xb.length cb W hml)
      rw [hdec] at H1
      clear hF hdec
      go_wp2_with (go_at_call 59; refine (H1.out _).mono ?_; rintro e w' ⟨rfl, hF'⟩)
      go_roundw
      case rel => exact ⟨k + 1, by omega, by go_num, HF.out.trans' hF'⟩
      case measure => simp [intOf]; omega
    · go_wp2
      go_ret
      exact ⟨rfl, hF⟩
set_option maxRecDepth 100000 in
set_option maxHeartbeats 1000000 in
theorem idxI_yes (v : Value) (xs : List Itm) (w : World) (h : ItemsAt w v xs) (hb : ∃ x ∈ xs, 65536 < x.2.2.2.length) :
    Calls Try.prog 89 #[v, .func (.func 59) #[] #[]] w (IdxYes w) := by
  obtain ⟨A, cap, rfl, hm, ho⟩ := h.open_
  obtain ⟨x, hx, hx2⟩ := hb
  obtain ⟨q, hq, rfl⟩ := List.getElem_of_mem hx
  have HO := Lib.hid ho
  have HX := Lib.hid hx2
  unfold maxLen at hm
  clear h ho hx hx2
  go_enter Try.func89, Try.ntmps89
  go_wp2
  go_loopw [5, 8] (fun _ i wr => ∃ k : Nat, k ≤ q ∧ i = .int .i64 k ∧ Frm (fun _ => False) w wr) (fun _ i _ => xs.length - (intOf i).toNat)
  case atStart => exact ⟨0, Nat.zero_le _, rfl, Frm.refl _ _⟩
  case round =>
    obtain ⟨k, hk, rfl, hF⟩ := hrel
    have hlt : k < xs.length := by omega
    obtain ⟨g, off, Ab, cb, rfl, _, hml, c0, c1, c2⟩ := HO.out k hlt
    have d0 := hF.cell c0 (fun h => h)
    have d1 := hF.cell c1 (fun h => h)
    have d2 := hF.cell c2 (fun h => h)
    have hkq : k < q ∨ 65536 < xs[k].2.2.2.length := by
      rcases Nat.lt_or_ge k q with h | h
      · exact .inl h
      · obtain rfl : k = q := by omega
        exact .inr HX.out
    clear c0 c1 c2
    generalize xs[k] = x at *
    obtain ⟨x0, x1, xv, xb⟩ := x
    simp only at d0 d1 d2 hml hkq
    have HF := Lib.hid hF
    have H1 := Lib.hid (fun W => enc1_any x0 x1 Ab xb.length cb W hml)
    clear hF
    by_cases hl : 65536 < xb.length
    · have hdec : decide (65536 < (xb.length : Int)) = true := by simp; omega
      rw [hdec] at H1
      clear hdec hkq
      go_wp2_with (go_at_call 59; refine (H1.out _).mono ?_; rintro e w' ⟨rfl, hF'⟩)
      go_ret
      exact ⟨⟨k, by omega, rfl⟩, HF.out.trans' hF'⟩
    · have hdec : decide (65536 < (xb.length : Int)) = false := by simp; omega
      rw [hdec] at H1
      clear hdec
      have hkq' : k < q := by omega
      clear hkq
      go_wp2_with (go_at_call 59; refine (H1.out _).mono ?_; rintro e w' ⟨rfl, hF'⟩)
      go_roundw
      case rel => exact ⟨k + 1, by omega, by go_num, HF.out.trans' hF'⟩
      case measure => simp [intOf]; omega

set_option maxHeartbeats 1000000 in
theorem contI_no (v : Value) (xs : List Itm) (w : World) (h : ItemsAt w v xs) (hb : ∀ x ∈ xs, x.2.2.2.length ≤ 65536) :
    Calls Try.prog 58 #[v, .func (.func 59) #[] #[]] w fun e w' => e = .returned (.bool false) ∧ Frm (fun _ => False) w w' := by
  have H := Lib.hid (idxI_no v xs w h hb)
  obtain ⟨A, cap, rfl, _⟩ := h.open_
  clear h hb
  go_enter Try.func58, Try.ntmps58
  go_wp2_with (go_at_call 89; refine H.out.mono ?_; rintro e w' ⟨rfl, hF'⟩)
  go_ret
  exact ⟨rfl, hF'⟩
set_option maxHeartbeats 1000000 in
theorem contI_yes (v : Value) (xs : List Itm) (w : World) (h : ItemsAt w v xs) (hb : ∃ x ∈ xs, 65536 < x.2.2.2.length) :
    Calls Try.prog 58 #[v, .func (.func 59) #[] #[]] w fun e w' => e = .returned (.bool true) ∧ Frm (fun _ => False) w w' := by
  have H := Lib.hid (idxI_yes v xs w h hb)
  obtain ⟨A, cap, rfl, _⟩ := h.open_
  clear h hb
  go_enter Try.func58, Try.ntmps58
  go_wp2_with (go_at_call 89; refine H.out.mono ?_; rintro e w' ⟨⟨k, hk, rfl⟩, hF'⟩)
  go_ret
  exact ⟨rfl, hF'⟩

end Go.Proofs.Ytmkkeglcjbogcaa
