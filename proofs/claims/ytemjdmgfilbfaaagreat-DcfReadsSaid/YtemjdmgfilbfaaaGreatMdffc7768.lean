/-
  Values out of bytes, and their order: the document's Plain, Encode, Decode. The code's Decode.
-/
import Derived.Test.YtemjdmgfilbfaaaGreatM45f05548
set_option linter.unusedVariables false
set_option linter.unusedSimpArgs false
namespace Go.Proofs.YtemjdmgfilbfaaaGreat
open Go.RowKit
set_option linter.unusedVariables false

set_option maxRecDepth 100000 in
set_option maxHeartbeats 1000000 in
theorem rPlain_any (v : Va) (w : World) : Calls Tryz.prog 60 #[valV v] w fun e w' => e = .returned (valV (plainV v)) ∧ Frm (fun _ => False) w w' := by
  obtain ⟨t, n, b⟩ := v
  have HIS := Lib.hid (fun W => rIs_any t W)
  have HSZ := Lib.hid (fun W => rSize_any t W)
  have hp : plainV ⟨t, n, b⟩ = (if decide (0 < sizeT t) = true then ⟨t, n, []⟩ else if isT t = true then ⟨t, 0, b⟩ else ⟨t, n, b⟩) := by
    unfold plainV
    rw [size_pos]
    simp
  have HP := Lib.hid hp
  clear hp
  unfold valV
  simp only at *
  generalize plainV ⟨t, n, b⟩ = r at *
  generalize sizeT t = sz at *
  generalize isT t = is at *
  by_cases hz : 0 < sz
  · have E : Hid (r = ⟨t, n, []⟩) := by unfold Hid; rw [HP.out, if_pos (by simpa using hz)]
    clear HP
    go_enter Tryz.func60, Tryz.ntmps60
    go_wp2_with fail
    refine (HSZ.out _).mono ?_
    rintro e w' ⟨rfl, rfl⟩
    go_wp2_with fail
    refine bodyPost_ret (v := valV ⟨t, n, []⟩) ?_ rfl ⟨by rw [E.out], by (repeat' (first | (with_reducible exact Frm.refl _ _) | (with_reducible assumption) | (with_reducible refine Frm.alloc ?_ _) | (with_reducible refine Frm.drew ?_) | (with_reducible refine Frm.drewN ?_ _) | (with_reducible refine Frm.set1 ?_ _) | (with_reducible refine Frm.setCell ?_ ?_ _) | (exact fun h => absurd h (Nat.lt_irrefl _)) | (intro hlt; simp [World.size_alloc, One] at hlt ⊢; omega)))⟩
    simp [results, Tryz.results60, go_sem, strB2]
  · have E : Hid (r = (if is = true then ⟨t, 0, b⟩ else ⟨t, n, b⟩)) := by unfold Hid; rw [HP.out, if_neg (by simpa using hz)]
    have hz' : sz ≤ 0 := by omega
    clear HP
    go_enter Tryz.func60, Tryz.ntmps60
    go_wp2_with fail
    refine (HSZ.out _).mono ?_
    rintro e w' ⟨rfl, rfl⟩
    go_wp2_with fail
    refine (HIS.out _).mono ?_
    rintro e w' ⟨rfl, rfl⟩
    cases is with
    | true =>
      go_wp2_with fail
      refine bodyPost_ret (v := valV ⟨t, 0, b⟩) ?_ rfl ⟨by rw [E.out]; rfl, by (repeat' (first | (with_reducible exact Frm.refl _ _) | (with_reducible assumption) | (with_reducible refine Frm.alloc ?_ _) | (with_reducible refine Frm.drew ?_) | (with_reducible refine Frm.drewN ?_ _) | (with_reducible refine Frm.set1 ?_ _) | (with_reducible refine Frm.setCell ?_ ?_ _) | (exact fun h => absurd h (Nat.lt_irrefl _)) | (intro hlt; simp [World.size_alloc, One] at hlt ⊢; omega)))⟩
      simp [results, Tryz.results60, go_sem]
    | false =>
      go_wp2_with fail
      refine bodyPost_ret (v := valV ⟨t, n, b⟩) ?_ rfl ⟨by rw [E.out]; rfl, by (repeat' (first | (with_reducible exact Frm.refl _ _) | (with_reducible assumption) | (with_reducible refine Frm.alloc ?_ _) | (with_reducible refine Frm.drew ?_) | (with_reducible refine Frm.drewN ?_ _) | (with_reducible refine Frm.set1 ?_ _) | (with_reducible refine Frm.setCell ?_ ?_ _) | (exact fun h => absurd h (Nat.lt_irrefl _)) | (intro hlt; simp [World.size_alloc, One] at hlt ⊢; omega)))⟩
      simp [results, Tryz.results60, go_sem]

set_option maxRecDepth 100000 in
set_option maxHeartbeats 2000000 in
theorem rEnc_any (v : Va) (w : World) (hv : v.ok) : Calls Tryz.prog 64 #[valV v] w (EncP v w) := by
  have HCK := Lib.hid (fun W => rCheck_any v W hv)
  obtain ⟨t, n, b⟩ := v
  obtain ⟨h0, h1, h2⟩ := hv
  simp only at h0 h1 h2
  have HB := Lib.hid h2
  have HSZ := Lib.hid (fun W => rSize_any t W)
  have HE : Hid (encV ⟨t, n, b⟩ = if checkV ⟨t, n, b⟩ ≠ 0 then ([], checkV ⟨t, n, b⟩) else if sizeT t ≠ 0 then (leOf n (sizeT t).toNat, 0) else (b, 0)) := rfl
  have hsz : sizeT t = 0 ∨ ∃ k : Nat, sizeT t = k ∧ 1 ≤ k ∧ k ≤ 8 := by rcases sizeT_vals t with h | h | h | h | h <;> first | exact .inl h | exact .inr ⟨_, h, by decide, by decide⟩
  have HLOW := Lib.hid (fun (k : Nat) W hk => rlow_any n k W h0 h1 hk)
  clear h1 h2
  unfold valV EncP at *
  generalize encV ⟨t, n, b⟩ = er at *
  generalize checkV ⟨t, n, b⟩ = r at *
  generalize sizeT t = sz at *
  simp only at HCK
  go_enter Tryz.func64, Tryz.ntmps64
  go_wp2_with fail
  refine (HCK.out _).mono ?_
  rintro e w1 ⟨rfl, hF⟩
  have k1 := hF.heap (heap_new w _) (fun h => h)
  have a0 : w1.cell? ⟨w.heap.size, 0, none⟩ = some (.int .i64 t) := cell_at k1
  have a1 : w1.cell? ⟨w.heap.size, 1, none⟩ = some (.int .u64 n) := cell_at k1
  have a2 : w1.cell? ⟨w.heap.size, 2, none⟩ = some (.string (strB2 b)) := cell_at k1
  have l1 := lt_of_block k1
  have HF : Hid (Frm (fun _ => False) w w1) := Frm.trans' (b := _) (by (repeat' (first | (with_reducible exact Frm.refl _ _) | (with_reducible assumption) | (with_reducible refine Frm.alloc ?_ _) | (with_reducible refine Frm.drew ?_) | (with_reducible refine Frm.drewN ?_ _) | (with_reducible refine Frm.set1 ?_ _) | (with_reducible refine Frm.setCell ?_ ?_ _) | (exact fun h => absurd h (Nat.lt_irrefl _)) | (intro hlt; simp [World.size_alloc, One] at hlt ⊢; omega)))) hF
  clear hF k1 HCK
  by_cases hr : r = 0
  case neg =>
    have b1 : (r != 0) = true := by simpa using hr
    have E : Hid (er = ([], r)) := by unfold Hid; rw [HE.out, if_pos hr]
    clear hr HE
    go_wp2_with fail
    go_ret2
    exact ⟨_, by rw [E.out]; rfl, by rw [E.out]; exact Fresh8.nil _ _, HF.out⟩
  case pos =>
    subst hr
    rw [if_neg (by simp)] at HE
    go_wp2_with fail
    refine (HSZ.out _).mono ?_
    rintro e w2 ⟨rfl, rfl⟩
    rcases hsz with rfl | ⟨k, rfl, hk1, hk8⟩
    · have E : Hid (er = (b, 0)) := by unfold Hid; rw [HE.out, if_neg (by simp)]
      clear HE
      obtain ⟨vb, w3, hrun, hfr, hF3⟩ := conv_str b HB.out w2
      have HFR := Lib.hid hfr
      have HF3 : Hid (Frm (fun _ => False) w w3) := HF.out.trans' hF3
      have HLE : Hid (w.heap.size ≤ w2.heap.size) := by unfold Hid; omega
      clear hfr hF3
      go_wp2_with fail
      go_ret2
      exact ⟨_, by rw [E.out]; rfl, by rw [E.out]; exact HFR.out.base HLE.out, HF3.out⟩
    · have E : Hid (er = (leOf n k, 0)) := by unfold Hid; rw [HE.out, if_pos (by omega)]; simp
      clear HE
      go_wp2_with fail
      refine (HLOW.out k _ hk8).mono ?_
      rintro e w3 ⟨s, rfl, hs, hF3⟩
      have HS := Lib.hid (hs.base (C := w.heap.size) (by omega))
      have HF3 := Lib.hid (HF.out.trans' hF3)
      clear hs hF3
      go_wp2_with fail
      go_ret2
      exact ⟨_, by rw [E.out]; rfl, by rw [E.out]; exact HS.out, HF3.out⟩

theorem strOf_b2 (bs : List UInt8) : strOfNums (bs.map fun b => (b.toNat : Int)) = strB2 bs := by
  unfold strOfNums strB2
  have e : ((fun n : Int => UInt8.ofNat n.toNat) ∘ fun b : UInt8 => (b.toNat : Int)) = id := by
    funext b
    simp
  rw [List.map_map, e, List.map_id]
/-- 'string(b)'. -/
theorem conv_b2s {w : World} {v : Value} {bs : List UInt8} (h : BytesAt w v bs) : (convert 24 9 v).run Tryz.prog w = .ok (.string (strB2 bs)) w := by
  obtain ⟨A, cap, rfl, h1, h2, hc⟩ := bytes_cell h
  rw [← strOf_b2]
  by_cases h0 : 0 < bs.length
  · obtain ⟨g, off, rfl, hc2⟩ := hc h0
    exact run_convert_bytes_arg (P := Tryz.prog) w 24 5 Tryz.underlying24 Tryz.underlying5 g off bs.length cap (bs.map fun b => (b.toNat : Int)) (by simp) (fun i hi => by
      rw [hc2 i hi]
      simp [List.getD_eq_getElem?_getD, hi]) 9 Tryz.underlying9
  · obtain rfl : bs = [] := List.eq_nil_of_length_eq_zero (by omega)
    cases A with
    | none => exact run_convert_bytes_nil (P := Tryz.prog) w 24 5 Tryz.underlying24 Tryz.underlying5 _ _ 9 Tryz.underlying9
    | some a =>
      rw [run_convert_bytes_string w 24 9 5 (some a) _ _ Tryz.underlying24 Tryz.underlying5 Tryz.underlying9]
      exact run_bytesToString w a 0 cap [] (by simp [loadCells, loadCellsFrom])

theorem wideN_range {t : Int} {bs : List UInt8} (hl : (bs.length : Int) = sizeT t) (h0 : sizeT t ≠ 0) : 0 ≤ wideN (sizeT t) (sgnT t) (numOf bs) ∧ wideN (sizeT t) (sgnT t) (numOf bs) < two64 := by
  have hc := capN_pow hl h0
  have hb := numOf_bound bs
  have hp : (256 : Int) ^ bs.length ≤ two64 := by
    have : bs.length = 1 ∨ bs.length = 2 ∨ bs.length = 4 ∨ bs.length = 8 := by rcases sizeT_vals t with h | h | h | h | h <;> omega
    unfold two64
    rcases this with h | h | h | h <;> rw [h] <;> decide
  unfold wideN
  rw [hc]
  split
  · omega
  · omega

theorem ret_va {a b : Va} {x y : Int} (h : a = b) (k : x = y) : Ending.returned (.tuple #[valV a, .int .i64 x]) = .returned (.tuple #[valV b, .int .i64 y]) := by rw [h, k]
def DecP (r : Va × Int) (w : World) (e : Ending) (w' : World) : Prop := e = .returned (.tuple #[valV r.1, .int .i64 r.2]) ∧ Frm (fun _ => False) w w'

set_option maxRecDepth 100000 in
set_option maxHeartbeats 2000000 in
theorem rDec_any (t : Int) (v : Value) (bs : List UInt8) (w : World) (h : BytesAt w v bs) (hl : bs.length ≤ 140737488351232) : Calls Tryz.prog 67 #[.int .i64 t, v] w (DecP (decV t bs) w) := by
  have HIS := Lib.hid (fun W => rIs_any t W)
  have HSZ := Lib.hid (fun W => rSize_any t W)
  have hD : decV t bs = if isT t = false then (.zero, 1) else if (bs.length : Int) < sizeT t then (.zero, 3)
    else if sizeT t ≠ 0 ∧ sizeT t < bs.length ∨ 65536 < bs.length then (.zero, 2)
    else if checkV (rawV t bs) ≠ 0 then (.zero, 8) else (rawV t bs, 0) := rfl
  have HCK := Lib.hid (fun W hv => rCheck_any (rawV t bs) W hv)
  have HCV := Lib.hid (fun W (hF : Frm (fun _ => False) w W) => conv_b2s (h.grow hF))
  have HWD := Lib.hid (fun W (hF : Frm (fun _ => False) w W) hl h0 => rWide_any t v bs W (h.grow hF) hl h0)
  have HRG := Lib.hid (fun hl h0 => @wideN_range t bs hl h0)
  have hraw : rawV t bs = if sizeT t ≠ 0 then ⟨t, wideN (sizeT t) (sgnT t) (numOf bs), []⟩ else ⟨t, 0, bs⟩ := rfl
  obtain ⟨A, cap, rfl, h1, h2, hc⟩ := bytes_cell h
  have hm : bs.length ≤ 9223372036854775807 := Nat.le_trans h1 h2
  have HL := Lib.hid hl
  have hs0 : 0 ≤ sizeT t := by rcases sizeT_vals t with h | h | h | h | h <;> omega
  have hs8 : sizeT t ≤ 8 := by rcases sizeT_vals t with h | h | h | h | h <;> omega
  unfold DecP
  generalize decV t bs = r at *
  have HD := Lib.hid hD
  have HRAW := Lib.hid hraw
  clear hD hraw h1 h2 hc h hl
  generalize rawV t bs = raw at *
  generalize wideN (sizeT t) (sgnT t) (numOf bs) = wn at *
  generalize isT t = is at *
  generalize sizeT t = sz at *
  cases is with
  | false =>
    have E : Hid (r = (.zero, 1)) := by unfold Hid; rw [HD.out, if_pos rfl]
    clear HD
    go_enter Tryz.func67, Tryz.ntmps67
    go_wp2_with fail
    refine (HIS.out _).mono ?_
    rintro e w' ⟨rfl, rfl⟩
    go_wp2_with fail
    refine bodyPost_ret (ret_v2 Tryz.results67 _ _ _ _ _ _ rfl (heap_new _ _)) rfl ⟨?_, by (repeat' (first | (with_reducible exact Frm.refl _ _) | (with_reducible assumption) | (with_reducible refine Frm.alloc ?_ _) | (with_reducible refine Frm.drew ?_) | (with_reducible refine Frm.drewN ?_ _) | (with_reducible refine Frm.set1 ?_ _) | (with_reducible refine Frm.setCell ?_ ?_ _) | (exact fun h => absurd h (Nat.lt_irrefl _)) | (intro hlt; simp [World.size_alloc, One] at hlt ⊢; omega)))⟩
    rw [E.out]
    rfl
  | true =>
    rw [if_neg (by decide)] at HD
    by_cases h3 : (bs.length : Int) < sz
    · have E : Hid (r = (.zero, 3)) := by unfold Hid; rw [HD.out, if_pos h3]
      clear HD
      go_enter Tryz.func67, Tryz.ntmps67
      go_wp2_with fail
      refine (HIS.out _).mono ?_
      rintro e w' ⟨rfl, rfl⟩
      go_wp2_with fail
      refine (HSZ.out _).mono ?_
      rintro e w' ⟨rfl, rfl⟩
      go_wp2_with fail
      refine bodyPost_ret (ret_v2 Tryz.results67 _ _ _ _ _ _ rfl (heap_alloc_old (heap_new _ _))) rfl ⟨?_, by (repeat' (first | (with_reducible exact Frm.refl _ _) | (with_reducible assumption) | (with_reducible refine Frm.alloc ?_ _) | (with_reducible refine Frm.drew ?_) | (with_reducible refine Frm.drewN ?_ _) | (with_reducible refine Frm.set1 ?_ _) | (with_reducible refine Frm.setCell ?_ ?_ _) | (exact fun h => absurd h (Nat.lt_irrefl _)) | (intro hlt; simp [World.size_alloc, One] at hlt ⊢; omega)))⟩
      rw [E.out]
      rfl
    · rw [if_neg h3] at HD
      by_cases hlong : sz ≠ 0 ∧ sz < bs.length ∨ 65536 < bs.length
      · have E : Hid (r = (.zero, 2)) := by unfold Hid; rw [HD.out, if_pos hlong]
        clear HD
        by_cases hz : 0 < sz
        · have hlt : sz < (bs.length : Int) := by omega
          clear hlong h3
          go_enter Tryz.func67, Tryz.ntmps67
          go_wp2_with fail
          refine (HIS.out _).mono ?_
          rintro e w' ⟨rfl, rfl⟩
          go_wp2_with fail
          refine (HSZ.out _).mono ?_
          rintro e w' ⟨rfl, rfl⟩
          go_wp2_with fail
          refine bodyPost_ret (ret_v2 Tryz.results67 _ _ _ _ _ _ rfl (heap_alloc_old (heap_new _ _))) rfl ⟨?_, by (repeat' (first | (with_reducible exact Frm.refl _ _) | (with_reducible assumption) | (with_reducible refine Frm.alloc ?_ _) | (with_reducible refine Frm.drew ?_) | (with_reducible refine Frm.drewN ?_ _) | (with_reducible refine Frm.set1 ?_ _) | (with_reducible refine Frm.setCell ?_ ?_ _) | (exact fun h => absurd h (Nat.lt_irrefl _)) | (intro hlt; simp [World.size_alloc, One] at hlt ⊢; omega)))⟩
          rw [E.out]
          rfl
        · obtain rfl : sz = 0 := by omega
          have hlt : 65536 < bs.length := by omega
          clear hlong h3
          go_enter Tryz.func67, Tryz.ntmps67
          go_wp2_with fail
          refine (HIS.out _).mono ?_
          rintro e w' ⟨rfl, rfl⟩
          go_wp2_with fail
          refine (HSZ.out _).mono ?_
          rintro e w' ⟨rfl, rfl⟩
          go_wp2_with fail
          refine bodyPost_ret (ret_v2 Tryz.results67 _ _ _ _ _ _ rfl (heap_alloc_old (heap_new _ _))) rfl ⟨?_, by (repeat' (first | (with_reducible exact Frm.refl _ _) | (with_reducible assumption) | (with_reducible refine Frm.alloc ?_ _) | (with_reducible refine Frm.drew ?_) | (with_reducible refine Frm.drewN ?_ _) | (with_reducible refine Frm.set1 ?_ _) | (with_reducible refine Frm.setCell ?_ ?_ _) | (exact fun h => absurd h (Nat.lt_irrefl _)) | (intro hlt; simp [World.size_alloc, One] at hlt ⊢; omega)))⟩
          rw [E.out]
          rfl
      · rw [if_neg hlong] at HD
        by_cases hz : 0 < sz
        · have hlz : sz = bs.length := by omega
          have HRAW : Hid (raw = ⟨t, wn, []⟩) := by unfold Hid; rw [HRAW.out, if_pos (by omega)]
          have HWD2 := Lib.hid (fun W hF => HWD.out W hF hlz.symm (by omega))
          have hrg := HRG.out hlz.symm (by omega)
          rw [HRAW.out] at HD HCK
          generalize hck0 : checkV ⟨t, wn, []⟩ = ck at *
          have HCK2 : Hid (∀ W, Calls Tryz.prog 91 #[.agg #[.int .i64 t, .int .u64 wn, .string ⟨#[]⟩]] W fun e w' => e = .returned (.int .i64 ck) ∧ Frm (fun _ => False) W w') := fun W => HCK.out W ⟨hrg.1, hrg.2, by simp⟩
          have hle : (bs.length : Int) ≤ sz := by omega
          have hge : sz ≤ (bs.length : Int) := by omega
          have hle2 : bs.length ≤ 65536 := by omega
          clear hlong h3 HCK HWD HRG hrg hlz hck0
          go_enter Tryz.func67, Tryz.ntmps67
          go_wp2_with fail
          refine (HIS.out _).mono ?_
          rintro e w' ⟨rfl, rfl⟩
          go_wp2_with fail
          refine (HSZ.out _).mono ?_
          rintro e w' ⟨rfl, rfl⟩
          go_wp2_with fail
          refine (HWD2.out _ (by (repeat' (first | (with_reducible exact Frm.refl _ _) | (with_reducible assumption) | (with_reducible refine Frm.alloc ?_ _) | (with_reducible refine Frm.drew ?_) | (with_reducible refine Frm.drewN ?_ _) | (with_reducible refine Frm.set1 ?_ _) | (with_reducible refine Frm.setCell ?_ ?_ _) | (exact fun h => absurd h (Nat.lt_irrefl _)) | (intro hlt; simp [World.size_alloc, One] at hlt ⊢; omega))))).mono ?_
          rintro e w' ⟨rfl, rfl⟩
          go_wp2_with fail
          refine (HCK2.out _).mono ?_
          rintro e w2 ⟨rfl, hF2⟩
          have k0 := hF2.heap (heap_alloc_old (heap_new w _)) (fun h => h)
          have k1 := hF2.heap (heap_new_at (k := w.heap.size + 1) (by simp)) (fun h => h)
          have z0 : w2.cell? ⟨w.heap.size, 0, none⟩ = some (.int .i64 0) := cell_at k0
          have z1 : w2.cell? ⟨w.heap.size, 1, none⟩ = some (.int .u64 0) := cell_at k0
          have z2 : w2.cell? ⟨w.heap.size, 2, none⟩ = some (.string ⟨#[]⟩) := cell_at k0
          have f0 := frees k0
          have l0 := lt_of_block k0
          have K0 := Lib.hid k0
          have y0 : w2.cell? ⟨w.heap.size + 1, 0, none⟩ = some (.int .i64 t) := cell_at k1
          have y1 : w2.cell? ⟨w.heap.size + 1, 1, none⟩ = some (.int .u64 wn) := cell_at k1
          have y2 : w2.cell? ⟨w.heap.size + 1, 2, none⟩ = some (.string ⟨#[]⟩) := cell_at k1
          have l1 := lt_of_block k1
          have HF2 : Hid (Frm (fun _ => False) w w2) := Frm.trans' (b := _) (by (repeat' (first | (with_reducible exact Frm.refl _ _) | (with_reducible assumption) | (with_reducible refine Frm.alloc ?_ _) | (with_reducible refine Frm.drew ?_) | (with_reducible refine Frm.drewN ?_ _) | (with_reducible refine Frm.set1 ?_ _) | (with_reducible refine Frm.setCell ?_ ?_ _) | (exact fun h => absurd h (Nat.lt_irrefl _)) | (intro hlt; simp [World.size_alloc, One] at hlt ⊢; omega)))) hF2
          clear hF2 k0 k1
          by_cases hck : ck = 0
          · have E : Hid (r = (⟨t, wn, []⟩, 0)) := by unfold Hid; rw [HD.out, if_neg (by simpa using hck)]
            clear HD
            subst hck
            go_wp2_with fail
            refine bodyPost_ret (ret_v2 Tryz.results67 _ _ _ _ _ _ rfl (store3 K0.out)) rfl ⟨?_, ?_⟩
            · rw [E.out]; rfl
            · have hf : Frm (fun _ => False) w w2 := HF2.out
              (repeat' (first | (with_reducible exact Frm.refl _ _) | (with_reducible assumption) | (with_reducible refine Frm.alloc ?_ _) | (with_reducible refine Frm.drew ?_) | (with_reducible refine Frm.drewN ?_ _) | (with_reducible refine Frm.set1 ?_ _) | (with_reducible refine Frm.setCell ?_ ?_ _) | (exact fun h => absurd h (Nat.lt_irrefl _)) | (intro hlt; simp [World.size_alloc, One] at hlt ⊢; omega)))
          · have E : Hid (r = (.zero, 8)) := by unfold Hid; rw [HD.out, if_pos hck]
            have bc : (ck != 0) = true := by simpa using hck
            clear HD hck
            go_wp2_with fail
            refine bodyPost_ret (ret_v2 Tryz.results67 _ _ _ _ _ _ rfl (store3 K0.out)) rfl ⟨?_, ?_⟩
            · rw [E.out]; rfl
            · have hf : Frm (fun _ => False) w w2 := HF2.out
              (repeat' (first | (with_reducible exact Frm.refl _ _) | (with_reducible assumption) | (with_reducible refine Frm.alloc ?_ _) | (with_reducible refine Frm.drew ?_) | (with_reducible refine Frm.drewN ?_ _) | (with_reducible refine Frm.set1 ?_ _) | (with_reducible refine Frm.setCell ?_ ?_ _) | (exact fun h => absurd h (Nat.lt_irrefl _)) | (intro hlt; simp [World.size_alloc, One] at hlt ⊢; omega)))
        · obtain rfl : sz = 0 := by omega
          have HRAW : Hid (raw = ⟨t, 0, bs⟩) := by unfold Hid; rw [HRAW.out, if_neg (by simp)]
          rw [HRAW.out] at HD HCK
          generalize hck0 : checkV ⟨t, 0, bs⟩ = ck at *
          have HCK2 : Hid (∀ W, Calls Tryz.prog 91 #[.agg #[.int .i64 t, .int .u64 0, .string (strB2 bs)]] W fun e w' => e = .returned (.int .i64 ck) ∧ Frm (fun _ => False) W w') := fun W => HCK.out W ⟨Int.le_refl _, (by unfold two64; exact (by decide : (0 : Int) < 18446744073709551616)), HL.out⟩
          have hle2 : bs.length ≤ 65536 := by omega
          have HCV2 := HCV.out ((w.alloc (.cells #[.int .i64 0, .int .u64 0, .string ⟨#[]⟩] 57)).alloc (.cells #[.int .i64 t, .int .u64 0, .string ⟨#[]⟩] 57)) (by (repeat' (first | (with_reducible exact Frm.refl _ _) | (with_reducible assumption) | (with_reducible refine Frm.alloc ?_ _) | (with_reducible refine Frm.drew ?_) | (with_reducible refine Frm.drewN ?_ _) | (with_reducible refine Frm.set1 ?_ _) | (with_reducible refine Frm.setCell ?_ ?_ _) | (exact fun h => absurd h (Nat.lt_irrefl _)) | (intro hlt; simp [World.size_alloc, One] at hlt ⊢; omega))))
          clear hlong h3 HCK HWD HRG hck0 HCV
          go_enter Tryz.func67, Tryz.ntmps67
          go_wp2_with fail
          refine (HIS.out _).mono ?_
          rintro e w' ⟨rfl, rfl⟩
          go_wp2_with fail
          refine (HSZ.out _).mono ?_
          rintro e w' ⟨rfl, rfl⟩
          go_wp2_with fail
          refine (HCK2.out _).mono ?_
          rintro e w2 ⟨rfl, hF2⟩
          have k0 := hF2.heap (heap_alloc_old (heap_new w _)) (fun h => h)
          have k1 := hF2.heap (heap_new_at (k := w.heap.size + 1) (by simp)) (fun h => h)
          have z0 : w2.cell? ⟨w.heap.size, 0, none⟩ = some (.int .i64 0) := cell_at k0
          have z1 : w2.cell? ⟨w.heap.size, 1, none⟩ = some (.int .u64 0) := cell_at k0
          have z2 : w2.cell? ⟨w.heap.size, 2, none⟩ = some (.string ⟨#[]⟩) := cell_at k0
          have f0 := frees k0
          have l0 := lt_of_block k0
          have K0 := Lib.hid k0
          have y0 : w2.cell? ⟨w.heap.size + 1, 0, none⟩ = some (.int .i64 t) := cell_at k1
          have y1 : w2.cell? ⟨w.heap.size + 1, 1, none⟩ = some (.int .u64 0) := cell_at k1
          have y2 : w2.cell? ⟨w.heap.size + 1, 2, none⟩ = some (.string (strB2 bs)) := cell_at k1
          have l1 := lt_of_block k1
          have HF2 : Hid (Frm (fun _ => False) w w2) := Frm.trans' (b := _) (by (repeat' (first | (with_reducible exact Frm.refl _ _) | (with_reducible assumption) | (with_reducible refine Frm.alloc ?_ _) | (with_reducible refine Frm.drew ?_) | (with_reducible refine Frm.drewN ?_ _) | (with_reducible refine Frm.set1 ?_ _) | (with_reducible refine Frm.setCell ?_ ?_ _) | (exact fun h => absurd h (Nat.lt_irrefl _)) | (intro hlt; simp [World.size_alloc, One] at hlt ⊢; omega)))) hF2
          clear hF2 k0 k1
          by_cases hck : ck = 0
          · have E : Hid (r = (⟨t, 0, bs⟩, 0)) := by unfold Hid; rw [HD.out, if_neg (by simpa using hck)]
            clear HD
            subst hck
            go_wp2_with fail
            refine bodyPost_ret (ret_v2 Tryz.results67 _ _ _ _ _ _ rfl (store3 K0.out)) rfl ⟨?_, ?_⟩
            · rw [E.out]; rfl
            · have hf : Frm (fun _ => False) w w2 := HF2.out
              (repeat' (first | (with_reducible exact Frm.refl _ _) | (with_reducible assumption) | (with_reducible refine Frm.alloc ?_ _) | (with_reducible refine Frm.drew ?_) | (with_reducible refine Frm.drewN ?_ _) | (with_reducible refine Frm.set1 ?_ _) | (with_reducible refine Frm.setCell ?_ ?_ _) | (exact fun h => absurd h (Nat.lt_irrefl _)) | (intro hlt; simp [World.size_alloc, One] at hlt ⊢; omega)))
          · have E : Hid (r = (.zero, 8)) := by unfold Hid; rw [HD.out, if_pos hck]
            have bc : (ck != 0) = true := by simpa using hck
            clear HD hck
            go_wp2_with fail
            refine bodyPost_ret (ret_v2 Tryz.results67 _ _ _ _ _ _ rfl (store3 K0.out)) rfl ⟨?_, ?_⟩
            · rw [E.out]; rfl
            · have hf : Frm (fun _ => False) w w2 := HF2.out
              (repeat' (first | (with_reducible exact Frm.refl _ _) | (with_reducible assumption) | (with_reducible refine Frm.alloc ?_ _) | (with_reducible refine Frm.drew ?_) | (with_reducible refine Frm.drewN ?_ _) | (with_reducible refine Frm.set1 ?_ _) | (with_reducible refine Frm.setCell ?_ ?_ _) | (exact fun h => absurd h (Nat.lt_irrefl _)) | (intro hlt; simp [World.size_alloc, One] at hlt ⊢; omega)))
end Go.Proofs.YtemjdmgfilbfaaaGreat
namespace Go.Proofs.YtemjdmgfilbfaaaGreat
open Go.RowKit
set_option linter.unusedVariables false

/-- The number, made wide by shifting up and down. -/
theorem shift_wide1 (m : Int) (h0 : 0 ≤ m) (h1 : m < 256) : IntKind.u64.wrap (wrap64 (IntKind.u64.wrap (m * 72057594037927936)) / 72057594037927936) = wideN 1 true m := by
  simp only [u64w, wrap64, wideN, capN, two64]
  simp
  split <;> omega
theorem shift_wide2 (m : Int) (h0 : 0 ≤ m) (h1 : m < 65536) : IntKind.u64.wrap (wrap64 (IntKind.u64.wrap (m * 281474976710656)) / 281474976710656) = wideN 2 true m := by
  simp only [u64w, wrap64, wideN, capN, two64]
  simp
  split <;> omega
theorem shift_wide4 (m : Int) (h0 : 0 ≤ m) (h1 : m < 4294967296) : IntKind.u64.wrap (wrap64 (IntKind.u64.wrap (m * 4294967296)) / 4294967296) = wideN 4 true m := by
  simp only [u64w, wrap64, wideN, capN, two64]
  simp
  split <;> omega

theorem shift_wide8 (m : Int) (h0 : 0 ≤ m) (h1 : m < 18446744073709551616) : IntKind.u64.wrap (wrap64 (IntKind.u64.wrap m)) = wideN 8 true m := by
  simp only [u64w, wrap64, wideN, capN, two64]
  simp
  omega

set_option maxRecDepth 100000 in
set_option maxHeartbeats 4000000 in
theorem tyDec_any (t : Int) (v : Value) (bs : List UInt8) (w : World) (h : BytesAt w v bs) (hl : bs.length ≤ 140737488351232) : Calls Tryz.prog 93 #[.int .i64 t, v] w (DecP (decV t bs) w) := by
  have HOF := Lib.hid (fun W => tyOf_any t W)
  have hD : decV t bs = if isT t = false then (.zero, 1) else if (bs.length : Int) < sizeT t then (.zero, 3)
    else if sizeT t ≠ 0 ∧ sizeT t < bs.length ∨ 65536 < bs.length then (.zero, 2)
    else if checkV (rawV t bs) ≠ 0 then (.zero, 8) else (rawV t bs, 0) := rfl
  have HCK := Lib.hid (fun W hv => tyChk_any (rawV t bs) W hv)
  have HCV := Lib.hid (fun W (hF : Frm (fun _ => False) w W) => conv_b2s (h.grow hF))
  have HBY := Lib.hid (fun W (hF : Frm (fun _ => False) w W) => h.grow hF)
  have HRG := Lib.hid (fun hl h0 => @wideN_range t bs hl h0)
  have hraw : rawV t bs = if sizeT t ≠ 0 then ⟨t, wideN (sizeT t) (sgnT t) (numOf bs), []⟩ else ⟨t, 0, bs⟩ := rfl
  obtain ⟨A, cap, rfl, h1, h2, hc⟩ := bytes_cell h
  have hm : bs.length ≤ 9223372036854775807 := Nat.le_trans h1 h2
  have HL := Lib.hid hl
  have hs4 : sizeT t = 0 ∨ sizeT t = 1 ∨ sizeT t = 2 ∨ sizeT t = 4 ∨ sizeT t = 8 := sizeT_vals t
  unfold DecP
  generalize decV t bs = r at *
  have HD := Lib.hid hD
  have HRAW := Lib.hid hraw
  clear hD hraw h1 h2 hc h hl
  unfold kindV at HOF
  generalize rawV t bs = raw at *
  generalize isT t = is at *
  generalize sgnT t = sg at *
  generalize sizeT t = sz at *
  go_enter Tryz.func93, Tryz.ntmps93
  go_wp2_with fail
  refine (HOF.out _).mono ?_
  rintro e w1 ⟨rfl, hF⟩
  have k0 := hF.heap (heap_new w _) (fun h => h)
  have z0 : w1.cell? ⟨w.heap.size, 0, none⟩ = some (.int .i64 0) := cell_at k0
  have z1 : w1.cell? ⟨w.heap.size, 1, none⟩ = some (.int .u64 0) := cell_at k0
  have z2 : w1.cell? ⟨w.heap.size, 2, none⟩ = some (.string ⟨#[]⟩) := cell_at k0
  have f0 := frees k0
  have l0 := lt_of_block k0
  have K0 := Lib.hid k0
  have HF : Hid (Frm (fun _ => False) w w1) := Frm.trans' (b := _) (by (repeat' (first | (with_reducible exact Frm.refl _ _) | (with_reducible assumption) | (with_reducible refine Frm.alloc ?_ _) | (with_reducible refine Frm.drew ?_) | (with_reducible refine Frm.drewN ?_ _) | (with_reducible refine Frm.set1 ?_ _) | (with_reducible refine Frm.setCell ?_ ?_ _) | (exact fun h => absurd h (Nat.lt_irrefl _)) | (intro hlt; simp [World.size_alloc, One] at hlt ⊢; omega)))) hF
  clear hF k0
  cases is with
  | false =>
    have E : Hid (r = (.zero, 1)) := by unfold Hid; rw [HD.out, if_pos rfl]
    clear HD
    go_wp2_with fail
    refine bodyPost_ret (ret_v2 Tryz.results93 _ _ _ _ _ _ rfl (heap_alloc_old (heap_alloc_old (store3 K0.out)))) rfl ⟨?_, ?_⟩
    · rw [E.out]; rfl
    · have hf : Frm (fun _ => False) w w1 := HF.out
      (repeat' (first | (with_reducible exact Frm.refl _ _) | (with_reducible assumption) | (with_reducible refine Frm.alloc ?_ _) | (with_reducible refine Frm.drew ?_) | (with_reducible refine Frm.drewN ?_ _) | (with_reducible refine Frm.set1 ?_ _) | (with_reducible refine Frm.setCell ?_ ?_ _) | (exact fun h => absurd h (Nat.lt_irrefl _)) | (intro hlt; simp [World.size_alloc, One] at hlt ⊢; omega)))
  | true =>
    rw [if_neg (by decide)] at HD
    by_cases h3 : (bs.length : Int) < sz
    · have E : Hid (r = (.zero, 3)) := by unfold Hid; rw [HD.out, if_pos h3]
      clear HD
      go_wp2_with fail
      refine bodyPost_ret (ret_v2 Tryz.results93 _ _ _ _ _ _ rfl (heap_alloc_old (heap_alloc_old (store3 K0.out)))) rfl ⟨?_, ?_⟩
      · rw [E.out]; rfl
      · have hf : Frm (fun _ => False) w w1 := HF.out
        (repeat' (first | (with_reducible exact Frm.refl _ _) | (with_reducible assumption) | (with_reducible refine Frm.alloc ?_ _) | (with_reducible refine Frm.drew ?_) | (with_reducible refine Frm.drewN ?_ _) | (with_reducible refine Frm.set1 ?_ _) | (with_reducible refine Frm.setCell ?_ ?_ _) | (exact fun h => absurd h (Nat.lt_irrefl _)) | (intro hlt; simp [World.size_alloc, One] at hlt ⊢; omega)))
    · rw [if_neg h3] at HD
      have hs0 : 0 ≤ sz := by omega
      by_cases hlong : sz ≠ 0 ∧ sz < bs.length ∨ 65536 < bs.length
      · have E : Hid (r = (.zero, 2)) := by unfold Hid; rw [HD.out, if_pos hlong]
        clear HD
        by_cases hz : 0 < sz
        · have hlt : sz < (bs.length : Int) := by omega
          clear hlong h3
          go_wp2_with fail
          refine bodyPost_ret (ret_v2 Tryz.results93 _ _ _ _ _ _ rfl (heap_alloc_old (heap_alloc_old (store3 K0.out)))) rfl ⟨?_, ?_⟩
          · rw [E.out]; rfl
          · have hf : Frm (fun _ => False) w w1 := HF.out
            (repeat' (first | (with_reducible exact Frm.refl _ _) | (with_reducible assumption) | (with_reducible refine Frm.alloc ?_ _) | (with_reducible refine Frm.drew ?_) | (with_reducible refine Frm.drewN ?_ _) | (with_reducible refine Frm.set1 ?_ _) | (with_reducible refine Frm.setCell ?_ ?_ _) | (exact fun h => absurd h (Nat.lt_irrefl _)) | (intro hlt; simp [World.size_alloc, One] at hlt ⊢; omega)))
        · obtain rfl : sz = 0 := by omega
          have hlt : 65536 < bs.length := by omega
          clear hlong h3
          go_wp2_with fail
          refine bodyPost_ret (ret_v2 Tryz.results93 _ _ _ _ _ _ rfl (heap_alloc_old (heap_alloc_old (store3 K0.out)))) rfl ⟨?_, ?_⟩
          · rw [E.out]; rfl
          · have hf : Frm (fun _ => False) w w1 := HF.out
            (repeat' (first | (with_reducible exact Frm.refl _ _) | (with_reducible assumption) | (with_reducible refine Frm.alloc ?_ _) | (with_reducible refine Frm.drew ?_) | (with_reducible refine Frm.drewN ?_ _) | (with_reducible refine Frm.set1 ?_ _) | (with_reducible refine Frm.setCell ?_ ?_ _) | (exact fun h => absurd h (Nat.lt_irrefl _)) | (intro hlt; simp [World.size_alloc, One] at hlt ⊢; omega)))
      · rw [if_neg hlong] at HD
        by_cases hz : sz = 0
        · subst hz
          have HRAW : Hid (raw = ⟨t, 0, bs⟩) := by unfold Hid; rw [HRAW.out, if_neg (by simp)]
          rw [HRAW.out] at HD HCK
          generalize hck0 : checkV ⟨t, 0, bs⟩ = ck at *
          have HCK2 : Hid (∀ W, Calls Tryz.prog 76 #[.agg #[.int .i64 t, .int .u64 0, .string (strB2 bs)]] W fun e w' => e = .returned (.int .i64 ck) ∧ Frm (fun _ => False) W w') := fun W => HCK.out W ⟨Int.le_refl _, (by unfold two64; exact (by decide : (0 : Int) < 18446744073709551616)), HL.out⟩
          have hle2 : bs.length ≤ 65536 := by omega
          have HCV2 := HCV.out ((w1.alloc (.cells #[.int .i64 0, .bool sg, .bool true] 136)).alloc (.cells #[.int .i64 t, .int .u64 0, .string ⟨#[]⟩] 57)) (by have hf : Frm (fun _ => False) w w1 := HF.out; (repeat' (first | (with_reducible exact Frm.refl _ _) | (with_reducible assumption) | (with_reducible refine Frm.alloc ?_ _) | (with_reducible refine Frm.drew ?_) | (with_reducible refine Frm.drewN ?_ _) | (with_reducible refine Frm.set1 ?_ _) | (with_reducible refine Frm.setCell ?_ ?_ _) | (exact fun h => absurd h (Nat.lt_irrefl _)) | (intro hlt; simp [World.size_alloc, One] at hlt ⊢; omega))))
          clear hlong h3 HCK HRG hck0 HCV
          go_wp2_with fail
          refine (HCK2.out _).mono ?_
          rintro e w2 ⟨rfl, hF2⟩
          have k0 := hF2.heap (heap_alloc_old (heap_alloc_old K0.out)) (fun h => h)
          have k1 := hF2.heap (heap_new_at (k := w1.heap.size + 1) (by simp)) (fun h => h)
          have z0 : w2.cell? ⟨w.heap.size, 0, none⟩ = some (.int .i64 0) := cell_at k0
          have z1 : w2.cell? ⟨w.heap.size, 1, none⟩ = some (.int .u64 0) := cell_at k0
          have z2 : w2.cell? ⟨w.heap.size, 2, none⟩ = some (.string ⟨#[]⟩) := cell_at k0
          have f0 := frees k0
          have l0 := lt_of_block k0
          have K0 := Lib.hid k0
          have y0 : w2.cell? ⟨w1.heap.size + 1, 0, none⟩ = some (.int .i64 t) := cell_at k1
          have y1 : w2.cell? ⟨w1.heap.size + 1, 1, none⟩ = some (.int .u64 0) := cell_at k1
          have y2 : w2.cell? ⟨w1.heap.size + 1, 2, none⟩ = some (.string (strB2 bs)) := cell_at k1
          have l1 := lt_of_block k1
          have HF2 : Hid (Frm (fun _ => False) w w2) := (HF.out.trans' (by (repeat' (first | (with_reducible exact Frm.refl _ _) | (with_reducible assumption) | (with_reducible refine Frm.alloc ?_ _) | (with_reducible refine Frm.drew ?_) | (with_reducible refine Frm.drewN ?_ _) | (with_reducible refine Frm.set1 ?_ _) | (with_reducible refine Frm.setCell ?_ ?_ _) | (exact fun h => absurd h (Nat.lt_irrefl _)) | (intro hlt; simp [World.size_alloc, One] at hlt ⊢; omega))))).trans' hF2
          clear hF2 k0 k1
          by_cases hck : ck = 0
          · have E : Hid (r = (⟨t, 0, bs⟩, 0)) := by unfold Hid; rw [HD.out, if_neg (by simpa using hck)]
            clear HD
            subst hck
            go_wp2_with fail
            refine bodyPost_ret (ret_v2 Tryz.results93 _ _ _ _ _ _ rfl (store3 K0.out)) rfl ⟨?_, ?_⟩
            · rw [E.out]; rfl
            · have hf : Frm (fun _ => False) w w2 := HF2.out
              (repeat' (first | (with_reducible exact Frm.refl _ _) | (with_reducible assumption) | (with_reducible refine Frm.alloc ?_ _) | (with_reducible refine Frm.drew ?_) | (with_reducible refine Frm.drewN ?_ _) | (with_reducible refine Frm.set1 ?_ _) | (with_reducible refine Frm.setCell ?_ ?_ _) | (exact fun h => absurd h (Nat.lt_irrefl _)) | (intro hlt; simp [World.size_alloc, One] at hlt ⊢; omega)))
          · have E : Hid (r = (.zero, 8)) := by unfold Hid; rw [HD.out, if_pos hck]
            have bc : (ck != 0) = true := by simpa using hck
            clear HD hck
            go_wp2_with fail
            refine bodyPost_ret (ret_v2 Tryz.results93 _ _ _ _ _ _ rfl (store3 K0.out)) rfl ⟨?_, ?_⟩
            · rw [E.out]; rfl
            · have hf : Frm (fun _ => False) w w2 := HF2.out
              (repeat' (first | (with_reducible exact Frm.refl _ _) | (with_reducible assumption) | (with_reducible refine Frm.alloc ?_ _) | (with_reducible refine Frm.drew ?_) | (with_reducible refine Frm.drewN ?_ _) | (with_reducible refine Frm.set1 ?_ _) | (with_reducible refine Frm.setCell ?_ ?_ _) | (exact fun h => absurd h (Nat.lt_irrefl _)) | (intro hlt; simp [World.size_alloc, One] at hlt ⊢; omega)))
        · have hlz : (bs.length : Int) = sz := by omega
          have HRAW : Hid (raw = ⟨t, wideN sz sg (numOf bs), []⟩) := by unfold Hid; rw [HRAW.out, if_pos hz]
          have hrg := HRG.out hlz hz
          rw [HRAW.out] at HD HCK
          generalize hck0 : checkV ⟨t, wideN sz sg (numOf bs), []⟩ = ck at *
          have HCK2 : Hid (∀ W, Calls Tryz.prog 76 #[.agg #[.int .i64 t, .int .u64 (wideN sz sg (numOf bs)), .string ⟨#[]⟩]] W fun e w' => e = .returned (.int .i64 ck) ∧ Frm (fun _ => False) W w') := fun W => HCK.out W ⟨hrg.1, hrg.2, by simp⟩
          have hbd := numOf_bound bs
          have HBD := Lib.hid hbd
          have HW0 : Hid (Frm (fun _ => False) w ((w1.alloc (.cells #[.int .i64 sz, .bool sg, .bool true] 136)).alloc (.cells #[.int .i64 t, .int .u64 0, .string ⟨#[]⟩] 57))) := by
            have hf : Frm (fun _ => False) w w1 := HF.out
            unfold Hid
            (repeat' (first | (with_reducible exact Frm.refl _ _) | (with_reducible assumption) | (with_reducible refine Frm.alloc ?_ _) | (with_reducible refine Frm.drew ?_) | (with_reducible refine Frm.drewN ?_ _) | (with_reducible refine Frm.set1 ?_ _) | (with_reducible refine Frm.setCell ?_ ?_ _) | (exact fun h => absurd h (Nat.lt_irrefl _)) | (intro hlt; simp [World.size_alloc, One] at hlt ⊢; omega)))
          have HK : Hid (((w1.alloc (.cells #[.int .i64 sz, .bool sg, .bool true] 136)).alloc (.cells #[.int .i64 t, .int .u64 0, .string ⟨#[]⟩] 57)).heap[w1.heap.size + 1]? = some (.cells #[.int .i64 t, .int .u64 0, .string ⟨#[]⟩] 57 (0, 0))) := heap_new_at (by simp)
          have HKD : Hid (((w1.alloc (.cells #[.int .i64 sz, .bool sg, .bool true] 136)).alloc (.cells #[.int .i64 t, .int .u64 0, .string ⟨#[]⟩] 57)).heap[w1.heap.size]? = some (.cells #[.int .i64 sz, .bool sg, .bool true] 136 (0, 0))) := heap_alloc_old (heap_new _ _)
          clear hlong h3 HCK HRG hrg hck0 HCV hbd
          have hge : sz ≤ (bs.length : Int) := by omega
          have hle : (bs.length : Int) ≤ sz := by omega
          have hle8 : bs.length ≤ 8 := by omega
          have hsz0 : (sz == 0) = false := beq_eq_false_iff_ne.2 hz
          have hsz1 : 0 < sz := by omega
          have HLZ := Lib.hid hlz
          have HS4 := Lib.hid hs4
          clear hlz hz hs4
          go_wp2_with fail
          go_loopw [17] (fun i wr => ∃ k : Nat, k ≤ bs.length ∧ i = .int .i64 k ∧ wr.heap[w1.heap.size + 1]? = some (.cells #[.int .i64 t, .int .u64 (numOf (bs.take k)), .string ⟨#[]⟩] 57 (0, 0)) ∧ Frm (One (w1.heap.size + 1)) ((w1.alloc (.cells #[.int .i64 sz, .bool sg, .bool true] 136)).alloc (.cells #[.int .i64 t, .int .u64 0, .string ⟨#[]⟩] 57)) wr) (fun i _ => bs.length - (intOf i).toNat)
          case atStart => exact ⟨0, Nat.zero_le _, rfl, HK.out, Frm.refl _ _⟩
          case round =>
            obtain ⟨k, hk, rfl, hblk, hFr⟩ := hrel
            have HBLK := Lib.hid hblk
            have HFR := Lib.hid hFr
            have x1 : wr.cell? ⟨w1.heap.size + 1, 1, none⟩ = some (.int .u64 (numOf (bs.take k))) := cell_at hblk
            have lx := lt_of_block hblk
            have fx := frees hblk
            have HFW : Hid (Frm (fun _ => False) w wr) := HW0.out.trans hFr (fun i hi e => by have e : i = w1.heap.size + 1 := e; omega)
            by_cases hlt : k < bs.length
            · obtain ⟨A', c', hv', _, _, hcell⟩ := bytes_cell (HBY.out wr HFW.out)
              cases hv'
              obtain ⟨g, off, rfl, hc2⟩ := hcell (by omega)
              have c0 := hc2 k hlt
              have hb := (bs[k]).toNat_lt
              have hk7 : (k : Int) ≤ 7 := by omega
              have HX : Hid (bits BinOp.or IntKind.u64 (numOf (bs.take k)) (IntKind.u64.wrap ((bs[k].toNat : Int) * 2 ^ (8 * k))) = numOf (bs.take (k + 1))) := by
                have hlen : (bs.take k).length = k := by simp; omega
                have hbd := numOf_bound (bs.take k)
                rw [hlen] at hbd
                unfold Hid
                rw [orWide _ _ k (by omega) hbd.1 hbd.2 (by omega) (by omega), List.take_succ_eq_append_getElem hlt, numOf_snoc, hlen]
              generalize hbk : bs[k] = bk at *
              clear hbk hcell hc2 hblk hFr
              go_wp2_with fail
              go_region
              go_wp2_with fail
              go_roundw
              case rel =>
                refine ⟨k + 1, by omega, by go_num, ?_, (HFR.out.set1 _).drew⟩
                have h := heap_set_same (o := 1) HBLK.out (.int .u64 (bits BinOp.or IntKind.u64 (numOf (bs.take k)) (IntKind.u64.wrap ((bk.toNat : Int) * 2 ^ (8 * k)))))
                rw [HX.out] at h
                rw [HX.out]
                exact h
              case measure => simp [intOf]; omega
            · obtain rfl : k = bs.length := by omega
              have htk : bs.take bs.length = bs := List.take_length
              rw [htk] at hblk x1 HBLK
              have HKW := Lib.hid (hFr.heap HKD.out (fun e => by have e : w1.heap.size = w1.heap.size + 1 := e; omega))
              have HK0 : Hid (wr.heap[w.heap.size]? = some (.cells #[.int .i64 0, .int .u64 0, .string ⟨#[]⟩] 57 (0, 0))) := hFr.heap (heap_alloc_old (heap_alloc_old K0.out)) (fun e => by have e : w.heap.size = w1.heap.size + 1 := e; omega)
              have x0 : wr.cell? ⟨w1.heap.size + 1, 0, none⟩ = some (.int .i64 t) := cell_at hblk
              have x2 : wr.cell? ⟨w1.heap.size + 1, 2, none⟩ = some (.string ⟨#[]⟩) := cell_at hblk
              have q0 : wr.cell? ⟨w1.heap.size, 0, none⟩ = some (.int .i64 sz) := cell_at HKW.out
              have q1 : wr.cell? ⟨w1.heap.size, 1, none⟩ = some (.bool sg) := cell_at HKW.out
              have lq := lt_of_block HKW.out
              have HFXX : Hid (Frm (One (w1.heap.size + 1)) wr wr) := Frm.refl _ _
              clear hblk hFr htk hk hlt z0 z1 z2 f0
              have l00 : w.heap.size < w1.heap.size := l0
              clear l0
              cases sg with
              | false =>
                have hwn : wideN sz false (numOf bs) = numOf bs := by simp [wideN]
                rw [hwn] at HD HCK2
                clear hwn
                have HFX : Hid (Frm (fun _ => False) w wr) := HFW.out
                generalize numOf bs = m at *
                have hs8 : sz ≤ 8 := by omega
                go_wp2_with fail
                refine (HCK2.out _).mono ?_
                rintro e w2 ⟨rfl, hF2⟩
                have k0 := hF2.heap HK0.out (fun h => h)
                have k1 := hF2.heap HBLK.out (fun h => h)
                have z0 : w2.cell? ⟨w.heap.size, 0, none⟩ = some (.int .i64 0) := cell_at k0
                have z1 : w2.cell? ⟨w.heap.size, 1, none⟩ = some (.int .u64 0) := cell_at k0
                have z2 : w2.cell? ⟨w.heap.size, 2, none⟩ = some (.string ⟨#[]⟩) := cell_at k0
                have f0 := frees k0
                have l0 := lt_of_block k0
                have K0 := Lib.hid k0
                have y0 : w2.cell? ⟨w1.heap.size + 1, 0, none⟩ = some (.int .i64 t) := cell_at k1
                have y1 : w2.cell? ⟨w1.heap.size + 1, 1, none⟩ = some (.int .u64 m) := cell_at k1
                have y2 : w2.cell? ⟨w1.heap.size + 1, 2, none⟩ = some (.string ⟨#[]⟩) := cell_at k1
                have l1 := lt_of_block k1
                have HF2 : Hid (Frm (fun _ => False) w w2) := HFX.out.trans' hF2
                clear hF2 k0 k1
                by_cases hck : ck = 0
                · have E : Hid (r = (⟨t, m, []⟩, 0)) := by unfold Hid; rw [HD.out, if_neg (by simpa using hck)]
                  clear HD
                  subst hck
                  go_wp2_with fail
                  refine bodyPost_ret (ret_v2 Tryz.results93 _ _ _ _ _ _ rfl (store3 K0.out)) rfl ⟨?_, ?_⟩
                  · rw [E.out]; rfl
                  · have hf : Frm (fun _ => False) w w2 := HF2.out
                    (repeat' (first | (with_reducible exact Frm.refl _ _) | (with_reducible assumption) | (with_reducible refine Frm.alloc ?_ _) | (with_reducible refine Frm.drew ?_) | (with_reducible refine Frm.drewN ?_ _) | (with_reducible refine Frm.set1 ?_ _) | (with_reducible refine Frm.setCell ?_ ?_ _) | (exact fun h => absurd h (Nat.lt_irrefl _)) | (intro hlt; simp [World.size_alloc, One] at hlt ⊢; omega)))
                · have E : Hid (r = (.zero, 8)) := by unfold Hid; rw [HD.out, if_pos hck]
                  have bc : (ck != 0) = true := by simpa using hck
                  clear HD hck
                  go_wp2_with fail
                  refine bodyPost_ret (ret_v2 Tryz.results93 _ _ _ _ _ _ rfl (store3 K0.out)) rfl ⟨?_, ?_⟩
                  · rw [E.out]; rfl
                  · have hf : Frm (fun _ => False) w w2 := HF2.out
                    (repeat' (first | (with_reducible exact Frm.refl _ _) | (with_reducible assumption) | (with_reducible refine Frm.alloc ?_ _) | (with_reducible refine Frm.drew ?_) | (with_reducible refine Frm.drewN ?_ _) | (with_reducible refine Frm.set1 ?_ _) | (with_reducible refine Frm.setCell ?_ ?_ _) | (exact fun h => absurd h (Nat.lt_irrefl _)) | (intro hlt; simp [World.size_alloc, One] at hlt ⊢; omega)))
              | true =>
                rcases HS4.out with h | h | h | h | h
                · exact absurd h (by omega)
                all_goals
                  subst h
                  have hbd := HBD.out
                  go_wp2_with fail
                  first
                    | (have hl1 : bs.length = 1 := by omega
                       rw [hl1] at hbd
                       rw [shift_wide1 _ hbd.1 hbd.2])
                    | (have hl1 : bs.length = 2 := by omega
                       rw [hl1] at hbd
                       rw [shift_wide2 _ hbd.1 hbd.2])
                    | (have hl1 : bs.length = 4 := by omega
                       rw [hl1] at hbd
                       rw [shift_wide4 _ hbd.1 hbd.2])
                    | (have hl1 : bs.length = 8 := by omega
                       rw [hl1] at hbd
                       rw [shift_wide8 _ hbd.1 hbd.2])
                  clear hbd HBD
                  generalize wideN _ true (numOf bs) = x at *
                  refine (HCK2.out _).mono ?_
                  rintro e w2 ⟨rfl, hF2⟩
                  have k0 := hF2.heap (heap_set_other HK0.out (by simp only []; omega)) (fun h => h)
                  have k1 := hF2.heap (heap_set_same (o := 1) HBLK.out (.int .u64 x)) (fun h => h)
                  have z0 : w2.cell? ⟨w.heap.size, 0, none⟩ = some (.int .i64 0) := cell_at k0
                  have z1 : w2.cell? ⟨w.heap.size, 1, none⟩ = some (.int .u64 0) := cell_at k0
                  have z2 : w2.cell? ⟨w.heap.size, 2, none⟩ = some (.string ⟨#[]⟩) := cell_at k0
                  have f0 := frees k0
                  have l0 := lt_of_block k0
                  have K0 := Lib.hid k0
                  have y0 : w2.cell? ⟨w1.heap.size + 1, 0, none⟩ = some (.int .i64 t) := cell_at k1
                  have y1 : w2.cell? ⟨w1.heap.size + 1, 1, none⟩ = some (.int .u64 x) := cell_at k1
                  have y2 : w2.cell? ⟨w1.heap.size + 1, 2, none⟩ = some (.string ⟨#[]⟩) := cell_at k1
                  have l1 := lt_of_block k1
                  have HF2 : Hid (Frm (fun _ => False) w w2) := (HFW.out.trans (HFXX.out.set1 _) (fun i hi e => by have e : i = w1.heap.size + 1 := e; omega)).trans' hF2
                  clear hF2 k0 k1
                  by_cases hck : ck = 0
                  · have E : Hid (r = (⟨t, x, []⟩, 0)) := by unfold Hid; rw [HD.out, if_neg (by simpa using hck)]
                    clear HD
                    subst hck
                    go_wp2_with fail
                    refine bodyPost_ret (ret_v2 Tryz.results93 _ _ _ _ _ _ rfl (store3 K0.out)) rfl ⟨?_, ?_⟩
                    · rw [E.out]; rfl
                    · have hf : Frm (fun _ => False) w w2 := HF2.out
                      (repeat' (first | (with_reducible exact Frm.refl _ _) | (with_reducible assumption) | (with_reducible refine Frm.alloc ?_ _) | (with_reducible refine Frm.drew ?_) | (with_reducible refine Frm.drewN ?_ _) | (with_reducible refine Frm.set1 ?_ _) | (with_reducible refine Frm.setCell ?_ ?_ _) | (exact fun h => absurd h (Nat.lt_irrefl _)) | (intro hlt; simp [World.size_alloc, One] at hlt ⊢; omega)))
                  · have E : Hid (r = (.zero, 8)) := by unfold Hid; rw [HD.out, if_pos hck]
                    have bc : (ck != 0) = true := by simpa using hck
                    clear HD hck
                    go_wp2_with fail
                    refine bodyPost_ret (ret_v2 Tryz.results93 _ _ _ _ _ _ rfl (store3 K0.out)) rfl ⟨?_, ?_⟩
                    · rw [E.out]; rfl
                    · have hf : Frm (fun _ => False) w w2 := HF2.out
                      (repeat' (first | (with_reducible exact Frm.refl _ _) | (with_reducible assumption) | (with_reducible refine Frm.alloc ?_ _) | (with_reducible refine Frm.drew ?_) | (with_reducible refine Frm.drewN ?_ _) | (with_reducible refine Frm.set1 ?_ _) | (with_reducible refine Frm.setCell ?_ ?_ _) | (exact fun h => absurd h (Nat.lt_irrefl _)) | (intro hlt; simp [World.size_alloc, One] at hlt ⊢; omega)))
end Go.Proofs.YtemjdmgfilbfaaaGreat
