/-
  The code's Decode.
-/
import Derived.Test.YtemjdmgfilbfaaaTyD
namespace Go.Proofs.Ytemjdmgfilbfaaa
open Go.RowKit
set_option linter.unusedVariables false

/-- The number, made wide by shifting up and down. -/
theorem shift_wide1 (m : Int) (h0 : 0 ≤ m) (h1 : m < 256) : IntKind.u64.wrap (wrap64 (IntKind.u64.wrap (m * 72057594037927936)) / 72057594037927936) = wideN 1 true m := by
  simp only [u64w, wrap64, wideN, capN, two64]
  simp
  split <;> omega
theorem shift_wide2 (m : Int) (h0 : 0 ≤ m) (h1 : m < 65536) : IntKind.u64.wrap (wrap64 (IntKind.u64.wrap (m * 281474976710656)) / 281474976710656) = wideN 2 true m := by
  simp only [u64w, wrap64, wideN, capN, two64]
  simp
  split <;> omega
theorem shift_wide4 (m : Int) (h0 : 0 ≤ m) (h1 : m < 4294967296) : IntKind.u64.wrap (wrap64 (IntKind.u64.wrap (m * 4294967296)) / 4294967296) = wideN 4 true m := by
  simp only [u64w, wrap64, wideN, capN, two64]
  simp
  split <;> omega

theorem shift_wide8 (m : Int) (h0 : 0 ≤ m) (h1 : m < 18446744073709551616) : IntKind.u64.wrap (wrap64 (IntKind.u64.wrap m)) = wideN 8 true m := by
  simp only [u64w, wrap64, wideN, capN, two64]
  simp
  omega

set_option maxRecDepth 100000 in
set_option maxHeartbeats 4000000 in
theorem tyDec_any (t : Int) (v : Value) (bs : List UInt8) (w : World) (h : BytesAt w v bs) (hl : bs.length ≤ 140737488351232) : Calls Try.prog 64 #[.int .i64 t, v] w (DecP (decV t bs) w) := by
  have HOF := Lib.hid (fun W => tyOf_any t W)
  have hD : decV t bs = if isT t = false then (.zero, 1) else if (bs.length : Int) < sizeT t then (.zero, 3)
    else if sizeT t ≠ 0 ∧ sizeT t < bs.length ∨ 65536 < bs.length then (.zero, 2)
    else if checkV (rawV t bs) ≠ 0 then (.zero, 8) else (rawV t bs, 0) := rfl
  have HCK := Lib.hid (fun W hv => tyChk_any (rawV t bs) W hv)
  have HCV := Lib.hid (fun W (hF : Frm (fun _ => False) w W) => conv_b2s (h.grow hF))
  have HBY := Lib.hid (fun W (hF : Frm (fun _ => False) w W) => h.grow hF)
  have HRG := Lib.hid (fun hl h0 => @wideN_range t bs hl h0)
  have hraw : rawV t bs = if sizeT t ≠ 0 then ⟨t, wideN (sizeT t) (sgnT t) (numOf bs), []⟩ else ⟨t, 0, bs⟩ := rfl
  obtain ⟨A, cap, rfl, h1, h2, hc⟩ := bytes_cell h
  have hm : bs.length ≤ 9223372036854775807 := Nat.le_trans h1 h2
  have HL := Lib.hid hl
  have hs4 : sizeT t = 0 ∨ sizeT t = 1 ∨ sizeT t = 2 ∨ sizeT t = 4 ∨ sizeT t = 8 := sizeT_vals t
  unfold DecP
  generalize decV t bs = r at *
  have HD := Lib.hid hD
  have HRAW := Lib.hid hraw
  clear hD hraw h1 h2 hc h hl
  unfold kindV at HOF
  generalize rawV t bs = raw at *
  generalize isT t = is at *
  generalize sgnT t = sg at *
  generalize sizeT t = sz at *
  go_enter Try.func64, Try.ntmps64
  go_wp2_with fail
  refine (HOF.out _).mono ?_
  rintro e w1 ⟨rfl, hF⟩
  have k0 := hF.heap (heap_new w _) (fun h => h)
  have z0 : w1.cell? ⟨w.heap.size, 0, none⟩ = some (.int .i64 0) := cell_at k0
  have z1 : w1.cell? ⟨w.heap.size, 1, none⟩ = some (.int .u64 0) := cell_at k0
  have z2 : w1.cell? ⟨w.heap.size, 2, none⟩ = some (.string ⟨#[]⟩) := cell_at k0
  have f0 := frees k0
  have l0 := lt_of_block k0
  have K0 := Lib.hid k0
  have HF : Hid (Frm (fun _ => False) w w1) := Frm.trans' (b := _) (by (repeat' (first | (with_reducible exact Frm.refl _ _) | (with_reducible assumption) | (with_reducible refine Frm.alloc ?_ _) | (with_reducible refine Frm.drew ?_) | (with_reducible refine Frm.drewN ?_ _) | (with_reducible refine Frm.set1 ?_ _) | (with_reducible refine Frm.setCell ?_ ?_ _) | (exact fun h => absurd h (Nat.lt_irrefl _)) | (intro hlt; simp [World.size_alloc, One] at hlt ⊢; omega)))) hF
  clear hF k0
  cases is with
  | false =>
    have E : Hid (r = (.zero, 1)) := by unfold Hid; rw [HD.out, if_pos rfl]
    clear HD
    go_wp2_with fail
    refine bodyPost_ret (ret_v2 Try.results64 _ _ _ _ _ _ rfl (heap_alloc_old (heap_alloc_old (store3 K0.out)))) rfl ⟨?_, ?_⟩
    · rw [E.out]; rfl
    · have hf : Frm (fun _ => False) w w1 := HF.out
      (repeat' (first | (with_reducible exact Frm.refl _ _) | (with_reducible assumption) | (with_reducible refine Frm.alloc ?_ _) | (with_reducible refine Frm.drew ?_) | (with_reducible refine Frm.drewN ?_ _) | (with_reducible refine Frm.set1 ?_ _) | (with_reducible refine Frm.setCell ?_ ?_ _) | (exact fun h => absurd h (Nat.lt_irrefl _)) | (intro hlt; simp [World.size_alloc, One] at hlt ⊢; omega)))
  | true =>
    rw [if_neg (by decide)] at HD
    by_cases h3 : (bs.length : Int) < sz
    · have E : Hid (r = (.zero, 3)) := by unfold Hid; rw [HD.out, if_pos h3]
      clear HD
      go_wp2_with fail
      refine bodyPost_ret (ret_v2 Try.results64 _ _ _ _ _ _ rfl (heap_alloc_old (heap_alloc_old (store3 K0.out)))) rfl ⟨?_, ?_⟩
      · rw [E.out]; rfl
      · have hf : Frm (fun _ => False) w w1 := HF.out
        (repeat' (first | (with_reducible exact Frm.refl _ _) | (with_reducible assumption) | (with_reducible refine Frm.alloc ?_ _) | (with_reducible refine Frm.drew ?_) | (with_reducible refine Frm.drewN ?_ _) | (with_reducible refine Frm.set1 ?_ _) | (with_reducible refine Frm.setCell ?_ ?_ _) | (exact fun h => absurd h (Nat.lt_irrefl _)) | (intro hlt; simp [World.size_alloc, One] at hlt ⊢; omega)))
    · rw [if_neg h3] at HD
      have hs0 : 0 ≤ sz := by omega
      by_cases hlong : sz ≠ 0 ∧ sz < bs.length ∨ 65536 < bs.length
      · have E : Hid (r = (.zero, 2)) := by unfold Hid; rw [HD.out, if_pos hlong]
        clear HD
        by_cases hz : 0 < sz
        · have hlt : sz < (bs.length : Int) := by omega
          clear hlong h3
          go_wp2_with fail
          refine bodyPost_ret (ret_v2 Try.results64 _ _ _ _ _ _ rfl (heap_alloc_old (heap_alloc_old (store3 K0.out)))) rfl ⟨?_, ?_⟩
          · rw [E.out]; rfl
          · have hf : Frm (fun _ => False) w w1 := HF.out
            (repeat' (first | (with_reducible exact Frm.refl _ _) | (with_reducible assumption) | (with_reducible refine Frm.alloc ?_ _) | (with_reducible refine Frm.drew ?_) | (with_reducible refine Frm.drewN ?_ _) | (with_reducible refine Frm.set1 ?_ _) | (with_reducible refine Frm.setCell ?_ ?_ _) | (exact fun h => absurd h (Nat.lt_irrefl _)) | (intro hlt; simp [World.size_alloc, One] at hlt ⊢; omega)))
        · obtain rfl : sz = 0 := by omega
          have hlt : 65536 < bs.length := by omega
          clear hlong h3
          go_wp2_with fail
          refine bodyPost_ret (ret_v2 Try.results64 _ _ _ _ _ _ rfl (heap_alloc_old (heap_alloc_old (store3 K0.out)))) rfl ⟨?_, ?_⟩
          · rw [E.out]; rfl
          · have hf : Frm (fun _ => False) w w1 := HF.out
            (repeat' (first | (with_reducible exact Frm.refl _ _) | (with_reducible assumption) | (with_reducible refine Frm.alloc ?_ _) | (with_reducible refine Frm.drew ?_) | (with_reducible refine Frm.drewN ?_ _) | (with_reducible refine Frm.set1 ?_ _) | (with_reducible refine Frm.setCell ?_ ?_ _) | (exact fun h => absurd h (Nat.lt_irrefl _)) | (intro hlt; simp [World.size_alloc, One] at hlt ⊢; omega)))
      · rw [if_neg hlong] at HD
        by_cases hz : sz = 0
        · subst hz
          have HRAW : Hid (raw = ⟨t, 0, bs⟩) := by unfold Hid; rw [HRAW.out, if_neg (by simp)]
          rw [HRAW.out] at HD HCK
          generalize hck0 : checkV ⟨t, 0, bs⟩ = ck at *
          have HCK2 : Hid (∀ W, Calls Try.prog 88 #[.agg #[.int .i64 t, .int .u64 0, .string (strB2 bs)]] W fun e w' => e = .returned (.int .i64 ck) ∧ Frm (fun _ => False) W w') := fun W => HCK.out W ⟨Int.le_refl _, (by unfold two64; exact (by decide : (0 : Int) < 18446744073709551616)), HL.out⟩
          have hle2 : bs.length ≤ 65536 := by omega
          have HCV2 := HCV.out ((w1.alloc (.cells #[.int .i64 0, .bool sg, .bool true] 145)).alloc (.cells #[.int .i64 t, .int .u64 0, .string ⟨#[]⟩] 36)) (by have hf : Frm (fun _ => False) w w1 := HF.out; (repeat' (first | (with_reducible exact Frm.refl _ _) | (with_reducible assumption) | (with_reducible refine Frm.alloc ?_ _) | (with_reducible refine Frm.drew ?_) | (with_reducible refine Frm.drewN ?_ _) | (with_reducible refine Frm.set1 ?_ _) | (with_reducible refine Frm.setCell ?_ ?_ _) | (exact fun h => absurd h (Nat.lt_irrefl _)) | (intro hlt; simp [World.size_alloc, One] at hlt ⊢; omega))))
          clear hlong h3 HCK HRG hck0 HCV
          go_wp2_with fail
          refine (HCK2.out _).mono ?_
          rintro e w2 ⟨rfl, hF2⟩
          have k0 := hF2.heap (heap_alloc_old (heap_alloc_old K0.out)) (fun h => h)
          have k1 := hF2.heap (heap_new_at (k := w1.heap.size + 1) (by simp)) (fun h => h)
          have z0 : w2.cell? ⟨w.heap.size, 0, none⟩ = some (.int .i64 0) := cell_at k0
          have z1 : w2.cell? ⟨w.heap.size, 1, none⟩ = some (.int .u64 0) := cell_at k0
          have z2 : w2.cell? ⟨w.heap.size, 2, none⟩ = some (.string ⟨#[]⟩) := cell_at k0
          have f0 := frees k0
          have l0 := lt_of_block k0
          have K0 := Lib.hid k0
          have y0 : w2.cell? ⟨w1.heap.size + 1, 0, none⟩ = some (.int .i64 t) := cell_at k1
          have y1 : w2.cell? ⟨w1.heap.size + 1, 1, none⟩ = some (.int .u64 0) := cell_at k1
          have y2 : w2.cell? ⟨w1.heap.size + 1, 2, none⟩ = some (.string (strB2 bs)) := cell_at k1
          have l1 := lt_of_block k1
          have HF2 : Hid (Frm (fun _ => False) w w2) := (HF.out.trans' (by (repeat' (first | (with_reducible exact Frm.refl _ _) | (with_reducible assumption) | (with_reducible refine Frm.alloc ?_ _) | (with_reducible refine Frm.drew ?_) | (with_reducible refine Frm.drewN ?_ _) | (with_reducible refine Frm.set1 ?_ _) | (with_reducible refine Frm.setCell ?_ ?_ _) | (exact fun h => absurd h (Nat.lt_irrefl _)) | (intro hlt; simp [World.size_alloc, One] at hlt ⊢; omega))))).trans' hF2
          clear hF2 k0 k1
          by_cases hck : ck = 0
          · have E : Hid (r = (⟨t, 0, bs⟩, 0)) := by unfold Hid; rw [HD.out, if_neg (by simpa using hck)]
            clear HD
            subst hck
            go_wp2_with fail
            refine bodyPost_ret (ret_v2 Try.results64 _ _ _ _ _ _ rfl (store3 K0.out)) rfl ⟨?_, ?_⟩
            · rw [E.out]; rfl
            · have hf : Frm (fun _ => False) w w2 := HF2.out
              (repeat' (first | (with_reducible exact Frm.refl _ _) | (with_reducible assumption) | (with_reducible refine Frm.alloc ?_ _) | (with_reducible refine Frm.drew ?_) | (with_reducible refine Frm.drewN ?_ _) | (with_reducible refine Frm.set1 ?_ _) | (with_reducible refine Frm.setCell ?_ ?_ _) | (exact fun h => absurd h (Nat.lt_irrefl _)) | (intro hlt; simp [World.size_alloc, One] at hlt ⊢; omega)))
          · have E : Hid (r = (.zero, 8)) := by unfold Hid; rw [HD.out, if_pos hck]
            have bc : (ck != 0) = true := by simpa using hck
            clear HD hck
            go_wp2_with fail
            refine bodyPost_ret (ret_v2 Try.results64 _ _ _ _ _ _ rfl (store3 K0.out)) rfl ⟨?_, ?_⟩
            · rw [E.out]; rfl
            · have hf : Frm (fun _ => False) w w2 := HF2.out
              (repeat' (first | (with_reducible exact Frm.refl _ _) | (with_reducible assumption) | (with_reducible refine Frm.alloc ?_ _) | (with_reducible refine Frm.drew ?_) | (with_reducible refine Frm.drewN ?_ _) | (with_reducible refine Frm.set1 ?_ _) | (with_reducible refine Frm.setCell ?_ ?_ _) | (exact fun h => absurd h (Nat.lt_irrefl _)) | (intro hlt; simp [World.size_alloc, One] at hlt ⊢; omega)))
        · have hlz : (bs.length : Int) = sz := by omega
          have HRAW : Hid (raw = ⟨t, wideN sz sg (numOf bs), []⟩) := by unfold Hid; rw [HRAW.out, if_pos hz]
          have hrg := HRG.out hlz hz
          rw [HRAW.out] at HD HCK
          generalize hck0 : checkV ⟨t, wideN sz sg (numOf bs), []⟩ = ck at *
          have HCK2 : Hid (∀ W, Calls Try.prog 88 #[.agg #[.int .i64 t, .int .u64 (wideN sz sg (numOf bs)), .string ⟨#[]⟩]] W fun e w' => e = .returned (.int .i64 ck) ∧ Frm (fun _ => False) W w') := fun W => HCK.out W ⟨hrg.1, hrg.2, by simp⟩
          have hbd := numOf_bound bs
          have HBD := Lib.hid hbd
          have HW0 : Hid (Frm (fun _ => False) w ((w1.alloc (.cells #[.int .i64 sz, .bool sg, .bool true] 145)).alloc (.cells #[.int .i64 t, .int .u64 0, .string ⟨#[]⟩] 36))) := by
            have hf : Frm (fun _ => False) w w1 := HF.out
            unfold Hid
            (repeat' (first | (with_reducible exact Frm.refl _ _) | (with_reducible assumption) | (with_reducible refine Frm.alloc ?_ _) | (with_reducible refine Frm.drew ?_) | (with_reducible refine Frm.drewN ?_ _) | (with_reducible refine Frm.set1 ?_ _) | (with_reducible refine Frm.setCell ?_ ?_ _) | (exact fun h => absurd h (Nat.lt_irrefl _)) | (intro hlt; simp [World.size_alloc, One] at hlt ⊢; omega)))
          have HK : Hid (((w1.alloc (.cells #[.int .i64 sz, .bool sg, .bool true] 145)).alloc (.cells #[.int .i64 t, .int .u64 0, .string ⟨#[]⟩] 36)).heap[w1.heap.size + 1]? = some (.cells #[.int .i64 t, .int .u64 0, .string ⟨#[]⟩] 36 (0, 0))) := heap_new_at (by simp)
          have HKD : Hid (((w1.alloc (.cells #[.int .i64 sz, .bool sg, .bool true] 145)).alloc (.cells #[.int .i64 t, .int .u64 0, .string ⟨#[]⟩] 36)).heap[w1.heap.size]? = some (.cells #[.int .i64 sz, .bool sg, .bool true] 145 (0, 0))) := heap_alloc_old (heap_new _ _)
          clear hlong h3 HCK HRG hrg hck0 HCV hbd
          have hge : sz ≤ (bs.length : Int) := by omega
          have hle : (bs.length : Int) ≤ sz := by omega
          have hle8 : bs.length ≤ 8 := by omega
          have hsz0 : (sz == 0) = false := beq_eq_false_iff_ne.2 hz
          have hsz1 : 0 < sz := by omega
          have HLZ := Lib.hid hlz
          have HS4 := Lib.hid hs4
          clear hlz hz hs4
          go_wp2_with fail
          go_loopw [17] (fun i wr => ∃ k : Nat, k ≤ bs.length ∧ i = .int .i64 k ∧ wr.heap[w1.heap.size + 1]? = some (.cells #[.int .i64 t, .int .u64 (numOf (bs.take k)), .string ⟨#[]⟩] 36 (0, 0)) ∧ Frm (One (w1.heap.size + 1)) ((w1.alloc (.cells #[.int .i64 sz, .bool sg, .bool true] 145)).alloc (.cells #[.int .i64 t, .int .u64 0, .string ⟨#[]⟩] 36)) wr) (fun i _ => bs.length - (intOf i).toNat)
          case atStart => exact ⟨0, Nat.zero_le _, rfl, HK.out, Frm.refl _ _⟩
          case round =>
            obtain ⟨k, hk, rfl, hblk, hFr⟩ := hrel
            have HBLK := Lib.hid hblk
            have HFR := Lib.hid hFr
            have x1 : wr.cell? ⟨w1.heap.size + 1, 1, none⟩ = some (.int .u64 (numOf (bs.take k))) := cell_at hblk
            have lx := lt_of_block hblk
            have fx := frees hblk
            have HFW : Hid (Frm (fun _ => False) w wr) := HW0.out.trans hFr (fun i hi e => by have e : i = w1.heap.size + 1 := e; omega)
            by_cases hlt : k < bs.length
            · obtain ⟨A', c', hv', _, _, hcell⟩ := bytes_cell (HBY.out wr HFW.out)
              cases hv'
              obtain ⟨g, off, rfl, hc2⟩ := hcell (by omega)
              have c0 := hc2 k hlt
              have hb := (bs[k]).toNat_lt
              have hk7 : (k : Int) ≤ 7 := by omega
              have HX : Hid (bits BinOp.or IntKind.u64 (numOf (bs.take k)) (IntKind.u64.wrap ((bs[k].toNat : Int) * 2 ^ (8 * k))) = numOf (bs.take (k + 1))) := by
                have hlen : (bs.take k).length = k := by simp; omega
                have hbd := numOf_bound (bs.take k)
                rw [hlen] at hbd
                unfold Hid
                rw [orWide _ _ k (by omega) hbd.1 hbd.2 (by omega) (by omega), List.take_succ_eq_append_getElem hlt, numOf_snoc, hlen]
              generalize hbk : bs[k] = bk at *
              clear hbk hcell hc2 hblk hFr
              go_wp2_with fail
              go_region
              go_wp2_with fail
              go_roundw
              case rel =>
                refine ⟨k + 1, by omega, by go_num, ?_, (HFR.out.set1 _).drew⟩
                have h := heap_set_same (o := 1) HBLK.out (.int .u64 (bits BinOp.or IntKind.u64 (numOf (bs.take k)) (IntKind.u64.wrap ((bk.toNat : Int) * 2 ^ (8 * k)))))
                rw [HX.out] at h
                rw [HX.out]
                exact h
              case measure => simp [intOf]; omega
            · obtain rfl : k = bs.length := by omega
              have htk : bs.take bs.length = bs := List.take_length
              rw [htk] at hblk x1 HBLK
              have HKW := Lib.hid (hFr.heap HKD.out (fun e => by have e : w1.heap.size = w1.heap.size + 1 := e; omega))
              have HK0 : Hid (wr.heap[w.heap.size]? = some (.cells #[.int .i64 0, .int .u64 0, .string ⟨#[]⟩] 36 (0, 0))) := hFr.heap (heap_alloc_old (heap_alloc_old K0.out)) (fun e => by have e : w.heap.size = w1.heap.size + 1 := e; omega)
              have x0 : wr.cell? ⟨w1.heap.size + 1, 0, none⟩ = some (.int .i64 t) := cell_at hblk
              have x2 : wr.cell? ⟨w1.heap.size + 1, 2, none⟩ = some (.string ⟨#[]⟩) := cell_at hblk
              have q0 : wr.cell? ⟨w1.heap.size, 0, none⟩ = some (.int .i64 sz) := cell_at HKW.out
              have q1 : wr.cell? ⟨w1.heap.size, 1, none⟩ = some (.bool sg) := cell_at HKW.out
              have lq := lt_of_block HKW.out
              have HFXX : Hid (Frm (One (w1.heap.size + 1)) wr wr) := Frm.refl _ _
              clear hblk hFr htk hk hlt z0 z1 z2 f0
              have l00 : w.heap.size < w1.heap.size := l0
              clear l0
              cases sg with
              | false =>
                have hwn : wideN sz false (numOf bs) = numOf bs := by simp [wideN]
                rw [hwn] at HD HCK2
                clear hwn
                have HFX : Hid (Frm (fun _ => False) w wr) := HFW.out
                generalize numOf bs = m at *
                have hs8 : sz ≤ 8 := by omega
                go_wp2_with fail
                refine (HCK2.out _).mono ?_
                rintro e w2 ⟨rfl, hF2⟩
                have k0 := hF2.heap HK0.out (fun h => h)
                have k1 := hF2.heap HBLK.out (fun h => h)
                have z0 : w2.cell? ⟨w.heap.size, 0, none⟩ = some (.int .i64 0) := cell_at k0
                have z1 : w2.cell? ⟨w.heap.size, 1, none⟩ = some (.int .u64 0) := cell_at k0
                have z2 : w2.cell? ⟨w.heap.size, 2, none⟩ = some (.string ⟨#[]⟩) := cell_at k0
                have f0 := frees k0
                have l0 := lt_of_block k0
                have K0 := Lib.hid k0
                have y0 : w2.cell? ⟨w1.heap.size + 1, 0, none⟩ = some (.int .i64 t) := cell_at k1
                have y1 : w2.cell? ⟨w1.heap.size + 1, 1, none⟩ = some (.int .u64 m) := cell_at k1
                have y2 : w2.cell? ⟨w1.heap.size + 1, 2, none⟩ = some (.string ⟨#[]⟩) := cell_at k1
                have l1 := lt_of_block k1
                have HF2 : Hid (Frm (fun _ => False) w w2) := HFX.out.trans' hF2
                clear hF2 k0 k1
                by_cases hck : ck = 0
                · have E : Hid (r = (⟨t, m, []⟩, 0)) := by unfold Hid; rw [HD.out, if_neg (by simpa using hck)]
                  clear HD
                  subst hck
                  go_wp2_with fail
                  refine bodyPost_ret (ret_v2 Try.results64 _ _ _ _ _ _ rfl (store3 K0.out)) rfl ⟨?_, ?_⟩
                  · rw [E.out]; rfl
                  · have hf : Frm (fun _ => False) w w2 := HF2.out
                    (repeat' (first | (with_reducible exact Frm.refl _ _) | (with_reducible assumption) | (with_reducible refine Frm.alloc ?_ _) | (with_reducible refine Frm.drew ?_) | (with_reducible refine Frm.drewN ?_ _) | (with_reducible refine Frm.set1 ?_ _) | (with_reducible refine Frm.setCell ?_ ?_ _) | (exact fun h => absurd h (Nat.lt_irrefl _)) | (intro hlt; simp [World.size_alloc, One] at hlt ⊢; omega)))
                · have E : Hid (r = (.zero, 8)) := by unfold Hid; rw [HD.out, if_pos hck]
                  have bc : (ck != 0) = true := by simpa using hck
                  clear HD hck
                  go_wp2_with fail
                  refine bodyPost_ret (ret_v2 Try.results64 _ _ _ _ _ _ rfl (store3 K0.out)) rfl ⟨?_, ?_⟩
                  · rw [E.out]; rfl
                  · have hf : Frm (fun _ => False) w w2 := HF2.out
                    (repeat' (first | (with_reducible exact Frm.refl _ _) | (with_reducible assumption) | (with_reducible refine Frm.alloc ?_ _) | (with_reducible refine Frm.drew ?_) | (with_reducible refine Frm.drewN ?_ _) | (with_reducible refine Frm.set1 ?_ _) | (with_reducible refine Frm.setCell ?_ ?_ _) | (exact fun h => absurd h (Nat.lt_irrefl _)) | (intro hlt; simp [World.size_alloc, One] at hlt ⊢; omega)))
              | true =>
                rcases HS4.out with h | h | h | h | h
                · exact absurd h (by omega)
                all_goals
                  subst h
                  have hbd := HBD.out
                  go_wp2_with fail
                  first
                    | (have hl1 : bs.length = 1 := by omega
                       rw [hl1] at hbd
                       rw [shift_wide1 _ hbd.1 hbd.2])
                    | (have hl1 : bs.length = 2 := by omega
                       rw [hl1] at hbd
                       rw [shift_wide2 _ hbd.1 hbd.2])
                    | (have hl1 : bs.length = 4 := by omega
                       rw [hl1] at hbd
                       rw [shift_wide4 _ hbd.1 hbd.2])
                    | (have hl1 : bs.length = 8 := by omega
                       rw [hl1] at hbd
                       rw [shift_wide8 _ hbd.1 hbd.2])
                  clear hbd HBD
                  generalize wideN _ true (numOf bs) = x at *
                  refine (HCK2.out _).mono ?_
                  rintro e w2 ⟨rfl, hF2⟩
                  have k0 := hF2.heap (heap_set_other HK0.out (by simp only []; omega)) (fun h => h)
                  have k1 := hF2.heap (heap_set_same (o := 1) HBLK.out (.int .u64 x)) (fun h => h)
                  have z0 : w2.cell? ⟨w.heap.size, 0, none⟩ = some (.int .i64 0) := cell_at k0
                  have z1 : w2.cell? ⟨w.heap.size, 1, none⟩ = some (.int .u64 0) := cell_at k0
                  have z2 : w2.cell? ⟨w.heap.size, 2, none⟩ = some (.string ⟨#[]⟩) := cell_at k0
                  have f0 := frees k0
                  have l0 := lt_of_block k0
                  have K0 := Lib.hid k0
                  have y0 : w2.cell? ⟨w1.heap.size + 1, 0, none⟩ = some (.int .i64 t) := cell_at k1
                  have y1 : w2.cell? ⟨w1.heap.size + 1, 1, none⟩ = some (.int .u64 x) := cell_at k1
                  have y2 : w2.cell? ⟨w1.heap.size + 1, 2, none⟩ = some (.string ⟨#[]⟩) := cell_at k1
                  have l1 := lt_of_block k1
                  have HF2 : Hid (Frm (fun _ => False) w w2) := (HFW.out.trans (HFXX.out.set1 _) (fun i hi e => by have e : i = w1.heap.size + 1 := e; omega)).trans' hF2
                  clear hF2 k0 k1
                  by_cases hck : ck = 0
                  · have E : Hid (r = (⟨t, x, []⟩, 0)) := by unfold Hid; rw [HD.out, if_neg (by simpa using hck)]
                    clear HD
                    subst hck
                    go_wp2_with fail
                    refine bodyPost_ret (ret_v2 Try.results64 _ _ _ _ _ _ rfl (store3 K0.out)) rfl ⟨?_, ?_⟩
                    · rw [E.out]; rfl
                    · have hf : Frm (fun _ => False) w w2 := HF2.out
                      (repeat' (first | (with_reducible exact Frm.refl _ _) | (with_reducible assumption) | (with_reducible refine Frm.alloc ?_ _) | (with_reducible refine Frm.drew ?_) | (with_reducible refine Frm.drewN ?_ _) | (with_reducible refine Frm.set1 ?_ _) | (with_reducible refine Frm.setCell ?_ ?_ _) | (exact fun h => absurd h (Nat.lt_irrefl _)) | (intro hlt; simp [World.size_alloc, One] at hlt ⊢; omega)))
                  · have E : Hid (r = (.zero, 8)) := by unfold Hid; rw [HD.out, if_pos hck]
                    have bc : (ck != 0) = true := by simpa using hck
                    clear HD hck
                    go_wp2_with fail
                    refine bodyPost_ret (ret_v2 Try.results64 _ _ _ _ _ _ rfl (store3 K0.out)) rfl ⟨?_, ?_⟩
                    · rw [E.out]; rfl
                    · have hf : Frm (fun _ => False) w w2 := HF2.out
                      (repeat' (first | (with_reducible exact Frm.refl _ _) | (with_reducible assumption) | (with_reducible refine Frm.alloc ?_ _) | (with_reducible refine Frm.drew ?_) | (with_reducible refine Frm.drewN ?_ _) | (with_reducible refine Frm.set1 ?_ _) | (with_reducible refine Frm.setCell ?_ ?_ _) | (exact fun h => absurd h (Nat.lt_irrefl _)) | (intro hlt; simp [World.size_alloc, One] at hlt ⊢; omega)))
end Go.Proofs.Ytemjdmgfilbfaaa
