/-
  The document's Save. A call by the program and by the document: Load, of bytes and of what is saved; all other kinds. A call of any kind.
-/
import Derived.Test.YtemjdmgfilbfaaaM4c8e25fb
import Derived.Test.YtemjdmgfilbfaaaM1d64679b
import Derived.Test.YtemjdmgfilbfaaaM87357a7f
import Derived.Test.YtemjdmgfilbfaaaM92b9d176
import Derived.Test.YtemjdmgfilbfaaaMef5f679d
import Derived.Test.YtemjdmgfilbfaaaM5f162eba
import Derived.Test.YtemjdmgfilbfaaaMade23130
set_option linter.unusedVariables false
set_option linter.unusedSimpArgs false
namespace Go.Proofs.Ytemjdmgfilbfaaa
open Go.RowKit
set_option linter.unusedVariables false
set_option linter.unusedSimpArgs false

theorem head3 (i s : Int) (hi : 0 ≤ i ∧ i ≤ 65535) (hs : 0 ≤ s ∧ s ≤ 255) : (leOf i 2 ++ leOf s 1).map encB = [.int .u8 (i % 256), .int .u8 (i / 256), .int .u8 s] := by
  have e3 : s % 256 = s := Int.emod_eq_of_lt hs.1 (by omega)
  have e4 : i / 256 % 256 = i / 256 := Int.emod_eq_of_lt (by omega) (by omega)
  simp only [leOf_succ, leOf, List.map_append, List.map_cons, List.map_nil, encB_mod, e3, e4, encB_of s hs.1 hs.2, encB_of (i / 256) (by omega) (by omega), List.cons_append, List.nil_append, List.append_nil]
theorem idx_hi (i : Int) (h0 : 0 ≤ i) (h1 : i ≤ 65535) : IntKind.u16.wrap (i.tdiv 256) % 256 = i / 256 := by
  rw [Int.tdiv_eq_ediv_of_nonneg h0]
  simp only [IntKind.wrap, IntKind.bits, IntKind.signed, Bool.false_eq_true, if_false]
  omega
/-- A number's byte. -/
def byteAt (n : Int) (j : Nat) : Int := match j with | 0 => n % 256 | 1 => n / 256 % 256 | 2 => n / 65536 % 256 | _ => n / 16777216 % 256
theorem le4_step (n : Int) (j : Nat) (hj : j < 4) : (leOf n 4).take (j + 1) = (leOf n 4).take j ++ [UInt8.ofNat (byteAt n j).toNat] := by
  have e1 : n / 256 / 256 = n / 65536 := by omega
  have e2 : n / 65536 / 256 = n / 16777216 := by omega
  rcases j with _ | _ | _ | _ | j
  · simp [leOf, byteAt]
  · simp [leOf, byteAt]
  · simp [leOf, byteAt, e1]
  · simp [leOf, byteAt, e1, e2]
  · omega
theorem encB_byte (n : Int) (j : Nat) : encB (UInt8.ofNat (byteAt n j).toNat) = .int .u8 (byteAt n j) := by
  unfold byteAt
  split <;> exact encB_mod _

set_option maxRecDepth 100000 in
set_option maxHeartbeats 2000000 in
theorem rDSave_any (p B : Nat) (d : List Im) (w : World) (h : DR w p B d) (hl : d.length ≤ 1024) (hok : ∀ x ∈ d, x.1.ok ∧ x.2.ok) : Calls Try.prog 62 #[ptr p] w (SaveP d w) := by
  have HD := Lib.hid h
  have HOK := Lib.hid hok
  obtain ⟨sL, sV, h1, h2, h3⟩ := h.ex
  obtain ⟨A, cap, rfl, _, _, _⟩ := row_open h2
  have c0 : ∀ W, Frm (fun _ => False) w W → W.cell? ⟨p, 0, none⟩ = some (.slice A d.length cap) := fun W hF => hF.cell (cell_at h1) (fun h => h)
  have HC0 := Lib.hid c0
  have hp0 := lt_of_block h1
  clear h h1 h2 h3 hok c0
  unfold ptr SaveP
  go_enter Try.func62, Try.ntmps62
  go_wp2_with fail
  go_loopw [3, 4] (fun bv i wr => ∃ k : Nat, k ≤ d.length ∧ i = .int .i64 k ∧ wr.ownsRow w.heap.size 5 1 bv (saveD (d.take k)).length ((saveD (d.take k)).map encB) ∧ Frm (fun _ => False) w wr) (fun _ i _ => d.length - (intOf i).toNat)
  case atStart => exact ⟨0, Nat.zero_le _, rfl, empty_row _ _ _ _ (Nat.le_refl _), (Frm.refl _ _).alloc _⟩
  case round =>
    obtain ⟨k, hk, rfl, hO, hF⟩ := hrel
    have hc0 := HC0.out wr hF
    have hpw := Nat.lt_of_lt_of_le hp0 hF.size
    by_cases hlt : k < d.length
    · have HKL : Hid (k + 1 ≤ d.length) := hlt
      have hek : saveD (d.take (k + 1)) = saveD (d.take k) ++ saveI d[k] := by
        unfold saveD
        rw [List.take_succ_eq_append_getElem hlt, List.flatMap_append]
        simp only [List.flatMap_cons, List.flatMap_nil, List.append_nil]
        try rfl
      have hsl : (saveD (d.take k)).length ≤ 67116032 := by
        have := saveD_len (d.take k)
        have h2 : (d.take k).length ≤ 1024 := by simp; omega
        have := Nat.mul_le_mul_right 65543 h2
        omega
      obtain ⟨rb, hrb⟩ : ∃ rb, rb = saveD (d.take k) := ⟨_, rfl⟩
      rw [← hrb] at hO hsl hek
      have HEK := Lib.hid hek
      have hxo := HOK.out _ (List.getElem_mem hlt)
      obtain ⟨gl, gv, cl, cv, h1, l1, l2, cL, cV⟩ := HD.out.at_ hlt
      have HEN := Lib.hid (fun W => rEnc_any d[k].2 W hxo.2)
      have hel := encV_len d[k].2
      have HYES := Lib.hid (saveI_yes d[k])
      have HNO := Lib.hid (saveI_no d[k])
      clear hrb hek
      generalize d[k] = x at *
      have eA := HC0.out w (Frm.refl _ _)
      rw [cell_at h1] at eA
      simp only [List.getElem?_toArray, List.getElem?_cons_zero, Option.some.injEq, Value.slice.injEq, true_and] at eA
      obtain ⟨rfl, rfl⟩ := eA
      unfold EncP valV at HEN
      have HRG : Hid (0 ≤ x.1.idx ∧ x.1.idx ≤ 65535 ∧ 0 ≤ x.1.sub ∧ x.1.sub ≤ 255) := ⟨hxo.1.1, hxo.1.2.1, hxo.1.2.2.1, hxo.1.2.2.2.1⟩
      have q := fun j (hj : j < 14) => hF.cell ((cL j hj).trans (List.getElem?_eq_getElem (by rw [cellsE_len]; exact hj))) (fun h => h)
      have i0 := q 0 (by decide)
      have i1 := q 1 (by decide)
      have i2 := q 2 (by decide)
      have i3 := q 3 (by decide)
      have i4 := q 4 (by decide)
      have i5 := q 5 (by decide)
      have i6 := q 6 (by decide)
      have i7 := q 7 (by decide)
      have i8 := q 8 (by decide)
      have i9 := q 9 (by decide)
      have i10 := q 10 (by decide)
      have i11 := q 11 (by decide)
      have i12 := q 12 (by decide)
      have i13 := q 13 (by decide)
      simp only [cellsE, List.getElem_cons_succ, List.getElem_cons_zero, Nat.add_zero] at i0 i1 i2 i3 i4 i5 i6 i7 i8 i9 i10 i11 i12 i13
      have hglw := Nat.lt_of_lt_of_le l1 hF.size
      have HF := Lib.hid hF
      have HO := Lib.hid hO
      by_cases ha : x.1.acc = 2
      case neg =>
        have hb : (x.1.acc != 2) = true := by simpa using ha
        have HN := Lib.hid (HNO.out ha)
        clear ha HNO HYES hF hO hxo h1 l1 l2 cL cV q
        go_wp2_with fail
        go_roundw
        case rel => exact ⟨k + 1, HKL.out, by go_num, by rw [HEK.out, HN.out, List.append_nil]; exact HO.out.alloc _, HF.out.alloc _⟩
        case measure => have := HKL.out; simp [intOf]; omega
      case pos =>
        have hb : (x.1.acc != 2) = false := by simpa using ha
        have HY := Lib.hid (HYES.out ha)
        have v0 : wr.cell? ⟨gv, k * 3, none⟩ = some (.int .i64 x.2.ty) := HF.out.cell (cV 0 (by decide)) (fun h => h)
        have v1 : wr.cell? ⟨gv, k * 3 + 1, none⟩ = some (.int .u64 x.2.n) := HF.out.cell (cV 1 (by decide)) (fun h => h)
        have v2 : wr.cell? ⟨gv, k * 3 + 2, none⟩ = some (.string (strB2 x.2.b)) := HF.out.cell (cV 2 (by decide)) (fun h => h)
        have hp1 : wr.cell? ⟨p, 1, none⟩ = some (.slice (some ⟨gv, 0, none⟩) d.length cv) := HF.out.cell (cell_at h1) (fun h => h)
        have hgvw := Nat.lt_of_lt_of_le l2 HF.out.size
        clear ha HNO HYES hF hO hxo h1 l1 l2 cL cV q
        generalize (encV x.2).2 = ec at *
        generalize (encV x.2).1 = eb at *
        obtain ⟨Al, clr, rfl, g3, g4, _⟩ := row_open HO.out
        obtain ⟨wo, hwo⟩ : ∃ wo : World, wo = wr := ⟨_, rfl⟩
        subst hwo
        go_upto_region 8 with (go_at_call 90; refine (HEN.out _).mono ?_; rintro e w2 ⟨sv, rfl, ⟨hbs, hown⟩, hF2⟩; obtain ⟨Ab, cb, rfl, hbl, hbm, hnews⟩ := hbs.open_)
        have kB := hF2.heap (heap_new wo (.cells #[.int .u16 x.1.idx, .int .u8 x.1.sub, .int .i64 x.1.acc, .bool x.1.mp, .bool x.1.lim, .int .i64 x.1.mn.ty, .int .u64 x.1.mn.n, .string (strB2 x.1.mn.b), .int .i64 x.1.mx.ty, .int .u64 x.1.mx.n, .string (strB2 x.1.mx.b), .int .i64 x.1.df.ty, .int .u64 x.1.df.n, .string (strB2 x.1.df.b)] 42)) (fun h => h)
        have b0 : w2.cell? ⟨wo.heap.size, 0, none⟩ = some (.int .u16 x.1.idx) := cell_at kB
        have b1 : w2.cell? ⟨wo.heap.size, 1, none⟩ = some (.int .u8 x.1.sub) := cell_at kB
        have hBl := lt_of_block kB
        have hF02 : Frm (fun _ => False) wo w2 := Frm.trans' (b := _) (by (repeat' (first | (with_reducible exact Frm.refl _ _) | (with_reducible assumption) | (with_reducible refine Frm.alloc ?_ _) | (with_reducible refine Frm.drew ?_) | (with_reducible refine Frm.drewN ?_ _) | (with_reducible refine Frm.set1 ?_ _) | (with_reducible refine Frm.setCell ?_ ?_ _) | (exact fun h => absurd h (Nat.lt_irrefl _)) | (intro hlt; simp [World.size_alloc, One] at hlt ⊢; omega)))) hF2
        have HF2 := Lib.hid (HF.out.trans' hF02)
        have HR2 : Hid (w2.ownsRow w.heap.size 5 1 (.slice Al rb.length clr) rb.length (rb.map encB)) := hF02.row HO.out (fun _ _ h => h)
        have HNEW : Hid (0 < eb.length → NewsOf w2 Ab (eb.map encB)) := hnews
        have HFRE : Hid (∀ g o, Ab = some ⟨g, o, none⟩ → wo.heap.size < g ∧ g < w2.heap.size ∨ eb.length = 0) := fun g o e => by
          by_cases h0 : eb.length = 0
          · exact .inr h0
          · obtain ⟨g', o', e', hc⟩ := hnews (by omega)
            rw [e] at e'
            simp only [Option.some.injEq, Addr.mk.injEq, and_true] at e'
            obtain ⟨rfl, rfl⟩ := e'
            have h1 := hown g (by rw [e]; rfl)
            have hz : 0 < (eb.map encB).length := by simp; omega
            have h2 := World.block_lt_of_cell? w2 _ (hc 0 _ (List.getElem?_eq_getElem hz))
            simp at h1
            exact .inl ⟨by omega, h2⟩
        have HOLD : Hid (∀ j, (Value.slice Al rb.length clr).ownBlock = some j → j < wo.heap.size ∧ w.heap.size ≤ j) := fun j hj => by
          obtain ⟨hb0, cur, hc⟩ := row_block HO.out hj
          exact ⟨lt_of_block hc, hb0⟩
        have hws := HF2.out.size
        have hm3 : rb.length + 3 ≤ maxLen := by unfold maxLen; omega
        have hm4 : (rb.length + 3) * 1 ≤ 140737488355328 := by omega
        have hm7 : rb.length + 3 + 4 + eb.length ≤ maxLen := by unfold maxLen; omega
        have hm8 : (rb.length + 3 + 4 + eb.length) * 1 ≤ 140737488355328 := by omega
        have HLEN : Hid ((eb.map encB).length = eb.length * 1) := by unfold Hid; simp
        obtain ⟨r0, r1, r2, r3⟩ := HRG.out
        clear hF2 hnews hown i0 i1 i2 i3 i4 i5 i6 i7 i8 i9 i10 i11 i12 i13 v0 v1 v2 hp1 HEN HO hbs kB hF02
        go_wp2_with (at_builtin; refine wpl_app rfl el_u8 (.tmp 40) (.tmp 51) rfl (B := w.heap.size) (e2 := 5) (fr := (0, 0)) (m := 3) rfl rfl (Frm.row (S := fun _ => False) (by (repeat' (first | (with_reducible exact Frm.refl _ _) | (with_reducible assumption) | (with_reducible refine Frm.alloc ?_ _) | (with_reducible refine Frm.drew ?_) | (with_reducible refine Frm.drewN ?_ _) | (with_reducible refine Frm.set1 ?_ _) | (with_reducible refine Frm.setCell ?_ ?_ _) | (exact fun h => absurd h (Nat.lt_irrefl _)) | (intro hlt; simp [World.size_alloc, One] at hlt ⊢; omega)))) HR2.out (fun _ _ h => h)) (heap_new_at (by simp)) rfl (by simp [Value.oneCell']) (by decide) hm3 hm4 (by simp; omega) ?_; intro g5 cap5 w5 hown5 hfr5 hat5 hlt5)
        have hrow0 : w5.ownsRow w.heap.size 5 1 (.slice (some ⟨g5, 0, none⟩) (rb.length + 3) cap5) (rb.length + 3) ((rb ++ (leOf x.1.idx 2 ++ leOf x.1.sub 1)).map encB) := by
          rw [List.map_append, head3 _ _ ⟨r0, r1⟩ ⟨r2, r3⟩]
          rw [idx_hi _ r0 r1] at hown5
          exact hown5
        have hfr : Frm (fun q => q < wo.heap.size ∨ w2.heap.size ≤ q) w2 w5 := Frm.trans (b := _) (T := fun q => (Value.slice Al rb.length clr).ownBlock = some q) (by (repeat' (first | (with_reducible exact Frm.refl _ _) | (with_reducible assumption) | (with_reducible refine Frm.alloc ?_ _) | (with_reducible refine Frm.drew ?_) | (with_reducible refine Frm.drewN ?_ _) | (with_reducible refine Frm.set1 ?_ _) | (with_reducible refine Frm.setCell ?_ ?_ _) | (exact fun h => absurd h (Nat.lt_irrefl _)) | (intro hlt; simp [World.size_alloc, One] at hlt ⊢; omega)))) hfr5 (fun i _ h => .inl (HOLD.out i h).1)
        have hfw : Frm (fun _ => False) w w5 := HF2.out.trans (T := fun q => (Value.slice Al rb.length clr).ownBlock = some q) (S := fun _ => False) (Frm.trans (b := _) (T := fun q => (Value.slice Al rb.length clr).ownBlock = some q) (S := fun q => (Value.slice Al rb.length clr).ownBlock = some q) (by (repeat' (first | (with_reducible exact Frm.refl _ _) | (with_reducible assumption) | (with_reducible refine Frm.alloc ?_ _) | (with_reducible refine Frm.drew ?_) | (with_reducible refine Frm.drewN ?_ _) | (with_reducible refine Frm.set1 ?_ _) | (with_reducible refine Frm.setCell ?_ ?_ _) | (exact fun h => absurd h (Nat.lt_irrefl _)) | (intro hlt; simp [World.size_alloc, One] at hlt ⊢; omega)))) hfr5 (fun _ _ h => h)) (fun i hi h => absurd hi (Nat.not_lt.2 (HOLD.out i h).2))
        have hat : g5 < wo.heap.size ∨ w2.heap.size ≤ g5 := by
          rcases hat5 with h | h
          · exact .inl (HOLD.out g5 h).1
          · right
            simp at h
            omega
        have HROW0 := Lib.hid hrow0
        have HFR0 := Lib.hid hfr
        have HFW0 := Lib.hid hfw
        have HAT0 := Lib.hid hat
        clear hown5 hfr5 hat5 hlt5 hrow0 hfr hfw hat b0 b1 r0 r1 r2 r3 HR2
        obtain ⟨pr, hpr⟩ : ∃ pr, pr = rb ++ (leOf x.1.idx 2 ++ leOf x.1.sub 1) := ⟨_, rfl⟩
        have hprl : pr.length = rb.length + 3 := by rw [hpr]; simp [leOf_length]
        have HPR := Lib.hid hpr
        have HPL := Lib.hid hprl
        rw [← hpr, ← hprl] at HROW0
        rw [← hprl]
        rw [← hprl] at hm7 hm8
        clear hpr hprl hm3 hm4
        go_loopw [3, 8] (fun bv i wq => ∃ (j g cp : Nat), j ≤ 4 ∧ i = .int .i64 j ∧ bv = .slice (some ⟨g, 0, none⟩) (pr.length + j) cp ∧ wq.ownsRow w.heap.size 5 1 bv (pr.length + j) ((pr ++ (leOf eb.length 4).take j).map encB) ∧ (g < wo.heap.size ∨ w2.heap.size ≤ g) ∧ Frm (fun q => q < wo.heap.size ∨ w2.heap.size ≤ q) w2 wq ∧ Frm (fun _ => False) w wq) (fun _ i _ => 4 - (intOf i).toNat)
        case atStart => exact ⟨0, g5, cap5, by omega, rfl, rfl, by simpa using HROW0.out, HAT0.out, HFR0.out, HFW0.out⟩
        case round =>
          obtain ⟨j, g, cp, hj, rfl, rfl, hrow, hat, hfr, hfw⟩ := hrel
          have HROW := Lib.hid hrow
          have HFR := Lib.hid hfr
          have HFW := Lib.hid hfw
          have HAT := Lib.hid hat
          have hsw := hfw.size
          have hs2 := hfr.size
          clear hrow hfr hfw hat
          by_cases hj4 : j < 4
          · have HST := Lib.hid (le4_step eb.length j hj4)
            have HBY := Lib.hid (encB_byte (eb.length : Int) j)
            have hn1 : pr.length + j + 1 ≤ maxLen := by unfold maxLen at hm7 ⊢; omega
            have hn2 : (pr.length + j + 1) * 1 ≤ 140737488355328 := by omega
            have hebn : (eb.length : Int) ≤ 65536 := by omega
            have hj' : j = 0 ∨ j = 1 ∨ j = 2 ∨ j = 3 := by omega
            rcases hj' with rfl | rfl | rfl | rfl
            · skip
              go_wp2_with (at_builtin; refine wpl_app rfl el_u8 (.tmp 57) (.tmp 65) rfl (B := w.heap.size) (e2 := 5) (fr := (0, 0)) (m := 1) rfl rfl (Frm.row (S := fun _ => False) (by (repeat' (first | (with_reducible exact Frm.refl _ _) | (with_reducible assumption) | (with_reducible refine Frm.alloc ?_ _) | (with_reducible refine Frm.drew ?_) | (with_reducible refine Frm.drewN ?_ _) | (with_reducible refine Frm.set1 ?_ _) | (with_reducible refine Frm.setCell ?_ ?_ _) | (exact fun h => absurd h (Nat.lt_irrefl _)) | (intro hlt; simp [World.size_alloc, One] at hlt ⊢; omega)))) HROW.out (fun _ _ h => h)) (heap_new_at (by simp)) rfl (by simp [Value.oneCell']) (by decide) hn1 hn2 (by simp; omega) ?_; intro g6 cap6 w6 hown6 hfr6 hat6 hlt6)
              have hrow6 : w6.ownsRow w.heap.size 5 1 (.slice (some ⟨g6, 0, none⟩) (pr.length + (0 + 1)) cap6) (pr.length + (0 + 1)) ((pr ++ (leOf eb.length 4).take (0 + 1)).map encB) := by
                rw [HST.out, ← List.append_assoc, List.map_append (l₂ := [_]), List.map_cons, List.map_nil, HBY.out]
                have e : byteAt (eb.length : Int) 0 = (eb.length : Int) % 256 := by
                  unfold byteAt
                  simp only []
                  try omega
                rw [e]
                exact hown6
              have hat7 : g6 < wo.heap.size ∨ w2.heap.size ≤ g6 := by
                rcases hat6 with h | h
                · have h : some g = some g6 := h
                  cases h
                  exact HAT.out
                · right
                  simp at h
                  omega
              have hgS : ∀ q, (Value.slice (some ⟨g, 0, none⟩) (pr.length + 0) cp).ownBlock = some q → q < wo.heap.size ∨ w2.heap.size ≤ q := fun q h => by
                have h : some g = some q := h
                cases h
                exact HAT.out
              have hfr7 := HFR.out.trans (T := fun q => (Value.slice (some ⟨g, 0, none⟩) (pr.length + 0) cp).ownBlock = some q) (Frm.trans (S := fun q => (Value.slice (some ⟨g, 0, none⟩) (pr.length + 0) cp).ownBlock = some q) (b := _) (by (repeat' (first | (with_reducible exact Frm.refl _ _) | (with_reducible assumption) | (with_reducible refine Frm.alloc ?_ _) | (with_reducible refine Frm.drew ?_) | (with_reducible refine Frm.drewN ?_ _) | (with_reducible refine Frm.set1 ?_ _) | (with_reducible refine Frm.setCell ?_ ?_ _) | (exact fun h => absurd h (Nat.lt_irrefl _)) | (intro hlt; simp [World.size_alloc, One] at hlt ⊢; omega)))) hfr6 (fun _ _ h => h)) (fun i _ h => hgS i h)
              have hfw7 := HFW.out.trans (T := fun q => (Value.slice (some ⟨g, 0, none⟩) (pr.length + 0) cp).ownBlock = some q) (Frm.trans (S := fun q => (Value.slice (some ⟨g, 0, none⟩) (pr.length + 0) cp).ownBlock = some q) (b := _) (by (repeat' (first | (with_reducible exact Frm.refl _ _) | (with_reducible assumption) | (with_reducible refine Frm.alloc ?_ _) | (with_reducible refine Frm.drew ?_) | (with_reducible refine Frm.drewN ?_ _) | (with_reducible refine Frm.set1 ?_ _) | (with_reducible refine Frm.setCell ?_ ?_ _) | (exact fun h => absurd h (Nat.lt_irrefl _)) | (intro hlt; simp [World.size_alloc, One] at hlt ⊢; omega)))) hfr6 (fun _ _ h => h)) (fun i hi h => absurd hi (Nat.not_lt.2 (row_block HROW.out h).1))
              have HR7 := Lib.hid hrow6
              have HA7 := Lib.hid hat7
              have HF7 := Lib.hid hfr7
              have HW7 := Lib.hid hfw7
              clear hown6 hfr6 hat6 hlt6 hrow6 hat7 hgS hfr7 hfw7
              go_roundw
              case rel => exact ⟨0 + 1, g6, cap6, by omega, rfl, rfl, HR7.out, HA7.out, HF7.out, HW7.out⟩
              case measure => simp [intOf]
            · skip
              go_wp2_with (at_builtin; refine wpl_app rfl el_u8 (.tmp 57) (.tmp 65) rfl (B := w.heap.size) (e2 := 5) (fr := (0, 0)) (m := 1) rfl rfl (Frm.row (S := fun _ => False) (by (repeat' (first | (with_reducible exact Frm.refl _ _) | (with_reducible assumption) | (with_reducible refine Frm.alloc ?_ _) | (with_reducible refine Frm.drew ?_) | (with_reducible refine Frm.drewN ?_ _) | (with_reducible refine Frm.set1 ?_ _) | (with_reducible refine Frm.setCell ?_ ?_ _) | (exact fun h => absurd h (Nat.lt_irrefl _)) | (intro hlt; simp [World.size_alloc, One] at hlt ⊢; omega)))) HROW.out (fun _ _ h => h)) (heap_new_at (by simp)) rfl (by simp [Value.oneCell']) (by decide) hn1 hn2 (by simp; omega) ?_; intro g6 cap6 w6 hown6 hfr6 hat6 hlt6)
              have hrow6 : w6.ownsRow w.heap.size 5 1 (.slice (some ⟨g6, 0, none⟩) (pr.length + (1 + 1)) cap6) (pr.length + (1 + 1)) ((pr ++ (leOf eb.length 4).take (1 + 1)).map encB) := by
                rw [HST.out, ← List.append_assoc, List.map_append (l₂ := [_]), List.map_cons, List.map_nil, HBY.out]
                have e : byteAt (eb.length : Int) 1 = (eb.length : Int) / 256 % 256 := by
                  unfold byteAt
                  simp only []
                  try omega
                rw [e]
                exact hown6
              have hat7 : g6 < wo.heap.size ∨ w2.heap.size ≤ g6 := by
                rcases hat6 with h | h
                · have h : some g = some g6 := h
                  cases h
                  exact HAT.out
                · right
                  simp at h
                  omega
              have hgS : ∀ q, (Value.slice (some ⟨g, 0, none⟩) (pr.length + 1) cp).ownBlock = some q → q < wo.heap.size ∨ w2.heap.size ≤ q := fun q h => by
                have h : some g = some q := h
                cases h
                exact HAT.out
              have hfr7 := HFR.out.trans (T := fun q => (Value.slice (some ⟨g, 0, none⟩) (pr.length + 1) cp).ownBlock = some q) (Frm.trans (S := fun q => (Value.slice (some ⟨g, 0, none⟩) (pr.length + 1) cp).ownBlock = some q) (b := _) (by (repeat' (first | (with_reducible exact Frm.refl _ _) | (with_reducible assumption) | (with_reducible refine Frm.alloc ?_ _) | (with_reducible refine Frm.drew ?_) | (with_reducible refine Frm.drewN ?_ _) | (with_reducible refine Frm.set1 ?_ _) | (with_reducible refine Frm.setCell ?_ ?_ _) | (exact fun h => absurd h (Nat.lt_irrefl _)) | (intro hlt; simp [World.size_alloc, One] at hlt ⊢; omega)))) hfr6 (fun _ _ h => h)) (fun i _ h => hgS i h)
              have hfw7 := HFW.out.trans (T := fun q => (Value.slice (some ⟨g, 0, none⟩) (pr.length + 1) cp).ownBlock = some q) (Frm.trans (S := fun q => (Value.slice (some ⟨g, 0, none⟩) (pr.length + 1) cp).ownBlock = some q) (b := _) (by (repeat' (first | (with_reducible exact Frm.refl _ _) | (with_reducible assumption) | (with_reducible refine Frm.alloc ?_ _) | (with_reducible refine Frm.drew ?_) | (with_reducible refine Frm.drewN ?_ _) | (with_reducible refine Frm.set1 ?_ _) | (with_reducible refine Frm.setCell ?_ ?_ _) | (exact fun h => absurd h (Nat.lt_irrefl _)) | (intro hlt; simp [World.size_alloc, One] at hlt ⊢; omega)))) hfr6 (fun _ _ h => h)) (fun i hi h => absurd hi (Nat.not_lt.2 (row_block HROW.out h).1))
              have HR7 := Lib.hid hrow6
              have HA7 := Lib.hid hat7
              have HF7 := Lib.hid hfr7
              have HW7 := Lib.hid hfw7
              clear hown6 hfr6 hat6 hlt6 hrow6 hat7 hgS hfr7 hfw7
              go_roundw
              case rel => exact ⟨1 + 1, g6, cap6, by omega, rfl, rfl, HR7.out, HA7.out, HF7.out, HW7.out⟩
              case measure => simp [intOf]
            · skip
              go_wp2_with (at_builtin; refine wpl_app rfl el_u8 (.tmp 57) (.tmp 65) rfl (B := w.heap.size) (e2 := 5) (fr := (0, 0)) (m := 1) rfl rfl (Frm.row (S := fun _ => False) (by (repeat' (first | (with_reducible exact Frm.refl _ _) | (with_reducible assumption) | (with_reducible refine Frm.alloc ?_ _) | (with_reducible refine Frm.drew ?_) | (with_reducible refine Frm.drewN ?_ _) | (with_reducible refine Frm.set1 ?_ _) | (with_reducible refine Frm.setCell ?_ ?_ _) | (exact fun h => absurd h (Nat.lt_irrefl _)) | (intro hlt; simp [World.size_alloc, One] at hlt ⊢; omega)))) HROW.out (fun _ _ h => h)) (heap_new_at (by simp)) rfl (by simp [Value.oneCell']) (by decide) hn1 hn2 (by simp; omega) ?_; intro g6 cap6 w6 hown6 hfr6 hat6 hlt6)
              have hrow6 : w6.ownsRow w.heap.size 5 1 (.slice (some ⟨g6, 0, none⟩) (pr.length + (2 + 1)) cap6) (pr.length + (2 + 1)) ((pr ++ (leOf eb.length 4).take (2 + 1)).map encB) := by
                rw [HST.out, ← List.append_assoc, List.map_append (l₂ := [_]), List.map_cons, List.map_nil, HBY.out]
                have e : byteAt (eb.length : Int) 2 = (eb.length : Int) / 65536 := by
                  unfold byteAt
                  simp only []
                  try omega
                rw [e]
                exact hown6
              have hat7 : g6 < wo.heap.size ∨ w2.heap.size ≤ g6 := by
                rcases hat6 with h | h
                · have h : some g = some g6 := h
                  cases h
                  exact HAT.out
                · right
                  simp at h
                  omega
              have hgS : ∀ q, (Value.slice (some ⟨g, 0, none⟩) (pr.length + 2) cp).ownBlock = some q → q < wo.heap.size ∨ w2.heap.size ≤ q := fun q h => by
                have h : some g = some q := h
                cases h
                exact HAT.out
              have hfr7 := HFR.out.trans (T := fun q => (Value.slice (some ⟨g, 0, none⟩) (pr.length + 2) cp).ownBlock = some q) (Frm.trans (S := fun q => (Value.slice (some ⟨g, 0, none⟩) (pr.length + 2) cp).ownBlock = some q) (b := _) (by (repeat' (first | (with_reducible exact Frm.refl _ _) | (with_reducible assumption) | (with_reducible refine Frm.alloc ?_ _) | (with_reducible refine Frm.drew ?_) | (with_reducible refine Frm.drewN ?_ _) | (with_reducible refine Frm.set1 ?_ _) | (with_reducible refine Frm.setCell ?_ ?_ _) | (exact fun h => absurd h (Nat.lt_irrefl _)) | (intro hlt; simp [World.size_alloc, One] at hlt ⊢; omega)))) hfr6 (fun _ _ h => h)) (fun i _ h => hgS i h)
              have hfw7 := HFW.out.trans (T := fun q => (Value.slice (some ⟨g, 0, none⟩) (pr.length + 2) cp).ownBlock = some q) (Frm.trans (S := fun q => (Value.slice (some ⟨g, 0, none⟩) (pr.length + 2) cp).ownBlock = some q) (b := _) (by (repeat' (first | (with_reducible exact Frm.refl _ _) | (with_reducible assumption) | (with_reducible refine Frm.alloc ?_ _) | (with_reducible refine Frm.drew ?_) | (with_reducible refine Frm.drewN ?_ _) | (with_reducible refine Frm.set1 ?_ _) | (with_reducible refine Frm.setCell ?_ ?_ _) | (exact fun h => absurd h (Nat.lt_irrefl _)) | (intro hlt; simp [World.size_alloc, One] at hlt ⊢; omega)))) hfr6 (fun _ _ h => h)) (fun i hi h => absurd hi (Nat.not_lt.2 (row_block HROW.out h).1))
              have HR7 := Lib.hid hrow6
              have HA7 := Lib.hid hat7
              have HF7 := Lib.hid hfr7
              have HW7 := Lib.hid hfw7
              clear hown6 hfr6 hat6 hlt6 hrow6 hat7 hgS hfr7 hfw7
              go_roundw
              case rel => exact ⟨2 + 1, g6, cap6, by omega, rfl, rfl, HR7.out, HA7.out, HF7.out, HW7.out⟩
              case measure => simp [intOf]
            · skip
              go_wp2_with (at_builtin; refine wpl_app rfl el_u8 (.tmp 57) (.tmp 65) rfl (B := w.heap.size) (e2 := 5) (fr := (0, 0)) (m := 1) rfl rfl (Frm.row (S := fun _ => False) (by (repeat' (first | (with_reducible exact Frm.refl _ _) | (with_reducible assumption) | (with_reducible refine Frm.alloc ?_ _) | (with_reducible refine Frm.drew ?_) | (with_reducible refine Frm.drewN ?_ _) | (with_reducible refine Frm.set1 ?_ _) | (with_reducible refine Frm.setCell ?_ ?_ _) | (exact fun h => absurd h (Nat.lt_irrefl _)) | (intro hlt; simp [World.size_alloc, One] at hlt ⊢; omega)))) HROW.out (fun _ _ h => h)) (heap_new_at (by simp)) rfl (by simp [Value.oneCell']) (by decide) hn1 hn2 (by simp; omega) ?_; intro g6 cap6 w6 hown6 hfr6 hat6 hlt6)
              have hrow6 : w6.ownsRow w.heap.size 5 1 (.slice (some ⟨g6, 0, none⟩) (pr.length + (3 + 1)) cap6) (pr.length + (3 + 1)) ((pr ++ (leOf eb.length 4).take (3 + 1)).map encB) := by
                rw [HST.out, ← List.append_assoc, List.map_append (l₂ := [_]), List.map_cons, List.map_nil, HBY.out]
                have e : byteAt (eb.length : Int) 3 = (eb.length : Int) / 16777216 := by
                  unfold byteAt
                  simp only []
                  try omega
                rw [e]
                exact hown6
              have hat7 : g6 < wo.heap.size ∨ w2.heap.size ≤ g6 := by
                rcases hat6 with h | h
                · have h : some g = some g6 := h
                  cases h
                  exact HAT.out
                · right
                  simp at h
                  omega
              have hgS : ∀ q, (Value.slice (some ⟨g, 0, none⟩) (pr.length + 3) cp).ownBlock = some q → q < wo.heap.size ∨ w2.heap.size ≤ q := fun q h => by
                have h : some g = some q := h
                cases h
                exact HAT.out
              have hfr7 := HFR.out.trans (T := fun q => (Value.slice (some ⟨g, 0, none⟩) (pr.length + 3) cp).ownBlock = some q) (Frm.trans (S := fun q => (Value.slice (some ⟨g, 0, none⟩) (pr.length + 3) cp).ownBlock = some q) (b := _) (by (repeat' (first | (with_reducible exact Frm.refl _ _) | (with_reducible assumption) | (with_reducible refine Frm.alloc ?_ _) | (with_reducible refine Frm.drew ?_) | (with_reducible refine Frm.drewN ?_ _) | (with_reducible refine Frm.set1 ?_ _) | (with_reducible refine Frm.setCell ?_ ?_ _) | (exact fun h => absurd h (Nat.lt_irrefl _)) | (intro hlt; simp [World.size_alloc, One] at hlt ⊢; omega)))) hfr6 (fun _ _ h => h)) (fun i _ h => hgS i h)
              have hfw7 := HFW.out.trans (T := fun q => (Value.slice (some ⟨g, 0, none⟩) (pr.length + 3) cp).ownBlock = some q) (Frm.trans (S := fun q => (Value.slice (some ⟨g, 0, none⟩) (pr.length + 3) cp).ownBlock = some q) (b := _) (by (repeat' (first | (with_reducible exact Frm.refl _ _) | (with_reducible assumption) | (with_reducible refine Frm.alloc ?_ _) | (with_reducible refine Frm.drew ?_) | (with_reducible refine Frm.drewN ?_ _) | (with_reducible refine Frm.set1 ?_ _) | (with_reducible refine Frm.setCell ?_ ?_ _) | (exact fun h => absurd h (Nat.lt_irrefl _)) | (intro hlt; simp [World.size_alloc, One] at hlt ⊢; omega)))) hfr6 (fun _ _ h => h)) (fun i hi h => absurd hi (Nat.not_lt.2 (row_block HROW.out h).1))
              have HR7 := Lib.hid hrow6
              have HA7 := Lib.hid hat7
              have HF7 := Lib.hid hfr7
              have HW7 := Lib.hid hfw7
              clear hown6 hfr6 hat6 hlt6 hrow6 hat7 hgS hfr7 hfw7
              go_roundw
              case rel => exact ⟨3 + 1, g6, cap6, by omega, rfl, rfl, HR7.out, HA7.out, HF7.out, HW7.out⟩
              case measure => simp [intOf]
          · obtain rfl : j = 4 := by omega
            have hrow := HROW.out
            rw [show (leOf eb.length 4).take 4 = leOf eb.length 4 by rw [List.take_of_length_le (by rw [leOf_length]; decide)]] at hrow
            have HROW4 := Lib.hid hrow
            have HN4 : Hid (0 < eb.length → NewsOf wr Ab (eb.map encB)) := fun h0 => (HNEW.out h0).frm HFR.out (fun g o e h2 => by
              have := HFRE.out g o e
              omega)
            have hm5 : pr.length + 4 + eb.length ≤ maxLen := hm7
            clear hrow
            go_wp2_with (at_builtin; refine wpl_app_src rfl el_u8 (.tmp 67) (.tmp 68) rfl (B := w.heap.size) (news := eb.map encB) rfl rfl HROW4.out HLEN.out HN4.out (oneB eb) hm5 hm8 (by omega) ?_; intro A7 cap7 w7 hown7 hfr7)
            have hrow7 : w7.ownsRow w.heap.size 5 1 (.slice A7 (rb ++ saveI x).length cap7) (rb ++ saveI x).length ((rb ++ saveI x).map encB) := by
              have e : rb ++ saveI x = pr ++ leOf eb.length 4 ++ eb := by rw [HY.out, HPR.out]; simp only [List.append_assoc]
              have el : (pr ++ leOf eb.length 4 ++ eb).length = pr.length + 4 + eb.length := by simp only [List.length_append, leOf_length]
              rw [e, el, List.map_append]
              exact hown7
            have HR7 := Lib.hid hrow7
            have hlen7 : pr.length + 4 + eb.length = (rb ++ saveI x).length := by
              rw [HY.out, HPL.out]
              simp only [List.length_append, leOf_length]
              omega
            have HL7 := Lib.hid hlen7
            have hfw7 := HFW.out.trans hfr7 (fun i hi h => absurd hi (Nat.not_lt.2 (row_block HROW4.out h).1))
            have HW7 := Lib.hid hfw7
            clear hown7 hfr7 hrow7 hlen7 hfw7
            go_roundw
            case rel => exact ⟨k + 1, HKL.out, by go_num, by rw [HEK.out, HL7.out]; exact HR7.out, HW7.out⟩
            case measure => have := HKL.out; simp [intOf]; omega
    · have hkn : k = d.length := by omega
      subst hkn
      rw [List.take_length] at hO
      go_wp2_with fail
      go_ret
      exact ⟨_, rfl, hO, hF⟩
end Go.Proofs.Ytemjdmgfilbfaaa
namespace Go.Proofs.Ytemjdmgfilbfaaa
open Go.RowKit
open List (getElem_toArray getElem_cons_zero getElem_cons_succ setIfInBounds_toArray set_cons_zero set_cons_succ)
set_option linter.unusedVariables false
set_option linter.unusedSimpArgs false

/-- The front of some bytes, in whatever world these lie. -/
theorem bytes_frontW (A : Option Addr) (n cap : Nat) (q : IntKind) (j : Nat) (hj : j ≤ n) (hn : n ≤ cap) :
    ∃ A1, (∀ W, (Instr.slice 33 (.slice A n cap) none (some (.int q (j : Int))) none).run Try.prog W = .ok (.slice A1 j cap) W) ∧ ∀ (W0 : World) (bs : List UInt8), bs.length = n → BytesAt W0 (.slice A n cap) bs → BytesAt W0 (.slice A1 j cap) (bs.take j) := by
  have ht : Try.prog.underlying 33 = some (.slice (Try.prog.elem 33)) := by kernel_rfl
  have he : Try.prog.elem 33 = 5 := by kernel_rfl
  refine ⟨if cap = 0 then A else A.map (·.add (0 * 1)), fun W => ?_, fun W0 bs hbs h => ?_⟩
  · rw [run_slice_h W 33 _ _ _ ht q _ (by omega) (by omega), he, size_u8]
    simp [Result.andThen, sliced]
  · subst hbs
    obtain ⟨A', cap', e, h1, h2, h3⟩ := h
    simp only [Value.slice.injEq] at e
    obtain ⟨rfl, -, rfl⟩ := e
    refine ⟨_, cap, by rw [List.length_take, Nat.min_eq_left hj], by rw [List.length_take, Nat.min_eq_left hj]; omega, h2, fun h0 => ?_⟩
    rw [List.length_take, Nat.min_eq_left hj] at h0
    obtain ⟨g, off, rfl, hc⟩ := h3 (by omega)
    rw [if_neg (by omega)]
    refine ⟨g, off, by simp [Addr.add], fun i hi => ?_⟩
    rw [List.length_take, Nat.min_eq_left hj] at hi
    rw [hc i (by omega)]
    simp [List.getD_eq_getElem?_getD, hi]

set_option maxRecDepth 100000 in
set_option maxHeartbeats 2000000 in
theorem does5 (a b p B : Nat) (l : List (Nat × Im)) (d : List Im) (i s : Int) (bv : Value) (bs : List UInt8) (v : Va) (n : Int) (w : World) (h : Pr w a b p B l d) (hd : im l = d) (hf : Fit d) (hB : B ≤ w.heap.size) (hg : Arg w l p i s bv bs v n) :
    Calls Try.prog 23 #[ptr a, .agg #[.int .i64 5, .int .u16 i, .int .u8 s, bv, .int .i64 v.ty, .int .u64 v.n, .string (strB2 v.b), .int .u16 n]] w (DoesP a b p B l (loadD d bs).1 w) := by
  have HPR := Lib.hid h
  have HFIT := Lib.hid hf
  have HIM := Lib.hid hd
  have HBB := Lib.hid hB
  have HNO := Lib.hid hg.no
  have hs := Lib.hid hg.s
  have hvo := Lib.hid hg.v
  have hbl := hg.len
  have hb0 := hg.no w (Frm.refl _ _)
  obtain ⟨A3, c3, rfl, _, _, hn3⟩ := hb0.open_
  have HN3 := Lib.hid hn3
  have HLE : Hid ((bs.map encB).length = bs.length * 1) := by unfold Hid; simp
  have hm1 : 0 + bs.length ≤ maxLen := by unfold maxLen; omega
  have hm2 : (0 + bs.length) * 1 ≤ 140737488355328 := by omega
  have hn0 := hg.n.1
  have hn1 := hg.n.2
  clear h hf hd hB hg hb0 hn3
  unfold ptr
  have HLP := Lib.hid (fun u W (hW : DAt W b l) (hu : BytesAt W u bs) => odLoad_any b l u bs W hW (by rw [HIM.out]; exact HFIT.out.ok) hu hbl)
  have HLD := Lib.hid (fun u W (hW : DR W p B d) (hu : BytesAt W u bs) (hz : B ≤ W.heap.size) => rDLoad_any p B d u bs W hW HFIT.out.len (fun x hx => (HFIT.out.ok.ok x hx).1) hu hbl hz)
  unfold LoadP at HLP
  unfold ptr at HLP HLD
  rw [HIM.out] at HLP
  generalize loadD d bs = r at *
  obtain ⟨dw, c⟩ := r
  simp only at HLP HLD ⊢
  go_enter Try.func23, Try.ntmps23
  go_upto_region 21 with (at_builtin; refine wpl_app_src rfl el_u8 (.tmp 15) (.tmp 17) rfl (B := w.heap.size + 1) (xs := []) (news := bs.map encB) rfl rfl (row_new (by simp) rfl rfl (by decide) (by simp)) HLE.out (fun h => (HN3.out h).grow (by (repeat' (first | (with_reducible exact Frm.refl _ _) | (with_reducible assumption) | (with_reducible refine Frm.alloc ?_ _) | (with_reducible refine Frm.drew ?_) | (with_reducible refine Frm.drewN ?_ _) | (with_reducible refine Frm.set1 ?_ _) | (with_reducible refine Frm.setCell ?_ ?_ _) | (exact fun h => absurd h (Nat.lt_irrefl _)) | (intro hlt; simp [World.size_alloc, One] at hlt ⊢; omega))))) (oneB _) hm1 hm2 (by simp) ?_; intro A5 c5 w5 hown5 hfr5; have hD5 := does_app hown5 hfr5; have HD5 := Lib.hid hD5; have k0 : w5.cell? ⟨w.heap.size, 0, none⟩ = some (.int .i64 5) := cell_at hD5.2.1; have kl := lt_of_block hD5.2.1; clear hown5 hfr5 hD5)
  clear k0
  have HF5 := Lib.hid HD5.out.1
  have HT5 := Lib.hid HD5.out.2.1
  have HPR5 := Lib.hid (HPR.out.grow HF5.out)
  have HCC := Lib.hid (does_cells HPR5.out HT5.out)
  have HAR := Lib.hid (does_args HPR5.out (fun hk => Pr.lt HPR.out hk) HD5.out.2.2)
  have HAB := Lib.hid (fun Wx (h : Frm (Sx l p) w5 Wx) => HNO.out Wx ((Sx.no HF5.out).trans' h))
  have hal := lt_of_block HPR5.out.hp
  have hBw : B ≤ w5.heap.size := Nat.le_trans HBB.out HF5.out.size
  clear HN3 HLE hm1 hm2 HD5
  refine wp_region_held_drew (S := (fun Wx => Frm (Sx l p) w5 Wx)) (by kernel_rfl) ((Frm.refl _ _).drew) (fun hHeld => ?_)
  refine wpAnyH_take (i := 0) (v := ?_) rfl (by kernel_rfl) (by kernel_rfl) (by kernel_rfl) (fun _ _ _ h => h) (Or.inl ⟨by rfl, ?_⟩) (by assumption) ?_; rotate_left; · (intro wq hSq; have hq := HCC.out wq hSq; go_split_ands; go_simp; (try with_reducible rfl))
  try simp only [Act.put, getElem_toArray, getElem_cons_zero, getElem_cons_succ, setIfInBounds_toArray, set_cons_zero, set_cons_succ]
  refine wpAnyH_take (i := 1) (v := ?_) rfl (by kernel_rfl) (by kernel_rfl) (by kernel_rfl) (fun _ _ _ h => h) (Or.inl ⟨by rfl, ?_⟩) (by assumption) ?_; rotate_left; · (intro wq hSq; have hq := HCC.out wq hSq; go_split_ands; go_simp; (try with_reducible rfl))
  try simp only [Act.put, getElem_toArray, getElem_cons_zero, getElem_cons_succ, setIfInBounds_toArray, set_cons_zero, set_cons_succ]
  refine wpAnyH_take (i := 2) (v := ?_) rfl (by kernel_rfl) (by kernel_rfl) (by kernel_rfl) (fun _ _ _ h => h) (Or.inl ⟨by rfl, ?_⟩) (by assumption) ?_; rotate_left; · (intro wq hSq; have hq := HCC.out wq hSq; go_split_ands; go_simp; (try with_reducible rfl))
  try simp only [Act.put, getElem_toArray, getElem_cons_zero, getElem_cons_succ, setIfInBounds_toArray, set_cons_zero, set_cons_succ]
  refine wpAnyH_take (i := 3) (v := ?_) rfl (by kernel_rfl) (by kernel_rfl) (by kernel_rfl) (fun _ _ _ h => h) (Or.inl ⟨by rfl, ?_⟩) (by assumption) ?_; rotate_left; · (intro wq hSq; have hq := HCC.out wq hSq; go_split_ands; go_simp; (try with_reducible rfl))
  try simp only [Act.put, getElem_toArray, getElem_cons_zero, getElem_cons_succ, setIfInBounds_toArray, set_cons_zero, set_cons_succ]
  refine wpAnyH_take (i := 4) (v := ?_) rfl (by kernel_rfl) (by kernel_rfl) (by kernel_rfl) (fun _ _ _ h => h) (Or.inl ⟨by rfl, ?_⟩) (by assumption) ?_; rotate_left; · (intro wq hSq; have hq := HCC.out wq hSq; go_split_ands; go_simp; (try with_reducible rfl))
  try simp only [Act.put, getElem_toArray, getElem_cons_zero, getElem_cons_succ, setIfInBounds_toArray, set_cons_zero, set_cons_succ]
  refine wpAnyH_take (i := 6) (v := ?_) rfl (by kernel_rfl) (by kernel_rfl) (by kernel_rfl) (fun _ _ _ h => h) (Or.inl ⟨by rfl, ?_⟩) (by assumption) ?_; rotate_left; · (intro wq hSq; have hq := HCC.out wq hSq; go_split_ands; go_simp; (try with_reducible rfl))
  try simp only [Act.put, getElem_toArray, getElem_cons_zero, getElem_cons_succ, setIfInBounds_toArray, set_cons_zero, set_cons_succ]
  refine wpAnyH_take (i := 7) (v := ?_) rfl (by kernel_rfl) (by kernel_rfl) (by kernel_rfl) (fun _ _ _ h => h) (Or.inl ⟨by rfl, ?_⟩) (by assumption) ?_; rotate_left; · (intro wq hSq; have hq := HCC.out wq hSq; go_split_ands; go_simp; (try with_reducible rfl))
  try simp only [Act.put, getElem_toArray, getElem_cons_zero, getElem_cons_succ, setIfInBounds_toArray, set_cons_zero, set_cons_succ]
  refine wpAnyH_take (i := 8) (v := ?_) rfl (by kernel_rfl) (by kernel_rfl) (by kernel_rfl) (fun _ _ _ h => h) (Or.inl ⟨by rfl, ?_⟩) (by assumption) ?_; rotate_left; · (intro wq hSq; have hq := HCC.out wq hSq; go_split_ands; go_simp; (try with_reducible rfl))
  try simp only [Act.put, getElem_toArray, getElem_cons_zero, getElem_cons_succ, setIfInBounds_toArray, set_cons_zero, set_cons_succ]
  refine wpAnyH_take (i := 9) (v := ?_) rfl (by kernel_rfl) (by kernel_rfl) (by kernel_rfl) (fun _ _ _ h => h) (Or.inl ⟨by rfl, ?_⟩) (by assumption) ?_; rotate_left; · (intro wq hSq; have hq := HCC.out wq hSq; go_split_ands; go_simp; (try with_reducible rfl))
  try simp only [Act.put, getElem_toArray, getElem_cons_zero, getElem_cons_succ, setIfInBounds_toArray, set_cons_zero, set_cons_succ]
  refine wpAnyH_take (i := 10) (v := ?_) rfl (by kernel_rfl) (by kernel_rfl) (by kernel_rfl) (fun _ _ _ h => h) (Or.inl ⟨by rfl, ?_⟩) (by assumption) ?_; rotate_left; · (intro wq hSq; have hq := HCC.out wq hSq; go_split_ands; go_simp; (try with_reducible rfl))
  try simp only [Act.put, getElem_toArray, getElem_cons_zero, getElem_cons_succ, setIfInBounds_toArray, set_cons_zero, set_cons_succ]
  refine wpAnyH_take (i := 11) (v := ?_) rfl (by kernel_rfl) (by kernel_rfl) (by kernel_rfl) (fun _ _ _ h => h) (Or.inl ⟨by rfl, ?_⟩) (by assumption) ?_; rotate_left; · (intro wq hSq; have hq := HCC.out wq hSq; go_split_ands; go_simp; (try with_reducible rfl))
  try simp only [Act.put, getElem_toArray, getElem_cons_zero, getElem_cons_succ, setIfInBounds_toArray, set_cons_zero, set_cons_succ]
  refine wpAnyH_ready (rs := [5]) (by kernel_rfl) (by simp) ?_
  refine AllReadyH.cons rfl (fun K hK => ?_) AllReadyH.nil
  try simp only [getElem_toArray, getElem_cons_zero, getElem_cons_succ]
  go_simp
  refine (HLP.out _ _ (HPR5.out.d1.grow (Frm.refl _ _).drew) (HAR.out _ hHeld)).mono ?_
  rintro e w8 ⟨rfl, l8, hd8, hi8, hf8, hF8⟩
  have HP8 := Lib.hid ((HPR5.out.grow (Frm.refl _ _).drew).prog hF8 hd8 hf8)
  have hz8 : B ≤ w8.heap.size := Nat.le_trans hBw (hHeld.trans' (Sx.l (p := p) hF8)).size
  go_wp2_with fail
  refine hK.out _ _ (hHeld.trans' (Sx.l hF8)) (fun hHeld => ?_)
  clear hK K
  try simp only [Act.put, setIfInBounds_toArray, set_cons_zero, set_cons_succ]
  refine wpAnyH_ready (rs := [12]) (by kernel_rfl) (by simp) ?_
  refine AllReadyH.cons rfl (fun K hK => ?_) AllReadyH.nil
  try simp only [getElem_toArray, getElem_cons_zero, getElem_cons_succ]
  go_simp
  refine (HLD.out _ _ HP8.out.r (HAB.out _ hHeld) hz8).mono ?_
  rintro e w9 ⟨rfl, hd9, hF9⟩
  have HP9 := Lib.hid (HP8.out.doc hF9 hd9)
  go_wp2_with fail
  refine hK.out _ _ (hHeld.trans' (Sx.p hF9)) (fun hHeld => ?_)
  clear hK K
  try simp only [Act.put, setIfInBounds_toArray, set_cons_zero, set_cons_succ]
  refine wpAnyH_take (i := 13) (v := ?_) rfl (by kernel_rfl) (by kernel_rfl) (by kernel_rfl) (fun _ _ _ h => h) (Or.inl ⟨by rfl, ?_⟩) (by assumption) ?_; rotate_left; · (intro wq hSq; (try dsimp only at hSq); go_split_ands; go_simp; (try with_reducible rfl))
  try simp only [Act.put, getElem_toArray, getElem_cons_zero, getElem_cons_succ, setIfInBounds_toArray, set_cons_zero, set_cons_succ]
  refine wpAnyH_take (i := 14) (v := ?_) rfl (by kernel_rfl) (by kernel_rfl) (by kernel_rfl) (fun _ _ _ h => h) (Or.inl ⟨by rfl, ?_⟩) (by assumption) ?_; rotate_left; · (intro wq hSq; (try dsimp only at hSq); go_split_ands; go_simp; (try with_reducible rfl))
  try simp only [Act.put, getElem_toArray, getElem_cons_zero, getElem_cons_succ, setIfInBounds_toArray, set_cons_zero, set_cons_succ]
  refine wpAnyH_done (by kernel_rfl) ?_ _
  have HH := Lib.hid hHeld
  have HI8 := Lib.hid hi8
  have HF8 := Lib.hid hf8
  clear hHeld hF8 hF9 hd8 hd9 hi8 hf8
  go_wp2_with fail
  go_ret
  exact ⟨rfl, l8, HP9.out, HI8.out, HF8.out, (Sx.no HF5.out).trans' HH.out⟩

set_option maxRecDepth 100000 in
set_option maxHeartbeats 2000000 in
theorem does6 (a b p B : Nat) (l : List (Nat × Im)) (d : List Im) (i s : Int) (bv : Value) (bs : List UInt8) (v : Va) (n : Int) (w : World) (h : Pr w a b p B l d) (hd : im l = d) (hf : Fit d) (hB : B ≤ w.heap.size) (hg : Arg w l p i s bv bs v n) :
    Calls Try.prog 23 #[ptr a, .agg #[.int .i64 6, .int .u16 i, .int .u8 s, bv, .int .i64 v.ty, .int .u64 v.n, .string (strB2 v.b), .int .u16 n]] w (DoesP a b p B l (loadD d ((saveD d).take ((saveD d).length - (n % (((saveD d).length : Int) + 1)).toNat))).1 w) := by
  have HPR := Lib.hid h
  have HFIT := Lib.hid hf
  have HIM := Lib.hid hd
  have HBB := Lib.hid hB
  have HNO := Lib.hid hg.no
  have hs := Lib.hid hg.s
  have hvo := Lib.hid hg.v
  have hbl := hg.len
  have hb0 := hg.no w (Frm.refl _ _)
  obtain ⟨A3, c3, rfl, _, _, hn3⟩ := hb0.open_
  have HN3 := Lib.hid hn3
  have HLE : Hid ((bs.map encB).length = bs.length * 1) := by unfold Hid; simp
  have hm1 : 0 + bs.length ≤ maxLen := by unfold maxLen; omega
  have hm2 : (0 + bs.length) * 1 ≤ 140737488355328 := by omega
  have hn0 := hg.n.1
  have hn1 := hg.n.2
  clear h hf hd hB hg hb0 hn3
  unfold ptr
  have hsl : (saveD d).length ≤ 67116032 := by
    have h1 := saveD_len d
    have h2 := HFIT.out.len
    have h3 : d.length * 65543 ≤ 1024 * 65543 := Nat.mul_le_mul_right _ h2
    clear hm1 hm2 hbl hn0 hn1
    omega
  have HSV := Lib.hid (fun W (hW : DR W p B d) => rDSave_any p B d W hW HFIT.out.len HFIT.out.ok.ok)
  unfold SaveP ptr at HSV
  generalize saveD d = sb at *
  obtain ⟨j, hj⟩ : ∃ j, j = sb.length - (n % ((sb.length : Int) + 1)).toNat := ⟨_, rfl⟩
  have hm0 : 0 ≤ n % ((sb.length : Int) + 1) := Int.emod_nonneg _ (by omega)
  have hmlt : n % ((sb.length : Int) + 1) < (sb.length : Int) + 1 := Int.emod_lt_of_pos _ (by omega)
  have hjx : (sb.length : Int) - n % ((sb.length : Int) + 1) = (j : Int) := by rw [hj]; omega
  have hjl : j ≤ sb.length := by rw [hj]; omega
  rw [← hj]
  have HJX := Lib.hid hjx
  clear hjx hj
  have HLP := Lib.hid (fun u W (hW : DAt W b l) (hu : BytesAt W u (sb.take j)) => odLoad_any b l u (sb.take j) W hW (by rw [HIM.out]; exact HFIT.out.ok) hu (by rw [List.length_take]; omega))
  have HLD := Lib.hid (fun u W (hW : DR W p B d) (hu : BytesAt W u (sb.take j)) (hz : B ≤ W.heap.size) => rDLoad_any p B d u (sb.take j) W hW HFIT.out.len (fun x hx => (HFIT.out.ok.ok x hx).1) hu (by rw [List.length_take]; omega) hz)
  unfold LoadP at HLP
  unfold ptr at HLP HLD
  rw [HIM.out] at HLP
  generalize loadD d (sb.take j) = r at *
  obtain ⟨dw, c⟩ := r
  simp only at HLP HLD ⊢
  go_enter Try.func23, Try.ntmps23
  go_upto_region 23 with (at_builtin; refine wpl_app_src rfl el_u8 (.tmp 15) (.tmp 17) rfl (B := w.heap.size + 1) (xs := []) (news := bs.map encB) rfl rfl (row_new (by simp) rfl rfl (by decide) (by simp)) HLE.out (fun h => (HN3.out h).grow (by (repeat' (first | (with_reducible exact Frm.refl _ _) | (with_reducible assumption) | (with_reducible refine Frm.alloc ?_ _) | (with_reducible refine Frm.drew ?_) | (with_reducible refine Frm.drewN ?_ _) | (with_reducible refine Frm.set1 ?_ _) | (with_reducible refine Frm.setCell ?_ ?_ _) | (exact fun h => absurd h (Nat.lt_irrefl _)) | (intro hlt; simp [World.size_alloc, One] at hlt ⊢; omega))))) (oneB _) hm1 hm2 (by simp) ?_; intro A5 c5 w5 hown5 hfr5; have hD5 := does_app hown5 hfr5; have HD5 := Lib.hid hD5; have k0 : w5.cell? ⟨w.heap.size, 0, none⟩ = some (.int .i64 6) := cell_at hD5.2.1; have kl := lt_of_block hD5.2.1; clear hown5 hfr5 hD5)
  clear k0
  have HF5 := Lib.hid HD5.out.1
  have HT5 := Lib.hid HD5.out.2.1
  have HPR5 := Lib.hid (HPR.out.grow HF5.out)
  have HCC := Lib.hid (does_cells HPR5.out HT5.out)
  have HAR := Lib.hid (does_args HPR5.out (fun hk => Pr.lt HPR.out hk) HD5.out.2.2)
  have HAB := Lib.hid (fun Wx (h : Frm (Sx l p) w5 Wx) => HNO.out Wx ((Sx.no HF5.out).trans' h))
  have hal := lt_of_block HPR5.out.hp
  have hBw : B ≤ w5.heap.size := Nat.le_trans HBB.out HF5.out.size
  clear HN3 HLE hm1 hm2 HD5
  obtain ⟨q0, q1, -, -, -, -, -, -, q7⟩ := HCC.out w5 (Frm.refl _ _)
  have hnr : IntKind.i64.wrap n = n := by simp only [IntKind.wrap, IntKind.bits, IntKind.signed]; simp; omega
  go_upto_region 24 with (go_at_call 62; refine (HSV.out _ HPR5.out.r).mono ?_; rintro e w6 ⟨v6, rfl, hr6, hF6⟩; clear q0 q1 q7; have HR6 := Lib.hid hr6; have HF6 := Lib.hid hF6; obtain ⟨A6, c6, rfl, hlc6, hmc6, hn6⟩ := row_open hr6; obtain ⟨q0, q1, -, -, -, -, -, -, q7⟩ := HCC.out w6 (Sx.no HF6.out); clear hr6 hF6 hn6)
  obtain ⟨A1, hs1, hB1⟩ := bytes_frontW A6 sb.length c6 .i64 j hjl hlc6
  rw [← HJX.out] at hs1
  have HBW : Hid (∀ W, Frm (Sx l p) w6 W → BytesAt W (.slice A1 j c6) (sb.take j)) := fun W h => hB1 W sb rfl (BytesAt.of_row (h.row HR6.out (fun k hk e => by
    have h2 := (row_block HR6.out hk).1
    have h3 := HPR5.out.lt e
    omega)))
  clear hB1
  have hsb0 : (0 : Int) < (sb.length : Int) + 1 := by omega
  have htm : n.tmod ((sb.length : Int) + 1) = n % ((sb.length : Int) + 1) := Int.tmod_eq_emod_of_nonneg hn0
  go_upto_region 25 with fail
  clear q0 q1 q7 hs1 htm hnr hsb0 HSV
  have HCC6 := Lib.hid (fun Wx (h : Frm (Sx l p) w6 Wx) => HCC.out Wx ((Sx.no HF6.out).trans' h))
  have HPR6 := Lib.hid (HPR5.out.grow HF6.out)
  have hz6 : B ≤ w6.heap.size := Nat.le_trans hBw HF6.out.size
  have ha6 := lt_of_block HPR6.out.hp
  have hjn : (sb.take j).length = j := by rw [List.length_take]; omega
  have HJN := Lib.hid hjn
  have hm1 : 0 + j ≤ maxLen := by unfold maxLen; omega
  have hm2 : (0 + j) * 1 ≤ 140737488355328 := by omega
  have HLE : Hid (((sb.take j).map encB).length = j * 1) := by unfold Hid; rw [List.length_map, HJN.out]; omega
  have HNW : Hid (∀ W, Frm (fun _ => False) w6 W → 0 < j → NewsOf W A1 ((sb.take j).map encB)) := fun W h h0 => by
    obtain ⟨A', c', e, _, _, hn⟩ := (HBW.out W (Sx.no h)).open_
    simp only [Value.slice.injEq] at e
    obtain ⟨rfl, -, rfl⟩ := e
    exact hn (by rw [HJN.out]; exact h0)
  clear hjn
  refine wp_region_held_drew (S := (fun Wx => Frm (Sx l p) w6 Wx)) (by kernel_rfl) ((Frm.refl _ _).drew) (fun hHeld => ?_)
  refine wpAnyH_take (i := 0) (v := ?_) rfl (by kernel_rfl) (by kernel_rfl) (by kernel_rfl) (fun _ _ _ h => h) (Or.inl ⟨by rfl, ?_⟩) (by assumption) ?_; rotate_left; · (intro wq hSq; have hq := HCC6.out wq hSq; go_split_ands; go_simp; (try with_reducible rfl))
  try simp only [Act.put, getElem_toArray, getElem_cons_zero, getElem_cons_succ, setIfInBounds_toArray, set_cons_zero, set_cons_succ]
  refine wpAnyH_take (i := 1) (v := ?_) rfl (by kernel_rfl) (by kernel_rfl) (by kernel_rfl) (fun _ _ _ h => h) (Or.inl ⟨by rfl, ?_⟩) (by assumption) ?_; rotate_left; · (intro wq hSq; have hq := HCC6.out wq hSq; go_split_ands; go_simp; (try with_reducible rfl))
  try simp only [Act.put, getElem_toArray, getElem_cons_zero, getElem_cons_succ, setIfInBounds_toArray, set_cons_zero, set_cons_succ]
  refine wpAnyH_take (i := 2) (v := ?_) rfl (by kernel_rfl) (by kernel_rfl) (by kernel_rfl) (fun _ _ _ h => h) (Or.inl ⟨by rfl, ?_⟩) (by assumption) ?_; rotate_left; · (intro wq hSq; have hq := HCC6.out wq hSq; go_split_ands; go_simp; (try with_reducible rfl))
  try simp only [Act.put, getElem_toArray, getElem_cons_zero, getElem_cons_succ, setIfInBounds_toArray, set_cons_zero, set_cons_succ]
  refine wpAnyH_take (i := 3) (v := ?_) rfl (by kernel_rfl) (by kernel_rfl) (by kernel_rfl) (fun _ _ _ h => h) (Or.inl ⟨by rfl, ?_⟩) (by assumption) ?_; rotate_left; · (intro wq hSq; have hq := HCC6.out wq hSq; go_split_ands; go_simp; (try with_reducible rfl))
  try simp only [Act.put, getElem_toArray, getElem_cons_zero, getElem_cons_succ, setIfInBounds_toArray, set_cons_zero, set_cons_succ]
  refine wpAnyH_take (i := 5) (v := ?_) rfl (by kernel_rfl) (by kernel_rfl) (by kernel_rfl) (fun _ _ _ h => h) (Or.inl ⟨by rfl, ?_⟩) (by assumption) ?_; rotate_left; · (intro wq hSq; have hq := HCC6.out wq hSq; go_split_ands; go_simp; (try with_reducible rfl))
  try simp only [Act.put, getElem_toArray, getElem_cons_zero, getElem_cons_succ, setIfInBounds_toArray, set_cons_zero, set_cons_succ]
  refine wpAnyH_take (i := 8) (v := ?_) rfl (by kernel_rfl) (by kernel_rfl) (by kernel_rfl) (fun _ _ _ h => h) (Or.inl ⟨by rfl, ?_⟩) (by assumption) ?_; rotate_left; · (intro wq hSq; have hq := HCC6.out wq hSq; go_split_ands; go_simp; (try with_reducible rfl))
  try simp only [Act.put, getElem_toArray, getElem_cons_zero, getElem_cons_succ, setIfInBounds_toArray, set_cons_zero, set_cons_succ]
  refine wpAnyH_take (i := 9) (v := ?_) rfl (by kernel_rfl) (by kernel_rfl) (by kernel_rfl) (fun _ _ _ h => h) (Or.inl ⟨by rfl, ?_⟩) (by assumption) ?_; rotate_left; · (intro wq hSq; have hq := HCC6.out wq hSq; go_split_ands; go_simp; (try with_reducible rfl))
  try simp only [Act.put, getElem_toArray, getElem_cons_zero, getElem_cons_succ, setIfInBounds_toArray, set_cons_zero, set_cons_succ]
  refine wpAnyH_take (i := 10) (v := ?_) rfl (by kernel_rfl) (by kernel_rfl) (by kernel_rfl) (fun _ _ _ h => h) (Or.inl ⟨by rfl, ?_⟩) (by assumption) ?_; rotate_left; · (intro wq hSq; have hq := HCC6.out wq hSq; go_split_ands; go_simp; (try with_reducible rfl))
  try simp only [Act.put, getElem_toArray, getElem_cons_zero, getElem_cons_succ, setIfInBounds_toArray, set_cons_zero, set_cons_succ]
  refine wpAnyH_take (i := 11) (v := ?_) rfl (by kernel_rfl) (by kernel_rfl) (by kernel_rfl) (fun _ _ _ h => h) (Or.inl ⟨by rfl, ?_⟩) (by assumption) ?_; rotate_left; · (intro wq hSq; have hq := HCC6.out wq hSq; go_split_ands; go_simp; (try with_reducible rfl))
  try simp only [Act.put, getElem_toArray, getElem_cons_zero, getElem_cons_succ, setIfInBounds_toArray, set_cons_zero, set_cons_succ]
  refine wpAnyH_take (i := 12) (v := ?_) rfl (by kernel_rfl) (by kernel_rfl) (by kernel_rfl) (fun _ _ _ h => h) (Or.inl ⟨by rfl, ?_⟩) (by assumption) ?_; rotate_left; · (intro wq hSq; have hq := HCC6.out wq hSq; go_split_ands; go_simp; (try with_reducible rfl))
  try simp only [Act.put, getElem_toArray, getElem_cons_zero, getElem_cons_succ, setIfInBounds_toArray, set_cons_zero, set_cons_succ]
  refine wpAnyH_ready (rs := [4]) (by kernel_rfl) (by simp) ?_
  refine AllReadyH.cons rfl (fun K hK => ?_) AllReadyH.nil
  try simp only [getElem_toArray, getElem_cons_zero, getElem_cons_succ]
  go_simp
  refine hK.out _ _ (hHeld.alloc _) (fun hHeld => ?_)
  clear hK K
  try simp only [Act.put, setIfInBounds_toArray, set_cons_zero, set_cons_succ]
  refine wpAnyH_ready (rs := [6]) (by kernel_rfl) (by simp) ?_
  refine AllReadyH.cons rfl (fun K hK => ?_) AllReadyH.nil
  try simp only [getElem_toArray, getElem_cons_zero, getElem_cons_succ]
  refine wp_app_src el_u8 (.tmp 227) (.tmp 228) rfl rfl rfl (B := w6.heap.size) (xs := []) (news := (sb.take j).map encB) (empty_row w6.drew 5 1 _ (Nat.le_refl _)) HLE.out (fun h => HNW.out _ (by (repeat' (first | (with_reducible exact Frm.refl _ _) | (with_reducible assumption) | (with_reducible refine Frm.alloc ?_ _) | (with_reducible refine Frm.drew ?_) | (with_reducible refine Frm.drewN ?_ _) | (with_reducible refine Frm.set1 ?_ _) | (with_reducible refine Frm.setCell ?_ ?_ _) | (exact fun h => absurd h (Nat.lt_irrefl _)) | (intro hlt; simp [World.size_alloc, One] at hlt ⊢; omega)))) h) (oneB _) hm1 hm2 (by simp) ?_
  intro A7 c7 w7 hown7 hfr7
  have hF7 : Frm (fun _ => False) w6 w7 := Frm.trans (b := _) (T := fun k => (Value.slice (some ⟨w6.heap.size, 0, none⟩) 0 0).ownBlock = some k) (by (repeat' (first | (with_reducible exact Frm.refl _ _) | (with_reducible assumption) | (with_reducible refine Frm.alloc ?_ _) | (with_reducible refine Frm.drew ?_) | (with_reducible refine Frm.drewN ?_ _) | (with_reducible refine Frm.set1 ?_ _) | (with_reducible refine Frm.setCell ?_ ?_ _) | (exact fun h => absurd h (Nat.lt_irrefl _)) | (intro hlt; simp [World.size_alloc, One] at hlt ⊢; omega)))) hfr7 (fun i hi e => absurd hi (by cases e; exact Nat.lt_irrefl _))
  refine hK.out _ _ (Sx.no hF7) (fun hHeld => ?_)
  clear hK K
  try simp only [Act.put, setIfInBounds_toArray, set_cons_zero, set_cons_succ]
  have hr7 := hown7
  rw [Nat.zero_add, List.nil_append] at hr7
  have HB7 := Lib.hid (BytesAt.of_row hr7)
  refine wpAnyH_ready (rs := [7]) (by kernel_rfl) (by simp) ?_
  refine AllReadyH.cons rfl (fun K hK => ?_) AllReadyH.nil
  try simp only [getElem_toArray, getElem_cons_zero, getElem_cons_succ]
  go_simp
  refine (HLP.out _ _ (HPR6.out.d1.grow hF7) (by first | exact HB7.out | (simp only [Nat.zero_add]; exact HB7.out))).mono ?_
  rintro e w8 ⟨rfl, l8, hd8, hi8, hf8, hF8⟩
  have HP8 := Lib.hid ((HPR6.out.grow hF7).prog hF8 hd8 hf8)
  have hz8 : B ≤ w8.heap.size := Nat.le_trans hz6 (hHeld.trans' (Sx.l (p := p) hF8)).size
  go_wp2_with fail
  refine hK.out _ _ (hHeld.trans' (Sx.l hF8)) (fun hHeld => ?_)
  clear hK K
  try simp only [Act.put, setIfInBounds_toArray, set_cons_zero, set_cons_succ]
  refine wpAnyH_ready (rs := [13]) (by kernel_rfl) (by simp) ?_
  refine AllReadyH.cons rfl (fun K hK => ?_) AllReadyH.nil
  try simp only [getElem_toArray, getElem_cons_zero, getElem_cons_succ]
  go_simp
  refine (HLD.out _ _ HP8.out.r (HBW.out _ hHeld) hz8).mono ?_
  rintro e w9 ⟨rfl, hd9, hF9⟩
  have HP9 := Lib.hid (HP8.out.doc hF9 hd9)
  go_wp2_with fail
  refine hK.out _ _ (hHeld.trans' (Sx.p hF9)) (fun hHeld => ?_)
  clear hK K
  try simp only [Act.put, setIfInBounds_toArray, set_cons_zero, set_cons_succ]
  refine wpAnyH_take (i := 14) (v := ?_) rfl (by kernel_rfl) (by kernel_rfl) (by kernel_rfl) (fun _ _ _ h => h) (Or.inl ⟨by rfl, ?_⟩) (by assumption) ?_; rotate_left; · (intro wq hSq; (try dsimp only at hSq); go_split_ands; go_simp; (try with_reducible rfl))
  try simp only [Act.put, getElem_toArray, getElem_cons_zero, getElem_cons_succ, setIfInBounds_toArray, set_cons_zero, set_cons_succ]
  refine wpAnyH_take (i := 15) (v := ?_) rfl (by kernel_rfl) (by kernel_rfl) (by kernel_rfl) (fun _ _ _ h => h) (Or.inl ⟨by rfl, ?_⟩) (by assumption) ?_; rotate_left; · (intro wq hSq; (try dsimp only at hSq); go_split_ands; go_simp; (try with_reducible rfl))
  try simp only [Act.put, getElem_toArray, getElem_cons_zero, getElem_cons_succ, setIfInBounds_toArray, set_cons_zero, set_cons_succ]
  refine wpAnyH_done (by kernel_rfl) ?_ _
  have HH := Lib.hid hHeld
  have HI8 := Lib.hid hi8
  have HF8 := Lib.hid hf8
  clear hHeld hF8 hF9 hd8 hd9 hi8 hf8 hown7 hfr7 hF7 hr7
  go_wp2_with fail
  go_ret
  exact ⟨rfl, l8, HP9.out, HI8.out, HF8.out, (Sx.no (HF5.out.trans' HF6.out)).trans' HH.out⟩
end Go.Proofs.Ytemjdmgfilbfaaa
namespace Go.Proofs.Ytemjdmgfilbfaaa
open Go.RowKit
set_option linter.unusedVariables false
set_option linter.unusedSimpArgs false

set_option maxRecDepth 100000 in
set_option maxHeartbeats 2000000 in
theorem doesX (k : Int) (h0 : k ≠ 0) (h1 : k ≠ 1) (h2 : k ≠ 2) (h3 : k ≠ 3) (h4 : k ≠ 4) (h5 : k ≠ 5) (h6 : k ≠ 6) (a b p B : Nat) (l : List (Nat × Im)) (d : List Im) (i s : Int) (bv : Value) (bs : List UInt8) (v : Va) (n : Int) (w : World) (h : Pr w a b p B l d) (hd : im l = d) (hf : Fit d) (hB : B ≤ w.heap.size) (hg : Arg w l p i s bv bs v n) :
    Calls Try.prog 23 #[ptr a, .agg #[.int .i64 k, .int .u16 i, .int .u8 s, bv, .int .i64 v.ty, .int .u64 v.n, .string (strB2 v.b), .int .u16 n]] w (DoesP a b p B l d w) := by
  have HPR := Lib.hid h
  have HFIT := Lib.hid hf
  have HIM := Lib.hid hd
  have HBB := Lib.hid hB
  have HNO := Lib.hid hg.no
  have hs := Lib.hid hg.s
  have hvo := Lib.hid hg.v
  have hbl := hg.len
  have hb0 := hg.no w (Frm.refl _ _)
  obtain ⟨A3, c3, rfl, _, _, hn3⟩ := hb0.open_
  have HN3 := Lib.hid hn3
  have HLE : Hid ((bs.map encB).length = bs.length * 1) := by unfold Hid; simp
  have hm1 : 0 + bs.length ≤ maxLen := by unfold maxLen; omega
  have hm2 : (0 + bs.length) * 1 ≤ 140737488355328 := by omega
  have hn0 := hg.n.1
  have hn1 := hg.n.2
  clear h hf hd hB hg hb0 hn3
  unfold ptr
  have b0 : (k == 0) = false := by simpa using h0
  have b1 : (k == 1) = false := by simpa using h1
  have b2 : (k == 2) = false := by simpa using h2
  have b3 : (k == 3) = false := by simpa using h3
  have b4 : (k == 4) = false := by simpa using h4
  have b5 : (k == 5) = false := by simpa using h5
  have b6 : (k == 6) = false := by simpa using h6
  clear h0 h1 h2 h3 h4 h5 h6
  go_enter Try.func23, Try.ntmps23
  go_wp2_with (at_builtin; refine wpl_app_src rfl el_u8 (.tmp 15) (.tmp 17) rfl (B := w.heap.size + 1) (xs := []) (news := bs.map encB) rfl rfl (row_new (by simp) rfl rfl (by decide) (by simp)) HLE.out (fun h => (HN3.out h).grow (by (repeat' (first | (with_reducible exact Frm.refl _ _) | (with_reducible assumption) | (with_reducible refine Frm.alloc ?_ _) | (with_reducible refine Frm.drew ?_) | (with_reducible refine Frm.drewN ?_ _) | (with_reducible refine Frm.set1 ?_ _) | (with_reducible refine Frm.setCell ?_ ?_ _) | (exact fun h => absurd h (Nat.lt_irrefl _)) | (intro hlt; simp [World.size_alloc, One] at hlt ⊢; omega))))) (oneB _) hm1 hm2 (by simp) ?_; intro A5 c5 w5 hown5 hfr5; have hD5 := does_app hown5 hfr5; have HD5 := Lib.hid hD5; have k0 : w5.cell? ⟨w.heap.size, 0, none⟩ = some (.int .i64 k) := cell_at hD5.2.1; have kl := lt_of_block hD5.2.1; clear hown5 hfr5 hD5)
  go_ret
  exact ⟨rfl, l, HPR.out.grow HD5.out.1, HIM.out, rfl, Sx.no HD5.out.1⟩
theorem does_any (k : Int) (a b p B : Nat) (l : List (Nat × Im)) (d : List Im) (i s : Int) (bv : Value) (bs : List UInt8) (v : Va) (n : Int) (w : World) (h : Pr w a b p B l d) (hd : im l = d) (hf : Fit d) (hB : B ≤ w.heap.size) (hg : Arg w l p i s bv bs v n) :
    Calls Try.prog 23 #[ptr a, .agg #[.int .i64 k, .int .u16 i, .int .u8 s, bv, .int .i64 v.ty, .int .u64 v.n, .string (strB2 v.b), .int .u16 n]] w (DoesP a b p B l (doD d k i s bs v n) w) := by
  unfold doD
  by_cases h0 : k = 0
  · subst h0; exact does0 a b p B l d i s bv bs v n w h hd hf hB hg
  by_cases h1 : k = 1
  · subst h1; exact does1 a b p B l d i s bv bs v n w h hd hf hB hg
  by_cases h2 : k = 2
  · subst h2; exact does2 a b p B l d i s bv bs v n w h hd hf hB hg
  by_cases h3 : k = 3
  · subst h3; exact does3 a b p B l d i s bv bs v n w h hd hf hB hg
  by_cases h4 : k = 4
  · subst h4; exact does4 a b p B l d i s bv bs v n w h hd hf hB hg
  by_cases h5 : k = 5
  · subst h5; exact does5 a b p B l d i s bv bs v n w h hd hf hB hg
  by_cases h6 : k = 6
  · subst h6; exact does6 a b p B l d i s bv bs v n w h hd hf hB hg
  · rw [if_neg h1, if_neg h3, if_neg h4, if_neg h5, if_neg h6]
    exact doesX k h0 h1 h2 h3 h4 h5 h6 a b p B l d i s bv bs v n w h hd hf hB hg
theorem doD_fst (d : List Im) (k i s : Int) (bs : List UInt8) (v : Va) (n : Int) (hv : v.ok) : (doD d k i s bs v n).map (·.1) = d.map (·.1) := by
  unfold doD
  split
  · exact upd_entries (upd_write i s bs)
  split
  · exact upd_entries (upd_set i s v hv)
  split
  · exact reset_fst d
  split
  · exact load_fst d _
  split
  · exact load_fst d _
  · rfl
theorem DOk.reset {d : List Im} (h : DOk d) : DOk (resetD d) := by
  unfold resetD
  refine ⟨?_, fun x hx => ?_, by rw [List.length_map]; exact h.len⟩
  · rw [List.pairwise_map]
    exact h.srt
  · obtain ⟨y, hy, rfl⟩ := List.mem_map.1 hx
    have := (h.ok y hy).1
    exact ⟨this, this.2.2.2.2.2.2⟩
theorem Fit.does {d : List Im} (h : Fit d) (k i s : Int) (bs : List UInt8) (v : Va) (n : Int) (hv : v.ok) : Fit (doD d k i s bs v n) := by
  refine h.of ?_ (doD_fst d k i s bs v n hv)
  unfold doD
  split
  · exact h.ok.write i s bs
  split
  · exact h.ok.set i s v hv
  split
  · exact h.ok.reset
  split
  · exact load_ok h.ok _
  split
  · exact load_ok h.ok _
  · exact h.ok
theorem Fit.new {xs : List En} (h : checkE xs = 0) (hx : ∀ x ∈ xs, x.ok) : Fit (newD xs) := ⟨newD_ok h hx, .new h⟩
end Go.Proofs.Ytemjdmgfilbfaaa
