/-
  The document's check of entries.
-/
import Derived.Test.YtemjdmgfilbfaaaOdM
namespace Go.Proofs.Ytemjdmgfilbfaaa
open Go.RowKit
set_option linter.unusedVariables false

set_option maxRecDepth 100000 in
set_option maxHeartbeats 4000000 in
theorem rDCheck_any (v : Value) (xs : List En) (w : World) (h : SlAt cellsE 14 w v xs) (hx : ∀ x ∈ xs, x.ok) : Calls Try.prog 13 #[v] w fun e w' => e = .returned (.int .i64 (checkE xs)) ∧ Frm (fun _ => False) w w' := by
  have HOK := Lib.hid hx
  obtain ⟨A, cap, rfl, h1, h2, hA⟩ := h
  have hm : xs.length ≤ 9223372036854775807 := Nat.le_trans h1 h2
  have HA := Lib.hid hA
  have HC : Hid (checkE xs = if 1024 < xs.length then 2 else chkE [] xs) := rfl
  generalize checkE xs = r at *
  clear h1 h2 hA hx
  by_cases hlen : 1024 < xs.length
  · have E : Hid (r = 2) := by unfold Hid; rw [HC.out, if_pos hlen]
    go_enter Try.func13, Try.ntmps13
    go_wp2_with fail
    go_ret
    exact ⟨by rw [E.out]; rfl, by (repeat' (first | (with_reducible exact Frm.refl _ _) | (with_reducible assumption) | (with_reducible refine Frm.alloc ?_ _) | (with_reducible refine Frm.drew ?_) | (with_reducible refine Frm.drewN ?_ _) | (with_reducible refine Frm.set1 ?_ _) | (with_reducible refine Frm.setCell ?_ ?_ _) | (exact fun h => absurd h (Nat.lt_irrefl _)) | (intro hlt; simp [World.size_alloc, One] at hlt ⊢; omega)))⟩
  · have hlen' : xs.length ≤ 1024 := by omega
    rw [if_neg hlen] at HC
    clear hlen
    go_enter Try.func13, Try.ntmps13
    go_wp2_with fail
    go_loopw [3] (fun i wr => ∃ k : Nat, k ≤ xs.length ∧ i = .int .i64 k ∧ r = chkE ((xs.take k).map plE) (xs.drop k) ∧ Frm (fun _ => False) w wr) (fun i _ => xs.length - (intOf i).toNat)
    case atStart => exact ⟨0, Nat.zero_le _, rfl, HC.out, Frm.refl _ _⟩
    case round =>
      clear HC
      obtain ⟨k, hk, rfl, hr, hF⟩ := hrel
      have HR := Lib.hid hr
      have HF := Lib.hid hF
      clear hr hF
      by_cases hlt : k < xs.length
      · obtain ⟨g, off, rfl, hgl, hcell⟩ := HA.out (by omega)
        have HD : Hid (xs.drop k = xs[k] :: xs.drop (k + 1)) := List.drop_eq_getElem_cons hlt
        have HTK : Hid (xs.take (k + 1) = xs.take k ++ [xs[k]]) := List.take_succ_eq_append_getElem hlt
        have hxo := HOK.out _ (List.getElem_mem hlt)
        have q := fun j hj => HF.out.cell ((hcell k hlt j hj).trans (List.getElem?_eq_getElem (by rw [cellsE_len]; exact hj))) (fun h => h)
        have HCELL := Lib.hid (fun i hi j hj => (hcell i hi j hj).trans (List.getElem?_eq_getElem (by rw [cellsE_len]; exact hj)))
        have HXK : Hid (∀ j (hj : j < k), xs[j]'(by omega) ∈ xs.take k) := fun j hj => by
          rw [List.mem_take_iff_getElem]
          exact ⟨j, by omega, rfl⟩
        have HALL : Hid (∀ p, (∀ j (hj : j < k), plE (xs[j]'(by omega)) ≠ p) → p ∉ (xs.take k).map plE) := fun p h hm => by
          obtain ⟨y, hy, e⟩ := List.mem_map.1 hm
          obtain ⟨j, hj, rfl⟩ := List.mem_take_iff_getElem.1 hy
          exact h j (by omega) e
        generalize xs[k] = x at *
        have d0 := q 0 (by decide)
        have d1 := q 1 (by decide)
        have d2 := q 2 (by decide)
        have d3 := q 3 (by decide)
        have d4 := q 4 (by decide)
        have d5 := q 5 (by decide)
        have d6 := q 6 (by decide)
        have d7 := q 7 (by decide)
        have d8 := q 8 (by decide)
        have d9 := q 9 (by decide)
        have d10 := q 10 (by decide)
        have d11 := q 11 (by decide)
        have d12 := q 12 (by decide)
        have d13 := q 13 (by decide)
        simp only [cellsE, List.getElem_cons_succ, List.getElem_cons_zero, Nat.add_zero] at d0 d1 d2 d3 d4 d5 d6 d7 d8 d9 d10 d11 d12 d13
        have HEN := Lib.hid (fun W => rentry_any x W hxo)
        have HR2 : Hid (r = if entryE x ≠ 0 then entryE x else if plE x ∈ (xs.take k).map plE then 5 else chkE ((xs.take k).map plE ++ [plE x]) (xs.drop (k + 1))) := by
          unfold Hid
          rw [HR.out, HD.out]
          rfl
        generalize entryE x = ee at *
        have HXO := Lib.hid hxo
        clear hcell q hxo HR
        go_wp2_with fail
        refine (HEN.out _).mono ?_
        rintro e w1 ⟨rfl, hF1⟩
        have HF1 := Lib.hid (HF.out.trans' hF1)
        have D0 := hF1.cell d0 (fun h => h)
        have D1 := hF1.cell d1 (fun h => h)
        clear d0 d1 d2 d3 d4 d5 d6 d7 d8 d9 d10 d11 d12 d13 hF1 HEN
        by_cases he : ee = 0
        case neg =>
          have E : Hid (r = ee) := by unfold Hid; rw [HR2.out, if_pos he]
          have be : (ee != 0) = true := by simpa using he
          clear he HR2
          go_wp2_with fail
          go_ret
          exact ⟨by rw [E.out]; rfl, HF1.out⟩
        case pos =>
          subst he
          have HR3 : Hid (r = if plE x ∈ (xs.take k).map plE then 5 else chkE ((xs.take k).map plE ++ [plE x]) (xs.drop (k + 1))) := by unfold Hid; rw [HR2.out, if_neg (by simp)]
          clear HR2
          have DD0 := Lib.hid D0
          have DD1 := Lib.hid D1
          clear D0 D1
          obtain ⟨wo, hwo⟩ : ∃ wo : World, wo = wr := ⟨_, rfl⟩
          subst hwo
          go_wp2_with fail
          go_loopw [5] (fun i wr => ∃ j : Nat, ∃ _ : j ≤ k, i = .int .i64 j ∧ (∀ m (hm : m < j), plE (xs[m]'(by omega)) ≠ plE x) ∧ Frm (fun _ => False) w1 wr) (fun i _ => k - (intOf i).toNat)
          case atStart => exact ⟨0, Nat.zero_le _, rfl, fun m hm => absurd hm (Nat.not_lt_zero _), Frm.refl _ _⟩
          case round =>
            obtain ⟨j, hjk, rfl, hnone, hFr⟩ := hrel
            have HNONE := Lib.hid hnone
            have HFR := Lib.hid hFr
            by_cases hjl : j < k
            · have e0 := (HF1.out.trans' hFr).cell (HCELL.out j (by omega) 0 (by decide)) (fun h => h)
              have e1 := (HF1.out.trans' hFr).cell (HCELL.out j (by omega) 1 (by decide)) (fun h => h)
              have f0 := hFr.cell DD0.out (fun h => h)
              have f1 := hFr.cell DD1.out (fun h => h)
              have hyo := HOK.out _ (List.getElem_mem (show j < xs.length by omega))
              have HYM := Lib.hid (HXK.out j hjl)
              simp only [cellsE, List.getElem_cons_succ, List.getElem_cons_zero, Nat.add_zero] at e0 e1
              generalize hye : xs[j]'(by omega) = y at *
              have HNX : Hid (plE y ≠ plE x → ∀ m (hm : m < j + 1), plE (xs[m]'(by omega)) ≠ plE x) := fun hne m hm => by
                by_cases h : m < j
                · exact HNONE.out m h
                · obtain rfl : m = j := by omega
                  rw [hye]
                  exact hne
              clear hnone hFr hye
              have HYO := Lib.hid hyo
              clear hyo
              have j0 : (0 : Int) ≤ (j : Int) := by omega
              have j1 : (j : Int) < (xs.length : Int) := by omega
              have k0 : (0 : Int) ≤ (k : Int) := by omega
              have k1 : (k : Int) < (xs.length : Int) := by omega
              by_cases hi : y.idx = x.idx
              · by_cases hs : y.sub = x.sub
                · have E : Hid (r = 5) := by
                    unfold Hid
                    rw [HR3.out, if_pos]
                    exact List.mem_map.2 ⟨y, HYM.out, by unfold plE; rw [hi, hs]⟩
                  have b1 : (y.idx == x.idx) = true := by simpa using hi
                  have b2 : (y.sub == x.sub) = true := by simpa using hs
                  clear hi hs HR3
                  go_wp2_with fail
                  go_quiet (fail)
                  go_wp2_with fail
                  go_ret
                  exact ⟨by rw [E.out]; rfl, (HF1.out.trans' HFR.out).trans' (by (repeat' (first | (with_reducible exact Frm.refl _ _) | (with_reducible assumption) | (with_reducible refine Frm.alloc ?_ _) | (with_reducible refine Frm.drew ?_) | (with_reducible refine Frm.drewN ?_ _) | (with_reducible refine Frm.set1 ?_ _) | (with_reducible refine Frm.setCell ?_ ?_ _) | (exact fun h => absurd h (Nat.lt_irrefl _)) | (intro hlt; simp [World.size_alloc, One] at hlt ⊢; omega))))⟩
                · have b1 : (y.idx == x.idx) = true := by simpa using hi
                  have b2 : (y.sub == x.sub) = false := beq_eq_false_iff_ne.2 hs
                  have HNE : Hid (plE y ≠ plE x) := fun e => hs (plE_inj HYO.out HXO.out e).2
                  clear hi hs
                  go_wp2_with fail
                  go_quiet (fail)
                  go_wp2_with fail
                  go_roundw
                  case rel => exact ⟨j + 1, by omega, by go_num, HNX.out HNE.out, HFR.out.trans' (by (repeat' (first | (with_reducible exact Frm.refl _ _) | (with_reducible assumption) | (with_reducible refine Frm.alloc ?_ _) | (with_reducible refine Frm.drew ?_) | (with_reducible refine Frm.drewN ?_ _) | (with_reducible refine Frm.set1 ?_ _) | (with_reducible refine Frm.setCell ?_ ?_ _) | (exact fun h => absurd h (Nat.lt_irrefl _)) | (intro hlt; simp [World.size_alloc, One] at hlt ⊢; omega))))⟩
                  case measure => simp [intOf]; omega
              · have b1 : (y.idx == x.idx) = false := beq_eq_false_iff_ne.2 hi
                have HNE : Hid (plE y ≠ plE x) := fun e => hi (plE_inj HYO.out HXO.out e).1
                clear hi
                go_wp2_with fail
                go_quiet (fail)
                go_wp2_with fail
                go_roundw
                case rel => exact ⟨j + 1, by omega, by go_num, HNX.out HNE.out, HFR.out.trans' (by (repeat' (first | (with_reducible exact Frm.refl _ _) | (with_reducible assumption) | (with_reducible refine Frm.alloc ?_ _) | (with_reducible refine Frm.drew ?_) | (with_reducible refine Frm.drewN ?_ _) | (with_reducible refine Frm.set1 ?_ _) | (with_reducible refine Frm.setCell ?_ ?_ _) | (exact fun h => absurd h (Nat.lt_irrefl _)) | (intro hlt; simp [World.size_alloc, One] at hlt ⊢; omega))))⟩
                case measure => simp [intOf]; omega
            · obtain rfl : j = k := by omega
              have E : Hid (r = chkE ((xs.take (j + 1)).map plE) (xs.drop (j + 1))) := by
                unfold Hid
                rw [HR3.out, if_neg (HALL.out _ HNONE.out), HTK.out, List.map_append]
                rfl
              clear HR3 hnone hFr
              go_wp2_with fail
              go_roundw
              case rel => exact ⟨j + 1, by omega, by go_num, E.out, HF1.out.trans' HFR.out⟩
              case measure => simp [intOf]; omega
      · have E : Hid (r = 0) := by
          unfold Hid
          rw [HR.out, List.drop_eq_nil_of_le (by omega)]
          rfl
        go_wp2_with fail
        go_ret
        exact ⟨by rw [E.out]; rfl, HF.out⟩
end Go.Proofs.Ytemjdmgfilbfaaa
