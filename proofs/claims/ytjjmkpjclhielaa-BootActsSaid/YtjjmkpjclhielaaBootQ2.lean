/-
  tells: both boots answer alike.
-/
import Derived.Test.YtjjmkpjclhielaaBootQ1
import Derived.Test.YtjjmkpjclhielaaBootO
namespace Go.Proofs.Ytjjmkpjclhielaa
open Go.RowKit
set_option linter.unusedVariables false

set_option maxRecDepth 100000 in
set_option maxHeartbeats 1000000 in
theorem tells_any (N b d ib lb sb : Nat) (vl : Value) (xs : List Pla) (l : List (Nat × Nd)) (t : Int) (hh : Bool) (w : World) (hB : BAt w b l t hh) (hR : RAt N w d ib lb sb vl xs (nds l) t hh) (hm : l.length ≤ 127)
    (hnd : ((nds l).map (·.p.node)).Nodup) (hrg : ∀ x ∈ nds l, 1 ≤ x.p.node ∧ x.p.node ≤ 127) :
    Calls Try.prog 24 #[ptr b, ptr d] w fun e w' => e = .returned (.bool true) ∧ Frm (fun _ => False) w w' := by
  have HB := Lib.hid (fun W hF => hB.grow (w' := W) hF)
  have HR := Lib.hid (fun W hF => hR.grow (w' := W) hF)
  have HN1 := Lib.hid (fun W hF => next_any b l t hh W (HB.out W hF))
  have HN2 := Lib.hid (fun W hF => rnext_any N d ib lb sb vl xs (nds l) t hh W (HR.out W hF))
  have HM1 := Lib.hid (fun W hF => may_any b l t hh W (HB.out W hF))
  have HM2 := Lib.hid (fun W hF => rmay_any N d ib lb sb vl xs (nds l) t hh W (HR.out W hF))
  have HH := Lib.hid (fun W hF => halted_any b l t hh W (HB.out W hF))
  have HRUN := Lib.hid (fun W hF => run_any b l t hh W (HB.out W hF) (by omega))
  have HST := Lib.hid (fun n W hF => status_any b l t hh n W (HB.out W hF))
  have HFI := Lib.hid (fun n W hF => rfind_any N d ib lb sb vl xs (nds l) t hh n W (HR.out W hF))
  have c5 : w.cell? ⟨d, 5, none⟩ = some (.bool hh) := cell_at hR.hd
  have hdl := lt_of_block hR.hd
  have HB0 := Lib.hid hB
  have HR0 := Lib.hid hR
  have HND := Lib.hid hnd
  have HRG := Lib.hid hrg
  clear hB hR hnd hrg
  unfold NextP MayP at *
  generalize nextOf ⟨nds l, t, hh⟩ = nx at *
  generalize mayOf ⟨nds l, t, hh⟩ = my at *
  obtain ⟨n0, ok⟩ := nx
  unfold ptr at *
  go_enter Try.func24, Try.ntmps24
  go_wp2_with (first | (go_at_call 11; refine (HN1.out _ (by (repeat' (first | (with_reducible exact Frm.refl _ _) | (with_reducible assumption) | (with_reducible refine Frm.alloc ?_ _) | (with_reducible refine Frm.drew ?_) | (with_reducible refine Frm.drewN ?_ _) | (with_reducible refine Frm.set1 ?_ _) | (with_reducible refine Frm.setCell ?_ ?_ _) | (exact fun h => absurd h (Nat.lt_irrefl _)) | (intro hlt; simp [World.size_alloc, One] at hlt ⊢; omega))))).mono ?_; rintro e w1 ⟨rfl, m1, rfl⟩) | (go_at_call 20; refine (HN2.out _ (by (repeat' (first | (with_reducible exact Frm.refl _ _) | (with_reducible assumption) | (with_reducible refine Frm.alloc ?_ _) | (with_reducible refine Frm.drew ?_) | (with_reducible refine Frm.drewN ?_ _) | (with_reducible refine Frm.set1 ?_ _) | (with_reducible refine Frm.setCell ?_ ?_ _) | (exact fun h => absurd h (Nat.lt_irrefl _)) | (intro hlt; simp [World.size_alloc, One] at hlt ⊢; omega))))).mono ?_; rintro e w2 ⟨rfl, m2, rfl⟩))
  have hF0 : Frm (fun _ => False) w (w.drewN (m1 + m2)) := by (repeat' (first | (with_reducible exact Frm.refl _ _) | (with_reducible assumption) | (with_reducible refine Frm.alloc ?_ _) | (with_reducible refine Frm.drew ?_) | (with_reducible refine Frm.drewN ?_ _) | (with_reducible refine Frm.set1 ?_ _) | (with_reducible refine Frm.setCell ?_ ?_ _) | (exact fun h => absurd h (Nat.lt_irrefl _)) | (intro hlt; simp [World.size_alloc, One] at hlt ⊢; omega)))
  have d5 : (w.drewN (m1 + m2)).cell? ⟨d, 5, none⟩ = some (.bool hh) := hF0.cell c5 (fun h => h)
  have dl : d < (w.drewN (m1 + m2)).heap.size := Nat.lt_of_lt_of_le hdl hF0.size
  have HF0 := Lib.hid hF0
  clear hF0 c5
  generalize w.drewN (m1 + m2) = w0 at *
  go_quiet (first | (go_at_call 13; exact Calls.quiet_of (HM1.out _ (HF0.out.trans' (by (repeat' (first | (with_reducible exact Frm.refl _ _) | (with_reducible assumption) | (with_reducible refine Frm.alloc ?_ _) | (with_reducible refine Frm.drew ?_) | (with_reducible refine Frm.drewN ?_ _) | (with_reducible refine Frm.set1 ?_ _) | (with_reducible refine Frm.setCell ?_ ?_ _) | (exact fun h => absurd h (Nat.lt_irrefl _)) | (intro hlt; simp [World.size_alloc, One] at hlt ⊢; omega))))))) | (go_at_call 36; exact Calls.quiet_of_same (HM2.out _ (HF0.out.trans' (by (repeat' (first | (with_reducible exact Frm.refl _ _) | (with_reducible assumption) | (with_reducible refine Frm.alloc ?_ _) | (with_reducible refine Frm.drew ?_) | (with_reducible refine Frm.drewN ?_ _) | (with_reducible refine Frm.set1 ?_ _) | (with_reducible refine Frm.setCell ?_ ?_ _) | (exact fun h => absurd h (Nat.lt_irrefl _)) | (intro hlt; simp [World.size_alloc, One] at hlt ⊢; omega))))))) | (go_at_call 17; exact Calls.quiet_of_same (HH.out _ (HF0.out.trans' (by (repeat' (first | (with_reducible exact Frm.refl _ _) | (with_reducible assumption) | (with_reducible refine Frm.alloc ?_ _) | (with_reducible refine Frm.drew ?_) | (with_reducible refine Frm.drewN ?_ _) | (with_reducible refine Frm.set1 ?_ _) | (with_reducible refine Frm.setCell ?_ ?_ _) | (exact fun h => absurd h (Nat.lt_irrefl _)) | (intro hlt; simp [World.size_alloc, One] at hlt ⊢; omega))))))))
  go_wp2_with fail
  refine (HRUN.out _ (HF0.out.trans' (by (repeat' (first | (with_reducible exact Frm.refl _ _) | (with_reducible assumption) | (with_reducible refine Frm.alloc ?_ _) | (with_reducible refine Frm.drew ?_) | (with_reducible refine Frm.drewN ?_ _) | (with_reducible refine Frm.set1 ?_ _) | (with_reducible refine Frm.setCell ?_ ?_ _) | (exact fun h => absurd h (Nat.lt_irrefl _)) | (intro hlt; simp [World.size_alloc, One] at hlt ⊢; omega)))))).mono ?_
  rintro e w3 ⟨v3, rfl, hrow, hF3⟩
  obtain ⟨A3, c3, rfl, hn3, hc3, hrd⟩ := row_open hrow
  have HF3 : Hid (Frm (fun _ => False) w w3) := HF0.out.trans' (Frm.trans' (by (repeat' (first | (with_reducible exact Frm.refl _ _) | (with_reducible assumption) | (with_reducible refine Frm.alloc ?_ _) | (with_reducible refine Frm.drew ?_) | (with_reducible refine Frm.drewN ?_ _) | (with_reducible refine Frm.set1 ?_ _) | (with_reducible refine Frm.setCell ?_ ?_ _) | (exact fun h => absurd h (Nat.lt_irrefl _)) | (intro hlt; simp [World.size_alloc, One] at hlt ⊢; omega)))) hF3)
  have hlt3 : Hid ((sorted (runN (nds l))).Pairwise (· < ·)) := sorted_lt (run_nodup HND.out)
  have hrg3 := Lib.hid (run_range HRG.out)
  have hmem3 := Lib.hid (fun n => sorted_mem (runN (nds l)) n)
  have hlen3 : (sorted (runN (nds l))).length = (runN (nds l)).length := by unfold sorted; exact List.length_mergeSort _
  rw [← hlen3] at hrd hn3 ⊢
  have HRD := Lib.hid hrd
  have hlm : (sorted (runN (nds l))).length ≤ 127 := by
    rw [hlen3]; unfold runN
    have := List.length_filter_le (fun x : Nd => x.is == 1) (nds l)
    have h2 := nds_length l
    simp; omega
  clear hrow hF3 hrd hlen3 d5 dl hdl
  generalize sorted (runN (nds l)) = S at *
  go_wp2_with fail
  go_loopw [10, 11] (fun a n wr => ∃ i : Nat, i ≤ 131 ∧ n = .int .i64 ((i : Int) - 1) ∧ a = .int .i64 (below S ((i : Int) - 1)) ∧ Frm (fun _ => False) w3 wr) (fun _ n _ => 131 - (intOf n + 1).toNat)
  case atStart => exact ⟨0, by omega, rfl, by rw [below_first (fun x hx => by have := hrg3.out x hx; omega)]; rfl, by (repeat' (first | (with_reducible exact Frm.refl _ _) | (with_reducible assumption) | (with_reducible refine Frm.alloc ?_ _) | (with_reducible refine Frm.drew ?_) | (with_reducible refine Frm.drewN ?_ _) | (with_reducible refine Frm.set1 ?_ _) | (with_reducible refine Frm.setCell ?_ ?_ _) | (exact fun h => absurd h (Nat.lt_irrefl _)) | (intro hlt; simp [World.size_alloc, One] at hlt ⊢; omega)))⟩
  case round =>
    obtain ⟨i, hi, rfl, rfl, hF⟩ := hrel
    obtain ⟨n, hn⟩ : ∃ n : Int, (i : Int) - 1 = n := ⟨_, rfl⟩
    rw [hn]
    have hn1 : -1 ≤ n := by omega
    have hn2 : n ≤ 130 := by omega
    have HF := Lib.hid (HF3.out.trans' hF)
    have HFr := Lib.hid hF
    have hR5 := HR.out wr HF.out
    have HST5 := Lib.hid (fun W hF => HST.out n W hF)
    have HFI5 := Lib.hid (fun W hF => HFI.out n W hF)
    by_cases hlt : n < 130
    · have hnx : ((i + 1 : Nat) : Int) - 1 = n + 1 := by omega
      have HNX := Lib.hid hnx
      have HI : Hid (i + 1 ≤ 131 ∧ (131 : Nat) - (n + 1 + 1).toNat < 131 - (n + 1).toNat) := ⟨by omega, by omega⟩
      clear hi hn hF hnx
      cases hp : placeN (nds l) n with
      | none =>
        have hs : statusOf (nds l) n = (0, 0, false) := by unfold statusOf; rw [hp]
        have hf : FindP (nds l) n = -1 := by unfold FindP; rw [hp]
        have hno : n ∉ S := by rw [hmem3.out]; exact run_mem_none hp
        have hbl : Hid (below S (n + 1) = below S n) := below_no hno
        rw [hs] at HST5
        rw [hf] at HFI5
        unfold StatusP at HST5
        clear hp hs hf hno hR5
        go_wp2_with (first | (go_at_call 18; refine (HST5.out _ (HF.out.trans' (by (repeat' (first | (with_reducible exact Frm.refl _ _) | (with_reducible assumption) | (with_reducible refine Frm.alloc ?_ _) | (with_reducible refine Frm.drew ?_) | (with_reducible refine Frm.drewN ?_ _) | (with_reducible refine Frm.set1 ?_ _) | (with_reducible refine Frm.setCell ?_ ?_ _) | (exact fun h => absurd h (Nat.lt_irrefl _)) | (intro hlt; simp [World.size_alloc, One] at hlt ⊢; omega)))))).mono ?_; rintro e w6 ⟨rfl, hF6⟩; have HF6 : Hid (Frm (fun _ => False) wr w6) := (Frm.trans' (by (repeat' (first | (with_reducible exact Frm.refl _ _) | (with_reducible assumption) | (with_reducible refine Frm.alloc ?_ _) | (with_reducible refine Frm.drew ?_) | (with_reducible refine Frm.drewN ?_ _) | (with_reducible refine Frm.set1 ?_ _) | (with_reducible refine Frm.setCell ?_ ?_ _) | (exact fun h => absurd h (Nat.lt_irrefl _)) | (intro hlt; simp [World.size_alloc, One] at hlt ⊢; omega)))) hF6); clear hF6) | (go_at_call 35; refine (HFI5.out _ (HF.out.trans' (HF6.out.trans' (by (repeat' (first | (with_reducible exact Frm.refl _ _) | (with_reducible assumption) | (with_reducible refine Frm.alloc ?_ _) | (with_reducible refine Frm.drew ?_) | (with_reducible refine Frm.drewN ?_ _) | (with_reducible refine Frm.set1 ?_ _) | (with_reducible refine Frm.setCell ?_ ?_ _) | (exact fun h => absurd h (Nat.lt_irrefl _)) | (intro hlt; simp [World.size_alloc, One] at hlt ⊢; omega))))))).mono ?_; rintro e w7 ⟨rfl, hw7⟩; subst w7))
        go_roundw
        case rel => exact ⟨i + 1, HI.out.1, by rw [HNX.out], by rw [HNX.out, hbl.out], HFr.out.trans' (HF6.out.trans' (by (repeat' (first | (with_reducible exact Frm.refl _ _) | (with_reducible assumption) | (with_reducible refine Frm.alloc ?_ _) | (with_reducible refine Frm.drew ?_) | (with_reducible refine Frm.drewN ?_ _) | (with_reducible refine Frm.set1 ?_ _) | (with_reducible refine Frm.setCell ?_ ?_ _) | (exact fun h => absurd h (Nat.lt_irrefl _)) | (intro hlt; simp [World.size_alloc, One] at hlt ⊢; omega)))))⟩
        case measure => exact HI.out.2
      | some k =>
        obtain ⟨y, hy, _⟩ := placeN_some hp
        obtain ⟨hk, hyk⟩ := List.getElem?_eq_some_iff.1 hy
        have hs : statusOf (nds l) n = (y.status, y.looked, true) := by unfold statusOf; simp only [hp, hy]
        have hf : FindP (nds l) n = (k : Int) := by unfold FindP; rw [hp]
        have hmm := run_mem_some HND.out hp hy
        rw [← hmem3.out] at hmm
        rw [hs] at HST5
        rw [hf] at HFI5
        unfold StatusP at HST5
        have hll : (nds l).length = l.length := nds_length l
        have hkl : (k : Int) < ((nds l).length : Int) := by omega
        have hk0 : (0 : Int) ≤ (k : Int) := by omega
        have hkn : decide ((k : Int) < 0) = false := by simp
        have hrds : Hid (∀ W, Frm (fun _ => False) w W → W.cell? ⟨ib, k, none⟩ = some (.int .i64 y.is) ∧ W.cell? ⟨lb, k, none⟩ = some (.int .i64 y.looked) ∧ W.cell? ⟨sb, k, none⟩ = some (.int .u8 y.status) ∧
            W.cell? ⟨d, 1, none⟩ = some (.slice (some ⟨ib, 0, none⟩) (nds l).length (nds l).length) ∧ W.cell? ⟨d, 2, none⟩ = some (.slice (some ⟨lb, 0, none⟩) (nds l).length (nds l).length) ∧ W.cell? ⟨d, 3, none⟩ = some (.slice (some ⟨sb, 0, none⟩) (nds l).length (nds l).length) ∧ d < W.heap.size ∧ ib < W.heap.size ∧ lb < W.heap.size ∧ sb < W.heap.size) := fun W hW => by
          have h := HR.out W hW
          obtain ⟨r1, r2, r3, _⟩ := h.read hk
          rw [hyk] at r1 r2 r3
          exact ⟨r1, r2, r3, cell_at h.hd, cell_at h.hd, cell_at h.hd, lt_of_block h.hd, lt_of_block h.hi, lt_of_block h.hl, lt_of_block h.hs⟩
        clear hp hs hf hR5 hll hy hyk
        by_cases hi1 : y.is = 1
        · have hb : (y.is == 1) = true := by simpa using hi1
          have hin : n ∈ S := hmm.2 hi1
          have hbl : Hid (below S (n + 1) = below S n + 1) := below_yes hlt3.out hin
          have hat := below_at hlt3.out hin
          obtain ⟨hat1, hat2⟩ := List.getElem?_eq_some_iff.1 hat
          obtain ⟨g3, rfl, _, ⟨cur3, hcur3⟩, _, hc3⟩ := HRD.out (by omega)
          have hg3 := lt_of_block hcur3
          have hca : Hid (∀ W, Frm (fun _ => False) w3 W → W.cell? ⟨g3, below S n, none⟩ = some (.int .i64 n) ∧ g3 < W.heap.size) := fun W hW => by
            have h1 := hc3 (below S n) (by omega)
            rw [List.getElem?_map, hat] at h1
            have h2 := hW.cell h1 (fun h => h)
            exact ⟨h2, Nat.lt_of_lt_of_le hg3 hW.size⟩
          have hbi : (below S n : Int) < (S.length : Int) := by omega
          have hadd : Hid (((below S n + 1 : Nat) : Int) = (below S n : Int) + 1) := by unfold Hid; omega
          clear hi1 hmm hin hat hat2 hc3 hcur3
          obtain ⟨a0, ha0⟩ : ∃ a0, below S n = a0 := ⟨_, rfl⟩
          rw [ha0] at hbl hat1 hca hbi hadd ⊢
          clear ha0
          go_wp2_with (first | (go_at_call 18; refine (HST5.out _ (HF.out.trans' (by (repeat' (first | (with_reducible exact Frm.refl _ _) | (with_reducible assumption) | (with_reducible refine Frm.alloc ?_ _) | (with_reducible refine Frm.drew ?_) | (with_reducible refine Frm.drewN ?_ _) | (with_reducible refine Frm.set1 ?_ _) | (with_reducible refine Frm.setCell ?_ ?_ _) | (exact fun h => absurd h (Nat.lt_irrefl _)) | (intro hlt; simp [World.size_alloc, One] at hlt ⊢; omega)))))).mono ?_; rintro e w6 ⟨rfl, hF6⟩; have HF6 : Hid (Frm (fun _ => False) wr w6) := (Frm.trans' (by (repeat' (first | (with_reducible exact Frm.refl _ _) | (with_reducible assumption) | (with_reducible refine Frm.alloc ?_ _) | (with_reducible refine Frm.drew ?_) | (with_reducible refine Frm.drewN ?_ _) | (with_reducible refine Frm.set1 ?_ _) | (with_reducible refine Frm.setCell ?_ ?_ _) | (exact fun h => absurd h (Nat.lt_irrefl _)) | (intro hlt; simp [World.size_alloc, One] at hlt ⊢; omega)))) hF6); obtain ⟨q1, q2, q3, q4, q5, q6, q7, q8, q9, q10⟩ := hrds.out w6 (HF.out.trans' HF6.out); obtain ⟨q11, q12⟩ := hca.out w6 (HFr.out.trans' HF6.out); clear hF6) | (go_at_call 35; refine (HFI5.out _ (HF.out.trans' (HF6.out.trans' (by (repeat' (first | (with_reducible exact Frm.refl _ _) | (with_reducible assumption) | (with_reducible refine Frm.alloc ?_ _) | (with_reducible refine Frm.drew ?_) | (with_reducible refine Frm.drewN ?_ _) | (with_reducible refine Frm.set1 ?_ _) | (with_reducible refine Frm.setCell ?_ ?_ _) | (exact fun h => absurd h (Nat.lt_irrefl _)) | (intro hlt; simp [World.size_alloc, One] at hlt ⊢; omega))))))).mono ?_; rintro e w7 ⟨rfl, hw7⟩; subst w7))
          go_roundw
          case rel => exact ⟨i + 1, HI.out.1, by rw [HNX.out], by rw [HNX.out, hbl.out, hadd.out], HFr.out.trans' (HF6.out.trans' (by (repeat' (first | (with_reducible exact Frm.refl _ _) | (with_reducible assumption) | (with_reducible refine Frm.alloc ?_ _) | (with_reducible refine Frm.drew ?_) | (with_reducible refine Frm.drewN ?_ _) | (with_reducible refine Frm.set1 ?_ _) | (with_reducible refine Frm.setCell ?_ ?_ _) | (exact fun h => absurd h (Nat.lt_irrefl _)) | (intro hlt; simp [World.size_alloc, One] at hlt ⊢; omega)))))⟩
          case measure => exact HI.out.2
        · have hb : (y.is == 1) = false := by simpa using hi1
          have hno : n ∉ S := fun h => hi1 (hmm.1 h)
          have hbl : Hid (below S (n + 1) = below S n) := below_no hno
          clear hi1 hmm hno
          go_wp2_with (first | (go_at_call 18; refine (HST5.out _ (HF.out.trans' (by (repeat' (first | (with_reducible exact Frm.refl _ _) | (with_reducible assumption) | (with_reducible refine Frm.alloc ?_ _) | (with_reducible refine Frm.drew ?_) | (with_reducible refine Frm.drewN ?_ _) | (with_reducible refine Frm.set1 ?_ _) | (with_reducible refine Frm.setCell ?_ ?_ _) | (exact fun h => absurd h (Nat.lt_irrefl _)) | (intro hlt; simp [World.size_alloc, One] at hlt ⊢; omega)))))).mono ?_; rintro e w6 ⟨rfl, hF6⟩; have HF6 : Hid (Frm (fun _ => False) wr w6) := (Frm.trans' (by (repeat' (first | (with_reducible exact Frm.refl _ _) | (with_reducible assumption) | (with_reducible refine Frm.alloc ?_ _) | (with_reducible refine Frm.drew ?_) | (with_reducible refine Frm.drewN ?_ _) | (with_reducible refine Frm.set1 ?_ _) | (with_reducible refine Frm.setCell ?_ ?_ _) | (exact fun h => absurd h (Nat.lt_irrefl _)) | (intro hlt; simp [World.size_alloc, One] at hlt ⊢; omega)))) hF6); obtain ⟨q1, q2, q3, q4, q5, q6, q7, q8, q9, q10⟩ := hrds.out w6 (HF.out.trans' HF6.out); clear hF6) | (go_at_call 35; refine (HFI5.out _ (HF.out.trans' (HF6.out.trans' (by (repeat' (first | (with_reducible exact Frm.refl _ _) | (with_reducible assumption) | (with_reducible refine Frm.alloc ?_ _) | (with_reducible refine Frm.drew ?_) | (with_reducible refine Frm.drewN ?_ _) | (with_reducible refine Frm.set1 ?_ _) | (with_reducible refine Frm.setCell ?_ ?_ _) | (exact fun h => absurd h (Nat.lt_irrefl _)) | (intro hlt; simp [World.size_alloc, One] at hlt ⊢; omega))))))).mono ?_; rintro e w7 ⟨rfl, hw7⟩; subst w7))
          go_roundw
          case rel => exact ⟨i + 1, HI.out.1, by rw [HNX.out], by rw [HNX.out, hbl.out], HFr.out.trans' (HF6.out.trans' (by (repeat' (first | (with_reducible exact Frm.refl _ _) | (with_reducible assumption) | (with_reducible refine Frm.alloc ?_ _) | (with_reducible refine Frm.drew ?_) | (with_reducible refine Frm.drewN ?_ _) | (with_reducible refine Frm.set1 ?_ _) | (with_reducible refine Frm.setCell ?_ ?_ _) | (exact fun h => absurd h (Nat.lt_irrefl _)) | (intro hlt; simp [World.size_alloc, One] at hlt ⊢; omega)))))⟩
          case measure => exact HI.out.2
    · have hall : below S n = S.length := below_all (fun x hx => by have := hrg3.out x hx; omega)
      rw [hall]
      clear hall hn hi hF hR5
      go_wp2_with fail
      go_ret
      exact ⟨rfl, HF.out.trans' (by (repeat' (first | (with_reducible exact Frm.refl _ _) | (with_reducible assumption) | (with_reducible refine Frm.alloc ?_ _) | (with_reducible refine Frm.drew ?_) | (with_reducible refine Frm.drewN ?_ _) | (with_reducible refine Frm.set1 ?_ _) | (with_reducible refine Frm.setCell ?_ ?_ _) | (exact fun h => absurd h (Nat.lt_irrefl _)) | (intro hlt; simp [World.size_alloc, One] at hlt ⊢; omega))))⟩
end Go.Proofs.Ytjjmkpjclhielaa
