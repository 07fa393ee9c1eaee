/-
  The law: both boots act alike.
-/
import Derived.Test.YtjjmkpjclhielaaBootQ5
import Derived.Test.YtjjmkpjclhielaaBootI
namespace Go.Proofs.Ytjjmkpjclhielaa
open Go.RowKit
set_option linter.unusedVariables false

abbrev ActB := Int × Int × Bool × Sn
def encActB (x : ActB) : List Value := [.int .i64 x.1, .int .i64 x.2.1, .bool x.2.2.1] ++ cellsS x.2.2.2

set_option maxRecDepth 100000 in
set_option maxHeartbeats 1000000 in
theorem lacts_any (v va : Value) (xs : List Pla) (acs : List ActB) (t : Int) (w : World) (h : PlansAt w v xs) (ha : SlAt encActB 14 w va acs) (hpl : ∀ A n c, v = .slice (some A) n c → A.block < w.heap.size) (hl : xs.length * 72 ≤ 140737488351232) (hr : ∀ x ∈ xs, ∀ it ∈ x.1.its, Rng it)
    (hg : ∀ x ∈ xs, x.1.its.length * 32 ≤ 140737488351232 ∧ ∀ it ∈ x.1.its, it.2.2.length ≤ 140737488351232) :
    Calls Try.prog 7 #[v, .int .i64 t, va] w (LawPost w) := by
  have H := Lib.hid (fun W hF => ownP_any v xs W (h.frm (w' := W) hF) hl hg)
  have HP := Lib.hid (fun W hF => h.frm (w' := W) hF)
  have h' := h
  obtain ⟨A, cap, rfl, hxc, hxc2, hA⟩ := h.1
  obtain ⟨Aa, capa, rfl, hac, hac2, hAA⟩ := ha
  have HIT := Lib.hid (plans_hit h')
  have hal : acs.length ≤ 9223372036854775807 := Nat.le_trans hac hac2
  have HR := Lib.hid hr
  have HPL := Lib.hid hpl
  have HAA := Lib.hid hAA
  clear h h' hr hpl hAA
  go_enter Try.func7, Try.ntmps7
  go_wp2_with (go_at_call 9; refine (H.out _ (by (repeat' (first | (with_reducible exact Frm.refl _ _) | (with_reducible assumption) | (with_reducible refine Frm.alloc ?_ _) | (with_reducible refine Frm.drew ?_) | (with_reducible refine Frm.drewN ?_ _) | (with_reducible refine Frm.set1 ?_ _) | (with_reducible refine Frm.setCell ?_ ?_ _) | (exact fun h => absurd h (Nat.lt_irrefl _)) | (intro hlt; simp [World.size_alloc, One] at hlt ⊢; omega))))).mono ?_; rintro e w1 ⟨hF1, v1, zs, rfl, hz1, hz2⟩; obtain ⟨A1, cap1, rfl, _⟩ := row_open hz2.1)
  have hF1' : Frm (fun _ => False) w w1 := Frm.trans' (by (repeat' (first | (with_reducible exact Frm.refl _ _) | (with_reducible assumption) | (with_reducible refine Frm.alloc ?_ _) | (with_reducible refine Frm.drew ?_) | (with_reducible refine Frm.drewN ?_ _) | (with_reducible refine Frm.set1 ?_ _) | (with_reducible refine Frm.setCell ?_ ?_ _) | (exact fun h => absurd h (Nat.lt_irrefl _)) | (intro hlt; simp [World.size_alloc, One] at hlt ⊢; omega)))) hF1
  have hrg : ∀ x ∈ zs, ∀ it ∈ x.1.its, Rng it := fun x hx => by
    have : x.1 ∈ xs.map (·.1) := by rw [← hz1]; exact List.mem_map_of_mem hx
    obtain ⟨y, hy, e⟩ := List.mem_map.1 this
    rw [← e]
    exact HR.out y hy
  have HN := Lib.hid (bnew_any _ zs t w1 hz2.at_ hrg)
  rw [hz1] at HN
  have HF1 := Lib.hid hF1'
  clear hz1 hz2 hF1 hrg hF1'
  refine HN.out.mono ?_
  rintro e w2 ⟨hF2, hpost⟩
  have HF2 := Lib.hid (HF1.out.trans' hF2)
  clear hF2
  have HD := Lib.hid (fun W (hF : Frm (fun _ => False) w W) => rnew_any w.heap.size _ xs t W (HP.out W hF) HR.out hF.size HPL.out)
  unfold RNewPost at HD
  rcases hpost with ⟨hne, rfl⟩ | ⟨hn0, b, l, rfl, hB, hll, hb, hq⟩
  · have hb : (newOf (xs.map (·.1)) t != 0) = true := by simpa using hne
    go_wp2_with fail
    refine (HD.out _ (HF2.out.trans' (by (repeat' (first | (with_reducible exact Frm.refl _ _) | (with_reducible assumption) | (with_reducible refine Frm.alloc ?_ _) | (with_reducible refine Frm.drew ?_) | (with_reducible refine Frm.drewN ?_ _) | (with_reducible refine Frm.set1 ?_ _) | (with_reducible refine Frm.setCell ?_ ?_ _) | (exact fun h => absurd h (Nat.lt_irrefl _)) | (intro hlt; simp [World.size_alloc, One] at hlt ⊢; omega)))))).mono ?_
    rintro e w3 ⟨hF3, hpo⟩
    rcases hpo with ⟨_, rfl⟩ | ⟨h0, _⟩
    case inr => exact absurd h0 hne
    have HF3 := Lib.hid (HF2.out.trans' (Frm.trans' (b := _) (by (repeat' (first | (with_reducible exact Frm.refl _ _) | (with_reducible assumption) | (with_reducible refine Frm.alloc ?_ _) | (with_reducible refine Frm.drew ?_) | (with_reducible refine Frm.drewN ?_ _) | (with_reducible refine Frm.set1 ?_ _) | (with_reducible refine Frm.setCell ?_ ?_ _) | (exact fun h => absurd h (Nat.lt_irrefl _)) | (intro hlt; simp [World.size_alloc, One] at hlt ⊢; omega)))) hF3))
    clear hF3 hne
    generalize newOf (xs.map (·.1)) t = er at *
    go_wp2_with fail
    refine (livesB_any _).mono ?_
    rintro e w4 ⟨rfl, hF4⟩
    have HF4 := Lib.hid (HF3.out.trans' hF4)
    clear hF4
    go_wp2_with fail
    go_ret
    exact ⟨rfl, HF4.out.below (Nat.le_refl _) (fun _ _ h => h)⟩
  · go_wp2_with fail
    refine (HD.out _ (HF2.out.trans' (by (repeat' (first | (with_reducible exact Frm.refl _ _) | (with_reducible assumption) | (with_reducible refine Frm.alloc ?_ _) | (with_reducible refine Frm.drew ?_) | (with_reducible refine Frm.drewN ?_ _) | (with_reducible refine Frm.set1 ?_ _) | (with_reducible refine Frm.setCell ?_ ?_ _) | (exact fun h => absurd h (Nat.lt_irrefl _)) | (intro hlt; simp [World.size_alloc, One] at hlt ⊢; omega)))))).mono ?_
    rintro e w3 ⟨hF3, hpo⟩
    rcases hpo with ⟨h0, _⟩ | ⟨_, d, ib, lb, sb, rfl, hRA⟩
    case inl => exact absurd hn0 h0
    have hF23 : Frm (fun _ => False) w2 w3 := Frm.trans' (b := _) (by (repeat' (first | (with_reducible exact Frm.refl _ _) | (with_reducible assumption) | (with_reducible refine Frm.alloc ?_ _) | (with_reducible refine Frm.drew ?_) | (with_reducible refine Frm.drewN ?_ _) | (with_reducible refine Frm.set1 ?_ _) | (with_reducible refine Frm.setCell ?_ ?_ _) | (exact fun h => absurd h (Nat.lt_irrefl _)) | (intro hlt; simp [World.size_alloc, One] at hlt ⊢; omega)))) hF3
    have HF3 := Lib.hid (HF2.out.trans' hF23)
    have HBO : Hid (Both w.heap.size w3 b d ib lb sb (.slice A xs.length cap) xs l t false) := ⟨hB.grow hF23, by rw [hll]; exact hRA, Nat.le_trans HF1.out.size hb, fun q hq' => Nat.le_trans HF1.out.size (hq q hq')⟩
    have HNO := Lib.hid (newOf_nodup hn0)
    have ht1 : 1 ≤ t := HNO.out.2.2.1
    have ht2 : t ≤ 1000 := HNO.out.2.2.2.1
    have HKE : Hid (Keeps (xs.map (·.1)) t (nds l)) := by unfold Hid; rw [hll]; exact Keeps.new _ ht1
    clear hF3 hF23 hRA hB hll hb hq hn0
    unfold ptr
    go_wp2_with fail
    go_loopw [11] (fun i wr => ∃ (k : Nat) (l' : List (Nat × Nd)) (hh : Bool), k ≤ acs.length ∧ i = .int .i64 k ∧ Both w.heap.size wr b d ib lb sb (.slice A xs.length cap) xs l' t hh ∧ Keeps (xs.map (·.1)) t (nds l') ∧ Frm (fun j => w.heap.size ≤ j) w wr) (fun i _ => acs.length - (intOf i).toNat)
    case atStart => exact ⟨0, l, false, Nat.zero_le _, rfl, HBO.out.grow (by (repeat' (first | (with_reducible exact Frm.refl _ _) | (with_reducible assumption) | (with_reducible refine Frm.alloc ?_ _) | (with_reducible refine Frm.drew ?_) | (with_reducible refine Frm.drewN ?_ _) | (with_reducible refine Frm.set1 ?_ _) | (with_reducible refine Frm.setCell ?_ ?_ _) | (exact fun h => absurd h (Nat.lt_irrefl _)) | (intro hlt; simp [World.size_alloc, One] at hlt ⊢; omega)))), HKE.out, (HF3.out.trans' (by (repeat' (first | (with_reducible exact Frm.refl _ _) | (with_reducible assumption) | (with_reducible refine Frm.alloc ?_ _) | (with_reducible refine Frm.drew ?_) | (with_reducible refine Frm.drewN ?_ _) | (with_reducible refine Frm.set1 ?_ _) | (with_reducible refine Frm.setCell ?_ ?_ _) | (exact fun h => absurd h (Nat.lt_irrefl _)) | (intro hlt; simp [World.size_alloc, One] at hlt ⊢; omega))))).mono (fun _ _ h => h.elim)⟩
    case round =>
      obtain ⟨k, l', hh, hk, rfl, hBo, hKe, hF⟩ := hrel
      by_cases hlt : k < acs.length
      · obtain ⟨ga, offa, rfl, hga, hca⟩ := HAA.out (by omega)
        obtain ⟨x, hx⟩ : ∃ x, acs[k] = x := ⟨_, rfl⟩
        obtain ⟨kd, nd, nx, s⟩ := x
        have q := fun j hj => (hca k hlt j hj).trans (by rw [hx])
        have hng : ¬ w.heap.size ≤ ga := by omega
        have a0 := hF.cell (q 0 (by decide)) hng
        have a1 := hF.cell (q 1 (by decide)) hng
        have a2 := hF.cell (q 2 (by decide)) hng
        have a3 := hF.cell (q 3 (by decide)) hng
        have a4 := hF.cell (q 4 (by decide)) hng
        have a5 := hF.cell (q 5 (by decide)) hng
        have a6 := hF.cell (q 6 (by decide)) hng
        have a7 := hF.cell (q 7 (by decide)) hng
        have a8 := hF.cell (q 8 (by decide)) hng
        have a9 := hF.cell (q 9 (by decide)) hng
        have a10 := hF.cell (q 10 (by decide)) hng
        have a11 := hF.cell (q 11 (by decide)) hng
        have a12 := hF.cell (q 12 (by decide)) hng
        have a13 := hF.cell (q 13 (by decide)) hng
        simp only [Nat.add_zero] at a0
        simp only [encActB, cellsS, List.cons_append, List.nil_append, List.getElem?_cons_succ, List.getElem?_cons_zero] at a0 a1 a2 a3 a4 a5 a6 a7 a8 a9 a10 a11 a12 a13
        have hgl := Nat.lt_of_lt_of_le hga hF.size
        have HX := Lib.hid hx
        have HBo := Lib.hid hBo
        have HKe := Lib.hid hKe
        have HFo := Lib.hid hF
        have HNX := Lib.hid (fun W hF => rnext_any w.heap.size d ib lb sb (.slice A xs.length cap) xs (nds l') t hh W (hBo.2.1.grow (w' := W) hF))
        clear hca hx q hBo hKe hF
        unfold NextP ptr at HNX
        generalize hnxo : nextOf ⟨nds l', t, hh⟩ = no at *
        obtain ⟨n0, ok⟩ := no
        have HNO2 := Lib.hid hnxo
        clear hnxo
        go_upto_region 12 with (go_at_call 20; refine (HNX.out _ (by (repeat' (first | (with_reducible exact Frm.refl _ _) | (with_reducible assumption) | (with_reducible refine Frm.alloc ?_ _) | (with_reducible refine Frm.drew ?_) | (with_reducible refine Frm.drewN ?_ _) | (with_reducible refine Frm.set1 ?_ _) | (with_reducible refine Frm.setCell ?_ ?_ _) | (exact fun h => absurd h (Nat.lt_irrefl _)) | (intro hlt; simp [World.size_alloc, One] at hlt ⊢; omega))))).mono ?_; rintro e w5 ⟨rfl, m5, rfl⟩)
        go_cut [66] (fun u wx => u = .bool (nx && ok) ∧ wx = (wr.alloc (.cells (encActB (kd, nd, nx, s)).toArray 58)).drewN m5)
        case first =>
          cases nx
          all_goals
            go_wp2_with fail
            go_meet
            exact ⟨rfl, rfl⟩
        case rest =>
          obtain ⟨rfl, rfl⟩ := hcut
          obtain ⟨bb, hbb⟩ : ∃ bb, (nx && ok) = bb := ⟨_, rfl⟩
          rw [hbb]
          clear hbb
          obtain ⟨n', hn'⟩ : ∃ n' : Int, n' = if bb = true then n0 else nd := ⟨_, rfl⟩
          have HN' := Lib.hid hn'
          have hT : ((wr.alloc (.cells (encActB (kd, nd, nx, s)).toArray 58)).drewN m5).heap[wr.heap.size]? = some (.cells (encActB (kd, nd, nx, s)).toArray 58 (0, 0)) := heap_drewN' (heap_new _ _)
          have HT := Lib.hid hT
          have t1 := lt_of_block hT
          have t2 := frees hT
          clear hn' hT
          go_upto_if 66 with fail
          go_cut [12] (fun u wx => u = .pointer (some ⟨wr.heap.size, 0, none⟩) ∧ Frm (fun _ => False) wr wx ∧ wx.heap[wr.heap.size]? = some (.cells (encActB (kd, n', nx, s)).toArray 58 (0, 0)))
          case first =>
            cases bb with
            | true =>
              obtain rfl : n' = n0 := HN'.out
              go_wp2_with fail
              go_meet
              exact ⟨rfl, by (repeat' (first | (with_reducible exact Frm.refl _ _) | (with_reducible assumption) | (with_reducible refine Frm.alloc ?_ _) | (with_reducible refine Frm.drew ?_) | (with_reducible refine Frm.drewN ?_ _) | (with_reducible refine Frm.set1 ?_ _) | (with_reducible refine Frm.setCell ?_ ?_ _) | (exact fun h => absurd h (Nat.lt_irrefl _)) | (intro hlt; simp [World.size_alloc, One] at hlt ⊢; omega))), heap_drewN' (heap_new _ _)⟩
            | false =>
              obtain rfl : n' = nd := HN'.out
              go_wp2_with fail
              go_meet
              exact ⟨rfl, by (repeat' (first | (with_reducible exact Frm.refl _ _) | (with_reducible assumption) | (with_reducible refine Frm.alloc ?_ _) | (with_reducible refine Frm.drew ?_) | (with_reducible refine Frm.drewN ?_ _) | (with_reducible refine Frm.set1 ?_ _) | (with_reducible refine Frm.setCell ?_ ?_ _) | (exact fun h => absurd h (Nat.lt_irrefl _)) | (intro hlt; simp [World.size_alloc, One] at hlt ⊢; omega))), HT.out⟩
          case rest =>
            obtain ⟨rfl, hFc, hTc⟩ := hcut
            have HBc := Lib.hid (HBo.out.grow hFc)
            have HFc : Hid (Frm (fun j => w.heap.size ≤ j) w wc) := HFo.out.trans hFc (fun _ _ h => h.elim)
            have HTc := Lib.hid hTc
            have c0 : wc.cell? ⟨wr.heap.size, 0, none⟩ = some (.int .i64 kd) := cell_at hTc
            have c1 : wc.cell? ⟨wr.heap.size, 1, none⟩ = some (.int .i64 n') := cell_at hTc
            have t1' := lt_of_block hTc
            have t2' := frees hTc
            have HLK : Hid (∀ y ∈ nds l', 0 ≤ y.looked ∧ y.looked ≤ 1000000) := fun y hy => by
              have := HKe.out.2 y hy
              omega
            have HTE := Lib.hid (fun (l2 : List (Nat × Nd)) (h2 : Bool) (W : World) (hB : Both w.heap.size W b d ib lb sb (.slice A xs.length cap) xs l2 t h2) (hK : Keeps (xs.map (·.1)) t (nds l2)) =>
              tells_any w.heap.size b d ib lb sb (.slice A xs.length cap) xs l2 t h2 W hB.1 hB.2.1 (by have h1 := hK.len; rw [nds_length] at h1; rw [h1]; exact HNO.out.2.1) (hK.nodup HNO.out.1) (hK.range HNO.out.2.2.2.2))
            clear hFc hTc a0 a1 a2 a3 a4 a5 a6 a7 a8 a9 a10 a11 a12 a13 t1 t2 HNX HT HN' HBO HKE
            by_cases hkd : kd = 1
            · have bk : (kd == 1) = true := by simpa using hkd
              have HL1 := Lib.hid (fun W (hF : Frm (fun _ => False) wc W) => blostB (HBc.out.grow hF) n')
              have HL2 := Lib.hid (fun W hM => rlostB (w := W) (l := l') (hh := hh) (N := w.heap.size) (b := b) (d := d) (ib := ib) (lb := lb) (sb := sb) (v := .slice A xs.length cap) (xs := xs) (t := t) n' hM)
              have HK2 : Hid (Keeps (xs.map (·.1)) t (lostN ⟨nds l', t, hh⟩ n').1.l) := Keeps.lost (b := ⟨nds l', t, hh⟩) ht1 HKe.out n'
              generalize lostN ⟨nds l', t, hh⟩ n' = r at *
              obtain ⟨r, re⟩ := r
              simp only at HL1 HL2 HK2
              unfold ptr at HL1 HL2 HTE
              clear hkd
              go_wp2_with fail
              go_region_held3 (fun w' => w'.cell? ⟨wr.heap.size, 1, none⟩ = some (.int .i64 n')) (first | assumption | go_keep) (first | (go_at_call 21; refine (HL1.out _ (by (repeat' (first | (with_reducible exact Frm.refl _ _) | (with_reducible assumption) | (with_reducible refine Frm.alloc ?_ _) | (with_reducible refine Frm.drew ?_) | (with_reducible refine Frm.drewN ?_ _) | (with_reducible refine Frm.set1 ?_ _) | (with_reducible refine Frm.setCell ?_ ?_ _) | (exact fun h => absurd h (Nat.lt_irrefl _)) | (intro hlt; simp [World.size_alloc, One] at hlt ⊢; omega))))).mono ?_; rintro e w5 ⟨rfl, hM5, hK5, hF5⟩; have s5 : w5.cell? ⟨wr.heap.size, 1, none⟩ = some (.int .i64 n') := cell_at (hK5 _ _ (heap_drew' HTc.out)); have HM5 := Lib.hid hM5; have HF5 : Hid (Frm (fun j => w.heap.size ≤ j) wc w5) := Frm.trans (b := _) (Frm.drew (Frm.refl (fun j => w.heap.size ≤ j) wc)) hF5 (fun _ _ h => h); have HK5 := Lib.hid (hK5 _ _ (heap_drew' HTc.out)); clear hM5 hK5 hF5) | (go_at_call 22; refine (HL2.out _ HM5.out).mono ?_; rintro e w6 ⟨rfl, hD6, hK6, hF6⟩; have s6 : w6.cell? ⟨wr.heap.size, 1, none⟩ = some (.int .i64 n') := cell_at (hK6 _ _ HK5.out); have HD6 := Lib.hid hD6; have HF6 := Lib.hid hF6; clear hD6 hK6 hF6))
              all_goals
                obtain ⟨l2, hBo2, hn2⟩ := HD6.out
                have HB2 := Lib.hid hBo2
                have HKK2 : Hid (Keeps (xs.map (·.1)) t (nds l2)) := by unfold Hid; rw [hn2]; exact HK2.out
                clear hBo2 hn2
                have HT2 := Lib.hid (fun W (hF : Frm (fun _ => False) w6 W) => HTE.out l2 r.halted W (HB2.out.grow hF) HKK2.out)
                have HFF := Lib.hid ((HFc.out.trans' HF5.out).trans' HF6.out)
                clear HL1 HL2 HK2 HM5 HF5 HK5 HD6 HF6
                go_wp2_with fail
                refine (HT2.out _ (by (repeat' (first | (with_reducible exact Frm.refl _ _) | (with_reducible assumption) | (with_reducible refine Frm.alloc ?_ _) | (with_reducible refine Frm.drew ?_) | (with_reducible refine Frm.drewN ?_ _) | (with_reducible refine Frm.set1 ?_ _) | (with_reducible refine Frm.setCell ?_ ?_ _) | (exact fun h => absurd h (Nat.lt_irrefl _)) | (intro hlt; simp [World.size_alloc, One] at hlt ⊢; omega))))).mono ?_
                rintro e w7 ⟨rfl, hF7⟩
                have HF7 : Hid (Frm (fun _ => False) w6 w7) := Frm.trans' (b := _) (by (repeat' (first | (with_reducible exact Frm.refl _ _) | (with_reducible assumption) | (with_reducible refine Frm.alloc ?_ _) | (with_reducible refine Frm.drew ?_) | (with_reducible refine Frm.drewN ?_ _) | (with_reducible refine Frm.set1 ?_ _) | (with_reducible refine Frm.setCell ?_ ?_ _) | (exact fun h => absurd h (Nat.lt_irrefl _)) | (intro hlt; simp [World.size_alloc, One] at hlt ⊢; omega)))) hF7
                clear hF7
                go_wp2_with fail
                go_roundw
                case rel => exact ⟨k + 1, l2, r.halted, by omega, by go_num, HB2.out.grow (HF7.out.trans' (by (repeat' (first | (with_reducible exact Frm.refl _ _) | (with_reducible assumption) | (with_reducible refine Frm.alloc ?_ _) | (with_reducible refine Frm.drew ?_) | (with_reducible refine Frm.drewN ?_ _) | (with_reducible refine Frm.set1 ?_ _) | (with_reducible refine Frm.setCell ?_ ?_ _) | (exact fun h => absurd h (Nat.lt_irrefl _)) | (intro hlt; simp [World.size_alloc, One] at hlt ⊢; omega))))), HKK2.out, HFF.out.trans ((HF7.out.trans' (by (repeat' (first | (with_reducible exact Frm.refl _ _) | (with_reducible assumption) | (with_reducible refine Frm.alloc ?_ _) | (with_reducible refine Frm.drew ?_) | (with_reducible refine Frm.drewN ?_ _) | (with_reducible refine Frm.set1 ?_ _) | (with_reducible refine Frm.setCell ?_ ?_ _) | (exact fun h => absurd h (Nat.lt_irrefl _)) | (intro hlt; simp [World.size_alloc, One] at hlt ⊢; omega)))))) (fun _ _ h => h.elim)⟩
                case measure => simp [intOf]; omega
            · have bk : (kd == 1) = false := by simpa using hkd
              have HS1 := Lib.hid (bsawB HBc.out n' s HLK.out)
              have HS2 := Lib.hid (fun W hM => rsawB (w := W) (l := l') (hh := hh) (N := w.heap.size) (b := b) (d := d) (ib := ib) (lb := lb) (sb := sb) (v := .slice A xs.length cap) (xs := xs) (t := t) n' s HLK.out HIT.out hM)
              have HK2 : Hid (Keeps (xs.map (·.1)) t (sawOf ⟨nds l', t, hh⟩ n' s).1.l) := Keeps.saw (b := ⟨nds l', t, hh⟩) HKe.out n' s
              generalize sawOf ⟨nds l', t, hh⟩ n' s = r at *
              obtain ⟨r, r1, r2, r3⟩ := r
              simp only at HS1 HS2 HK2
              unfold ptr valS at HS1 HS2
              unfold ptr at HTE
              have c3 : wc.cell? ⟨wr.heap.size, 3, none⟩ = some (.bool s.there) := cell_at HTc.out
              have c4 : wc.cell? ⟨wr.heap.size, 4, none⟩ = some (.int .u32 s.dev) := cell_at HTc.out
              have c5 : wc.cell? ⟨wr.heap.size, 5, none⟩ = some (.int .u32 s.i0) := cell_at HTc.out
              have c6 : wc.cell? ⟨wr.heap.size, 6, none⟩ = some (.int .u32 s.i1) := cell_at HTc.out
              have c7 : wc.cell? ⟨wr.heap.size, 7, none⟩ = some (.int .u32 s.i2) := cell_at HTc.out
              have c8 : wc.cell? ⟨wr.heap.size, 8, none⟩ = some (.int .u32 s.i3) := cell_at HTc.out
              have c9 : wc.cell? ⟨wr.heap.size, 9, none⟩ = some (.int .u32 s.day) := cell_at HTc.out
              have c10 : wc.cell? ⟨wr.heap.size, 10, none⟩ = some (.int .u32 s.time) := cell_at HTc.out
              have c11 : wc.cell? ⟨wr.heap.size, 11, none⟩ = some (.int .i64 s.state) := cell_at HTc.out
              have c12 : wc.cell? ⟨wr.heap.size, 12, none⟩ = some (.int .u32 s.code) := cell_at HTc.out
              have c13 : wc.cell? ⟨wr.heap.size, 13, none⟩ = some (.bool s.beat) := cell_at HTc.out
              clear hkd
              go_wp2_with fail
              refine HS1.out.mono ?_
              rintro e w5 ⟨rfl, hM5, hK5, hF5⟩
              have hT5 := hK5 _ _ HTc.out
              have t5 := lt_of_block hT5
              have d1 : w5.cell? ⟨wr.heap.size, 1, none⟩ = some (.int .i64 n') := cell_at hT5
              have d3 : w5.cell? ⟨wr.heap.size, 3, none⟩ = some (.bool s.there) := cell_at hT5
              have d4 : w5.cell? ⟨wr.heap.size, 4, none⟩ = some (.int .u32 s.dev) := cell_at hT5
              have d5 : w5.cell? ⟨wr.heap.size, 5, none⟩ = some (.int .u32 s.i0) := cell_at hT5
              have d6 : w5.cell? ⟨wr.heap.size, 6, none⟩ = some (.int .u32 s.i1) := cell_at hT5
              have d7 : w5.cell? ⟨wr.heap.size, 7, none⟩ = some (.int .u32 s.i2) := cell_at hT5
              have d8 : w5.cell? ⟨wr.heap.size, 8, none⟩ = some (.int .u32 s.i3) := cell_at hT5
              have d9 : w5.cell? ⟨wr.heap.size, 9, none⟩ = some (.int .u32 s.day) := cell_at hT5
              have d10 : w5.cell? ⟨wr.heap.size, 10, none⟩ = some (.int .u32 s.time) := cell_at hT5
              have d11 : w5.cell? ⟨wr.heap.size, 11, none⟩ = some (.int .i64 s.state) := cell_at hT5
              have d12 : w5.cell? ⟨wr.heap.size, 12, none⟩ = some (.int .u32 s.code) := cell_at hT5
              have d13 : w5.cell? ⟨wr.heap.size, 13, none⟩ = some (.bool s.beat) := cell_at hT5
              have HM5 := Lib.hid hM5
              have HF5 : Hid (Frm (fun j => w.heap.size ≤ j) wc w5) := hF5
              clear hM5 hK5 hF5 hT5 c0 c1 c3 c4 c5 c6 c7 c8 c9 c10 c11 c12 c13
              go_wp2_with fail
              refine (HS2.out _ HM5.out).mono ?_
              rintro e w6 ⟨rfl, hD6, _, hF6⟩
              obtain ⟨l2, hBo2, hn2⟩ := hD6
              have HB2 := Lib.hid hBo2
              have HKK2 : Hid (Keeps (xs.map (·.1)) t (nds l2)) := by unfold Hid; rw [hn2]; exact HK2.out
              have HT2 := Lib.hid (fun W (hF : Frm (fun _ => False) w6 W) => HTE.out l2 r.halted W (HB2.out.grow hF) HKK2.out)
              have HFF := Lib.hid ((HFc.out.trans' HF5.out).trans' hF6)
              clear hBo2 hn2 hF6 HS1 HS2 HK2 HM5 HF5 d1 d3 d4 d5 d6 d7 d8 d9 d10 d11 d12 d13
              go_wp2_with fail
              refine (HT2.out _ (by (repeat' (first | (with_reducible exact Frm.refl _ _) | (with_reducible assumption) | (with_reducible refine Frm.alloc ?_ _) | (with_reducible refine Frm.drew ?_) | (with_reducible refine Frm.drewN ?_ _) | (with_reducible refine Frm.set1 ?_ _) | (with_reducible refine Frm.setCell ?_ ?_ _) | (exact fun h => absurd h (Nat.lt_irrefl _)) | (intro hlt; simp [World.size_alloc, One] at hlt ⊢; omega))))).mono ?_
              rintro e w7 ⟨rfl, hF7⟩
              have HF7 : Hid (Frm (fun _ => False) w6 w7) := Frm.trans' (b := _) (by (repeat' (first | (with_reducible exact Frm.refl _ _) | (with_reducible assumption) | (with_reducible refine Frm.alloc ?_ _) | (with_reducible refine Frm.drew ?_) | (with_reducible refine Frm.drewN ?_ _) | (with_reducible refine Frm.set1 ?_ _) | (with_reducible refine Frm.setCell ?_ ?_ _) | (exact fun h => absurd h (Nat.lt_irrefl _)) | (intro hlt; simp [World.size_alloc, One] at hlt ⊢; omega)))) hF7
              clear hF7
              go_wp2_with fail
              go_roundw
              case rel => exact ⟨k + 1, l2, r.halted, by omega, by go_num, HB2.out.grow (HF7.out.trans' (by (repeat' (first | (with_reducible exact Frm.refl _ _) | (with_reducible assumption) | (with_reducible refine Frm.alloc ?_ _) | (with_reducible refine Frm.drew ?_) | (with_reducible refine Frm.drewN ?_ _) | (with_reducible refine Frm.set1 ?_ _) | (with_reducible refine Frm.setCell ?_ ?_ _) | (exact fun h => absurd h (Nat.lt_irrefl _)) | (intro hlt; simp [World.size_alloc, One] at hlt ⊢; omega))))), HKK2.out, HFF.out.trans ((HF7.out.trans' (by (repeat' (first | (with_reducible exact Frm.refl _ _) | (with_reducible assumption) | (with_reducible refine Frm.alloc ?_ _) | (with_reducible refine Frm.drew ?_) | (with_reducible refine Frm.drewN ?_ _) | (with_reducible refine Frm.set1 ?_ _) | (with_reducible refine Frm.setCell ?_ ?_ _) | (exact fun h => absurd h (Nat.lt_irrefl _)) | (intro hlt; simp [World.size_alloc, One] at hlt ⊢; omega)))))) (fun _ _ h => h.elim)⟩
              case measure => simp [intOf]; omega
      · have hk' : acs.length ≤ k := by omega
        have HT2 := Lib.hid (fun W (hF : Frm (fun _ => False) wr W) =>
              tells_any w.heap.size b d ib lb sb (.slice A xs.length cap) xs l' t hh W (hBo.grow hF).1 (hBo.grow hF).2.1 (by have h1 := hKe.len; rw [nds_length] at h1; rw [h1, List.length_map]; simpa using HNO.out.2.1) (hKe.nodup HNO.out.1) (hKe.range HNO.out.2.2.2.2))
        have HF := Lib.hid hF
        clear hBo hKe hF HBO HKE
        unfold ptr at HT2
        go_wp2_with fail
        refine (HT2.out _ (by (repeat' (first | (with_reducible exact Frm.refl _ _) | (with_reducible assumption) | (with_reducible refine Frm.alloc ?_ _) | (with_reducible refine Frm.drew ?_) | (with_reducible refine Frm.drewN ?_ _) | (with_reducible refine Frm.set1 ?_ _) | (with_reducible refine Frm.setCell ?_ ?_ _) | (exact fun h => absurd h (Nat.lt_irrefl _)) | (intro hlt; simp [World.size_alloc, One] at hlt ⊢; omega))))).mono ?_
        rintro e w7 ⟨rfl, hF7⟩
        have HF7 := Lib.hid (HF.out.trans hF7 (fun _ _ h => h.elim))
        clear hF7
        go_wp2_with fail
        refine (livesB_any _).mono ?_
        rintro e w8 ⟨rfl, hF8⟩
        have HF8 := Lib.hid (HF7.out.trans (Frm.trans' (b := _) (by (repeat' (first | (with_reducible exact Frm.refl _ _) | (with_reducible assumption) | (with_reducible refine Frm.alloc ?_ _) | (with_reducible refine Frm.drew ?_) | (with_reducible refine Frm.drewN ?_ _) | (with_reducible refine Frm.set1 ?_ _) | (with_reducible refine Frm.setCell ?_ ?_ _) | (exact fun h => absurd h (Nat.lt_irrefl _)) | (intro hlt; simp [World.size_alloc, One] at hlt ⊢; omega)))) hF8) (fun _ _ h => h.elim))
        clear hF8
        go_wp2_with fail
        go_ret
        exact ⟨rfl, HF8.out.below (Nat.le_refl _) (fun i hi h => by omega)⟩
end Go.Proofs.Ytjjmkpjclhielaa
