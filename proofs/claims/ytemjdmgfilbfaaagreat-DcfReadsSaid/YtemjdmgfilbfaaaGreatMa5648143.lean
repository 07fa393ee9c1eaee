/-
  DcfReads: the law.
-/
import Derived.Test.YtemjdmgfilbfaaaGreatM1cb9520b
import Derived.Test.YtemjdmgfilbfaaaGreatMddbe9747
import Derived.Test.YtemjdmgfilbfaaaGreatM37a28ca7
import Derived.Test.YtemjdmgfilbfaaaGreatM40cba657
import Derived.Test.YtemjdmgfilbfaaaGreatMdcbfd6c7
import Derived.Test.YtemjdmgfilbfaaaGreatMfe8e73a6
import Derived.Test.YtemjdmgfilbfaaaGreatMe155a935
set_option linter.unusedVariables false
set_option linter.unusedSimpArgs false
namespace Go.Proofs.YtemjdmgfilbfaaaGreat
open Go.RowKit
open List (getElem_toArray getElem_cons_zero getElem_cons_succ setIfInBounds_toArray set_cons_zero set_cons_succ)
set_option linter.unusedVariables false
set_option linter.unusedSimpArgs false

theorem newD_okR {xs : List En} (h : checkE xs = 0) (hx : ∀ x ∈ xs, x.ok) : DOk (newD xs) := by
  obtain ⟨h1, h2, h3⟩ := check_facts h
  refine ⟨?_, fun y hy => ?_, by rw [newD_len]; exact h1⟩
  · have a := newD_srt xs
    have b := newD_plE xs h3
    rw [List.Nodup, List.pairwise_map] at b
    exact (a.and b).imp fun {x y} h => by have := h.1; have := h.2; omega
  · obtain ⟨x, hm, rfl⟩ := List.mem_map.1 ((newD_perm xs).mem_iff.1 hy)
    exact ⟨plainE_ok (hx x hm), plainV_ok (hx x hm).2.2.2.2.2.2⟩
/-- Items of one's own: as they were. -/
theorem own_factsR {is ys : List Itm} (h : ys.map bare = is.map bare) (hr : ∀ x ∈ is, Rng (bare x)) (hb : ∀ x ∈ is, x.2.2.2.length ≤ 140737488351232) : (∀ y ∈ ys, Rng (bare y)) ∧ ∀ y ∈ ys, y.2.2.2.length ≤ 140737488351232 := by
  have hm : ∀ y ∈ ys, ∃ x ∈ is, bare x = bare y := fun y hy => by
    have : bare y ∈ is.map bare := by rw [← h]; exact List.mem_map_of_mem hy
    exact List.mem_map.1 this
  refine ⟨fun y hy => ?_, fun y hy => ?_⟩
  · obtain ⟨x, hx, e⟩ := hm y hy
    rw [← e]; exact hr x hx
  · obtain ⟨x, hx, e⟩ := hm y hy
    have e2 : x.2.2.2 = y.2.2.2 := congrArg (fun z => z.2.2) e
    rw [← e2]; exact hb x hx
/-- An entry, boxed. -/
def EntC (wr : World) (x : En) (t : Bool) (pv ev : Value) (wz : World) : Prop := ∃ gb, pv = .pointer (some ⟨gb, 0, none⟩) ∧ ev = .bool t ∧ wz.heap[gb]? = some (.cells #[.int .u16 x.idx, .int .u8 x.sub, .int .i64 x.acc, .bool x.mp, .bool x.lim, .int .i64 x.mn.ty, .int .u64 x.mn.n, .string (strB2 x.mn.b), .int .i64 x.mx.ty, .int .u64 x.mx.n, .string (strB2 x.mx.b), .int .i64 x.df.ty, .int .u64 x.df.n, .string (strB2 x.df.b)] 59 (0, 0)) ∧ Frm (fun _ => False) wr wz ∧ wr.heap.size ≤ gb
theorem own_lenR {xs : List Itm} {ys : List Itm} (h : ys.map bare = xs.map bare) : ys.length = xs.length := by have := congrArg List.length h; simpa using this
theorem appD_okR {d : List Im} {l : List It} (h : AllOk d l) : appD d l = ((appD d l).1, l.length, 0) := by
  have h1 := app_ok h
  have h2 := appD_all d l h1
  exact Prod.ext rfl (Prod.ext h2 h1)

set_option maxRecDepth 100000 in
set_option maxHeartbeats 40000000 in
theorem dreads_any (v0 v1 : Value) (xs : List En) (is : List Itm) (W : World) (h0 : SlAt cellsE 14 W v0 xs) (hx : ∀ x ∈ xs, x.ok) (hby : xs.length * 120 ≤ 140737488351232)
    (h1 : ItemsAt W v1 is) (hl : is.length * 32 ≤ 140737488351232) (hr : ∀ x ∈ is, Rng (bare x)) (hb : ∀ x ∈ is, x.2.2.2.length ≤ 140737488351232) :
    Calls Tryz.prog 5 #[v0, v1] W fun e w' => e = .returned (.bool true) ∧ Frm (fun _ => False) W w' := by
  have HBEG := Lib.hid (fun W1 (hF : Frm (fun _ => False) W W1) => begins_any v0 xs W1 (SlAt.frm cellsE_len h0 hF) hx hby)
  have HX := Lib.hid hx
  obtain ⟨A0, cap0, rfl, _, _, _⟩ := h0
  have H1 := Lib.hid h1
  have h1s := h1.1
  obtain ⟨⟨A, cap, rfl, hc1, hc2, hcell⟩, _⟩ := h1
  have HS1 := Lib.hid h1s
  have HCI := Lib.hid hcell
  have HLV := Lib.hid (fun W => livesD_any W)
  have HR := Lib.hid hr
  have HBL := Lib.hid hb
  have HLEN := Lib.hid hl
  unfold BeginP at HBEG
  unfold LivesD at HLV
  have hm : is.length ≤ 9223372036854775807 := Nat.le_trans hc1 hc2
  clear hx hby hr hb hl hc1 hc2 hcell h1s
  by_cases hz : checkE xs = 0
  case neg =>
    have HZ := Lib.hid hz
    clear hz
    go_enter Tryz.func5, Tryz.ntmps5
    go_wp2_with (first | (go_at_call 6; refine (HBEG.out _ (Frm.refl _ _)).mono ?_; rintro e w2 ⟨hF2, ⟨hne, rfl⟩ | h⟩; rotate_left; exact absurd h.1 HZ.out; have HF2 := Lib.hid hF2) | (go_at_call 19; refine (HLV.out _).mono ?_; rintro e w4 ⟨rfl, hF4⟩))
    go_ret
    exact ⟨rfl, HF2.out.trans' hF4⟩
  have HOKN := Lib.hid (newD_okR hz HX.out)
  have HZ := Lib.hid hz
  clear hz
  go_enter Tryz.func5, Tryz.ntmps5
  go_upto_region 4 with (go_at_call 6; refine (HBEG.out _ (Frm.refl _ _)).mono ?_; rintro e w2 ⟨hF2, h | ⟨-, a, b, p, l, N, rfl, hPa, hD, hl, hDR, hb0, hbN, hlN, hpN, haN⟩⟩; exact absurd HZ.out h.1; have HF2 := Lib.hid hF2; have HPA := Lib.hid hPa; have HD := Lib.hid hD; have HL := Lib.hid hl; have HB0 := Lib.hid hb0; clear hF2 hPa hD hl hDR hb0 hbN hlN hpN haN; unfold ptr)
  have HFW := HF2
  have HOK1 : Hid (DOk (im l)) := by unfold Hid; rw [show im l = newD xs from HL.out]; exact HOKN.out
  have HBLE : Hid (W.heap.size ≤ b) := HB0.out
  obtain ⟨ys, hys⟩ : ∃ ys, ys = is.map bare := ⟨_, rfl⟩
  have HYL : Hid (ys.length = is.length) := by unfold Hid; rw [hys, List.length_map]
  have ca : w2.cell? ⟨a, 0, none⟩ = some (.pointer (some ⟨b, 0, none⟩)) := cell_at HPA.out
  have HC0 := Lib.hid (fun Wx (h : Frm (fun _ => False) w2 Wx) => h.cell ca (fun h => h))
  have hal : a < w2.heap.size := lt_of_block HPA.out
  have HYK : Hid (is.map bare = ys) := hys.symm
  have HIT0 := Lib.hid (fun Wx (h : Frm (fun _ => False) w2 Wx) => own_any (.slice A is.length cap) is Wx (H1.out.frm (HFW.out.trans' h)) HLEN.out HBL.out)
  clear hys ca HL HB0 HF2 HBEG HOKN HX HZ
  obtain ⟨rc, hrc⟩ : ∃ rc, rc = chkD (im l) ys := ⟨_, rfl⟩
  go_cut [7, 8] (fun nv cv wx => nv = .int .i64 ((rc.1 : Nat) : Int) ∧ cv = .int .u32 rc.2 ∧ Frm (fun _ => False) w2 wx)
  case first =>
    refine wp_region_held_drew (S := fun W => Frm (fun _ => False) w2 W) (by kernel_rfl) ((Frm.refl _ _).drew) (fun hHeld => ?_)
    refine wpAnyH_take (i := 0) (v := ?_) rfl (by kernel_rfl) (by kernel_rfl) (by kernel_rfl) (fun _ _ _ h => h) (Or.inl ⟨by rfl, ?_⟩) (by assumption) ?_; rotate_left; · (intro wq hSq; have hq := HC0.out wq hSq; go_split_ands; go_simp; (try with_reducible rfl))
    try simp only [Act.put, getElem_toArray, getElem_cons_zero, getElem_cons_succ, setIfInBounds_toArray, set_cons_zero, set_cons_succ]
    refine wpAnyH_take (i := 1) (v := ?_) rfl (by kernel_rfl) (by kernel_rfl) (by kernel_rfl) (fun _ _ _ h => h) (Or.inl ⟨by rfl, ?_⟩) (by assumption) ?_; rotate_left; · (intro wq hSq; have hq := HC0.out wq hSq; go_split_ands; go_simp; (try with_reducible rfl))
    try simp only [Act.put, getElem_toArray, getElem_cons_zero, getElem_cons_succ, setIfInBounds_toArray, set_cons_zero, set_cons_succ]
    refine wpAnyH_take (i := 2) (v := ?_) rfl (by kernel_rfl) (by kernel_rfl) (by kernel_rfl) (fun _ _ _ h => h) (Or.inl ⟨by rfl, ?_⟩) (by assumption) ?_; rotate_left; · (intro wq hSq; have hq := HC0.out wq hSq; go_split_ands; go_simp; (try with_reducible rfl))
    try simp only [Act.put, getElem_toArray, getElem_cons_zero, getElem_cons_succ, setIfInBounds_toArray, set_cons_zero, set_cons_succ]
    refine wpAnyH_take (i := 3) (v := ?_) rfl (by kernel_rfl) (by kernel_rfl) (by kernel_rfl) (fun _ _ _ h => h) (Or.inl ⟨by rfl, ?_⟩) (by assumption) ?_; rotate_left; · (intro wq hSq; have hq := HC0.out wq hSq; go_split_ands; go_simp; (try with_reducible rfl))
    try simp only [Act.put, getElem_toArray, getElem_cons_zero, getElem_cons_succ, setIfInBounds_toArray, set_cons_zero, set_cons_succ]
    refine wpAnyH_take (i := 4) (v := ?_) rfl (by kernel_rfl) (by kernel_rfl) (by kernel_rfl) (fun _ _ _ h => h) (Or.inl ⟨by rfl, ?_⟩) (by assumption) ?_; rotate_left; · (intro wq hSq; have hq := HC0.out wq hSq; go_split_ands; go_simp; (try with_reducible rfl))
    try simp only [Act.put, getElem_toArray, getElem_cons_zero, getElem_cons_succ, setIfInBounds_toArray, set_cons_zero, set_cons_succ]
    refine wpAnyH_ready (rs := [5]) (by kernel_rfl) (by simp) ?_
    refine AllReadyH.cons rfl (fun K hK => ?_) AllReadyH.nil
    try simp only [getElem_toArray, getElem_cons_zero, getElem_cons_succ]
    go_simp
    refine (HIT0.out _ hHeld).mono ?_
    rintro e w5 ⟨hF5, v5, ys5, rfl, hy5, hI5⟩
    obtain ⟨A5, c5, rfl, _, _, _⟩ := row_open hI5.1
    have hw5 : Frm (fun _ => False) w2 w5 := hHeld.trans' hF5
    go_wp2_with fail
    refine hK.out _ _ (hw5) (fun hHeld => ?_)
    clear hK K
    try simp only [Act.put, setIfInBounds_toArray, set_cons_zero, set_cons_succ]
    have HCK := Lib.hid (check_any b l _ ys5 _ w5 (HD.out.grow hw5) HOK1.out hI5 (fun q hq => HD.out.lt q hq) (own_factsR hy5 HR.out HBL.out).1 (own_factsR hy5 HR.out HBL.out).2)
    unfold CheckP ptr at HCK
    rw [hy5, HYK.out, ← hrc] at HCK
    refine wpAnyH_ready (rs := [6]) (by kernel_rfl) (by simp) ?_
    refine AllReadyH.cons rfl (fun K hK => ?_) AllReadyH.nil
    try simp only [getElem_toArray, getElem_cons_zero, getElem_cons_succ]
    go_simp
    refine HCK.out.mono ?_
    rintro e w6 ⟨rfl, hF6⟩
    go_wp2_with fail
    refine hK.out _ _ (hHeld.trans' hF6) (fun hHeld => ?_)
    clear hK K
    try simp only [Act.put, setIfInBounds_toArray, set_cons_zero, set_cons_succ]
    refine wpAnyH_take (i := 7) (v := ?_) rfl (by kernel_rfl) (by kernel_rfl) (by kernel_rfl) (fun _ _ _ h => h) (Or.inl ⟨by rfl, ?_⟩) (by assumption) ?_; rotate_left; · (intro wq hSq; (try dsimp only at hSq); go_split_ands; go_simp; (try with_reducible rfl))
    try simp only [Act.put, getElem_toArray, getElem_cons_zero, getElem_cons_succ, setIfInBounds_toArray, set_cons_zero, set_cons_succ]
    refine wpAnyH_take (i := 8) (v := ?_) rfl (by kernel_rfl) (by kernel_rfl) (by kernel_rfl) (fun _ _ _ h => h) (Or.inl ⟨by rfl, ?_⟩) (by assumption) ?_; rotate_left; · (intro wq hSq; (try dsimp only at hSq); go_split_ands; go_simp; (try with_reducible rfl))
    try simp only [Act.put, getElem_toArray, getElem_cons_zero, getElem_cons_succ, setIfInBounds_toArray, set_cons_zero, set_cons_succ]
    refine wpAnyH_take (i := 9) (v := ?_) rfl (by kernel_rfl) (by kernel_rfl) (by kernel_rfl) (fun _ _ _ h => h) (Or.inl ⟨by rfl, ?_⟩) (by assumption) ?_; rotate_left; · (intro wq hSq; (try dsimp only at hSq); go_split_ands; go_simp; (try with_reducible rfl))
    try simp only [Act.put, getElem_toArray, getElem_cons_zero, getElem_cons_succ, setIfInBounds_toArray, set_cons_zero, set_cons_succ]
    refine wpAnyH_take (i := 10) (v := ?_) rfl (by kernel_rfl) (by kernel_rfl) (by kernel_rfl) (fun _ _ _ h => h) (Or.inl ⟨by rfl, ?_⟩) (by assumption) ?_; rotate_left; · (intro wq hSq; (try dsimp only at hSq); go_split_ands; go_simp; (try with_reducible rfl))
    try simp only [Act.put, getElem_toArray, getElem_cons_zero, getElem_cons_succ, setIfInBounds_toArray, set_cons_zero, set_cons_succ]
    refine wpAnyH_take (i := 11) (v := ?_) rfl (by kernel_rfl) (by kernel_rfl) (by kernel_rfl) (fun _ _ _ h => h) (Or.inl ⟨by rfl, ?_⟩) (by assumption) ?_; rotate_left; · (intro wq hSq; (try dsimp only at hSq); go_split_ands; go_simp; (try with_reducible rfl))
    try simp only [Act.put, getElem_toArray, getElem_cons_zero, getElem_cons_succ, setIfInBounds_toArray, set_cons_zero, set_cons_succ]
    refine wpAnyH_done (by kernel_rfl) ?_ _
    have HH := Lib.hid hHeld
    clear hHeld hF6 hF5 hw5 hI5 hy5
    go_wp2_with fail
    go_meet
    exact ⟨by first | rfl | (rw [hrc]; done) | (rw [hrc]; rfl), by first | rfl | (rw [hrc]; done) | (rw [hrc]; rfl), HH.out⟩
  case rest =>
    obtain ⟨rfl, rfl, hFc⟩ := hcut
    have HFW0 := HFW
    have HFW := Lib.hid (HFW0.out.trans' hFc)
    have HD := Lib.hid (HD.out.grow hFc)
    have HPA := Lib.hid (hFc.heap HPA.out (fun h => h))
    clear hFc HC0 HIT0 HFW0 hal
    have hal := lt_of_block HPA.out
    obtain ⟨rn, rcode⟩ := rc
    by_cases hch : rcode = 0
    case neg =>
      have b1 : (rcode != 0) = true := by simpa using hch
      clear hch hrc
      go_wp2_with (go_at_call 19; refine (HLV.out _).mono ?_; rintro e w4 ⟨rfl, hF4⟩)
      go_ret
      exact ⟨rfl, HFW.out.trans' hF4⟩
    case pos =>
      subst hch
      have hall := chk_all (d := im l) (l := ys) (by rw [← hrc])
      have hn : rn = is.length := by have := hall.2; rw [← hrc, HYL.out] at this; exact this
      subst hn
      have HALL := Lib.hid hall.1
      have HA1 : Hid (appD (im l) ys = ((appD (im l) ys).1, is.length, 0)) := by unfold Hid; rw [← HYL.out]; exact appD_okR hall.1
      clear hrc hall
      by_cases h2k : 2000 < is.length
      case pos =>
        go_wp2_with (go_at_call 19; refine (HLV.out _).mono ?_; rintro e w4 ⟨rfl, hF4⟩)
        go_ret
        exact ⟨rfl, HFW.out.trans' hF4⟩
      have hi2 : is.length ≤ 2000 := Nat.not_lt.1 h2k
      clear h2k
      have HCC := Lib.hid (fun Wx (h : Frm (fun j => ∃ q ∈ l, j = q.1) wc Wx) => h.cell (cell_at (o := 0) HPA.out) (fun ⟨q, hq, e⟩ => block_ne (HD.out.el q hq) HPA.out (by decide) e.symm))
      go_upto_region 7 with fail
      refine wp_region_held_drew (S := (fun Wx => Frm (fun j => ∃ q ∈ l, j = q.1) wc Wx)) (by kernel_rfl) ((Frm.refl _ _).drew) (fun hHeld => ?_)
      refine wpAnyH_take (i := 0) (v := ?_) rfl (by kernel_rfl) (by kernel_rfl) (by kernel_rfl) (fun _ _ _ h => h) (Or.inl ⟨by rfl, ?_⟩) (by assumption) ?_; rotate_left; · (intro wq hSq; have hq := HCC.out wq hSq; go_split_ands; go_simp; (try with_reducible rfl))
      try simp only [Act.put, getElem_toArray, getElem_cons_zero, getElem_cons_succ, setIfInBounds_toArray, set_cons_zero, set_cons_succ]
      refine wpAnyH_take (i := 1) (v := ?_) rfl (by kernel_rfl) (by kernel_rfl) (by kernel_rfl) (fun _ _ _ h => h) (Or.inl ⟨by rfl, ?_⟩) (by assumption) ?_; rotate_left; · (intro wq hSq; have hq := HCC.out wq hSq; go_split_ands; go_simp; (try with_reducible rfl))
      try simp only [Act.put, getElem_toArray, getElem_cons_zero, getElem_cons_succ, setIfInBounds_toArray, set_cons_zero, set_cons_succ]
      refine wpAnyH_take (i := 2) (v := ?_) rfl (by kernel_rfl) (by kernel_rfl) (by kernel_rfl) (fun _ _ _ h => h) (Or.inl ⟨by rfl, ?_⟩) (by assumption) ?_; rotate_left; · (intro wq hSq; have hq := HCC.out wq hSq; go_split_ands; go_simp; (try with_reducible rfl))
      try simp only [Act.put, getElem_toArray, getElem_cons_zero, getElem_cons_succ, setIfInBounds_toArray, set_cons_zero, set_cons_succ]
      refine wpAnyH_take (i := 3) (v := ?_) rfl (by kernel_rfl) (by kernel_rfl) (by kernel_rfl) (fun _ _ _ h => h) (Or.inl ⟨by rfl, ?_⟩) (by assumption) ?_; rotate_left; · (intro wq hSq; have hq := HCC.out wq hSq; go_split_ands; go_simp; (try with_reducible rfl))
      try simp only [Act.put, getElem_toArray, getElem_cons_zero, getElem_cons_succ, setIfInBounds_toArray, set_cons_zero, set_cons_succ]
      refine wpAnyH_take (i := 4) (v := ?_) rfl (by kernel_rfl) (by kernel_rfl) (by kernel_rfl) (fun _ _ _ h => h) (Or.inl ⟨by rfl, ?_⟩) (by assumption) ?_; rotate_left; · (intro wq hSq; have hq := HCC.out wq hSq; go_split_ands; go_simp; (try with_reducible rfl))
      try simp only [Act.put, getElem_toArray, getElem_cons_zero, getElem_cons_succ, setIfInBounds_toArray, set_cons_zero, set_cons_succ]
      refine wpAnyH_ready (rs := [5]) (by kernel_rfl) (by simp) ?_
      refine AllReadyH.cons rfl (fun K hK => ?_) AllReadyH.nil
      try simp only [getElem_toArray, getElem_cons_zero, getElem_cons_succ]
      go_simp
      refine (own_any _ is _ (H1.out.frm (HFW.out.trans' (Frm.refl _ _).drew)) HLEN.out HBL.out).mono ?_
      rintro e w5 ⟨hF5, v5, ys5, rfl, hy5, hI5⟩
      obtain ⟨A5, c5, rfl, _, _, _⟩ := row_open hI5.1
      have hw5 : Frm (fun _ => False) wc w5 := (Frm.refl _ _).drew.trans' hF5
      go_wp2_with fail
      refine hK.out _ _ (hw5.mono (fun _ _ h => h.elim)) (fun hHeld => ?_)
      clear hK K
      try simp only [Act.put, setIfInBounds_toArray, set_cons_zero, set_cons_succ]
      have HAP := Lib.hid (apply_any b l _ ys5 _ w5 (HD.out.grow hw5) HOK1.out hI5 (fun q hq => HD.out.lt q hq) (own_factsR hy5 HR.out HBL.out).1 (own_factsR hy5 HR.out HBL.out).2)
      unfold ApplyP ptr at HAP
      rw [hy5, HYK.out, HA1.out] at HAP
      simp only at HAP
      refine wpAnyH_ready (rs := [6]) (by kernel_rfl) (by simp) ?_
      refine AllReadyH.cons rfl (fun K hK => ?_) AllReadyH.nil
      try simp only [getElem_toArray, getElem_cons_zero, getElem_cons_succ]
      go_simp
      refine HAP.out.mono ?_
      rintro e w6 ⟨rfl, l6, hD6, hl6, hf6, hF6⟩
      have hw6 : Frm (fun j => ∃ q ∈ l, j = q.1) wc w6 := (hw5.mono (fun _ _ h => h.elim)).trans hF6 (fun i hi h => h)
      go_wp2_with fail
      refine hK.out _ _ (hw6) (fun hHeld => ?_)
      clear hK K
      try simp only [Act.put, setIfInBounds_toArray, set_cons_zero, set_cons_succ]
      refine wpAnyH_take (i := 7) (v := ?_) rfl (by kernel_rfl) (by kernel_rfl) (by kernel_rfl) (fun _ _ _ h => h) (Or.inl ⟨by rfl, ?_⟩) (by assumption) ?_; rotate_left; · (intro wq hSq; (try dsimp only at hSq); go_split_ands; go_simp; (try with_reducible rfl))
      try simp only [Act.put, getElem_toArray, getElem_cons_zero, getElem_cons_succ, setIfInBounds_toArray, set_cons_zero, set_cons_succ]
      refine wpAnyH_take (i := 8) (v := ?_) rfl (by kernel_rfl) (by kernel_rfl) (by kernel_rfl) (fun _ _ _ h => h) (Or.inl ⟨by rfl, ?_⟩) (by assumption) ?_; rotate_left; · (intro wq hSq; (try dsimp only at hSq); go_split_ands; go_simp; (try with_reducible rfl))
      try simp only [Act.put, getElem_toArray, getElem_cons_zero, getElem_cons_succ, setIfInBounds_toArray, set_cons_zero, set_cons_succ]
      refine wpAnyH_take (i := 9) (v := ?_) rfl (by kernel_rfl) (by kernel_rfl) (by kernel_rfl) (fun _ _ _ h => h) (Or.inl ⟨by rfl, ?_⟩) (by assumption) ?_; rotate_left; · (intro wq hSq; (try dsimp only at hSq); go_split_ands; go_simp; (try with_reducible rfl))
      try simp only [Act.put, getElem_toArray, getElem_cons_zero, getElem_cons_succ, setIfInBounds_toArray, set_cons_zero, set_cons_succ]
      refine wpAnyH_take (i := 10) (v := ?_) rfl (by kernel_rfl) (by kernel_rfl) (by kernel_rfl) (fun _ _ _ h => h) (Or.inl ⟨by rfl, ?_⟩) (by assumption) ?_; rotate_left; · (intro wq hSq; (try dsimp only at hSq); go_split_ands; go_simp; (try with_reducible rfl))
      try simp only [Act.put, getElem_toArray, getElem_cons_zero, getElem_cons_succ, setIfInBounds_toArray, set_cons_zero, set_cons_succ]
      refine wpAnyH_take (i := 11) (v := ?_) rfl (by kernel_rfl) (by kernel_rfl) (by kernel_rfl) (fun _ _ _ h => h) (Or.inl ⟨by rfl, ?_⟩) (by assumption) ?_; rotate_left; · (intro wq hSq; (try dsimp only at hSq); go_split_ands; go_simp; (try with_reducible rfl))
      try simp only [Act.put, getElem_toArray, getElem_cons_zero, getElem_cons_succ, setIfInBounds_toArray, set_cons_zero, set_cons_succ]
      refine wpAnyH_done (by kernel_rfl) ?_ _
      have hlo : ∀ j, (∃ q ∈ l, j = q.1) → W.heap.size ≤ j := fun j ⟨q, hq, e⟩ => by rw [e]; exact Nat.le_trans HBLE.out (HD.out.lo q hq)
      have HFW6 := Lib.hid (HFW.out.trans hw6 (fun i hi h => absurd hi (Nat.not_lt.2 (hlo i h))))
      have hp6 := hw6.heap HPA.out (fun ⟨q, hq, e⟩ => block_ne (HD.out.el q hq) HPA.out (by decide) e.symm)
      have HP6 := Lib.hid hp6
      have HL6 := Lib.hid hl6
      have HD6 := Lib.hid hD6
      have hal6 : a < w6.heap.size := lt_of_block hp6
      have HC6 := Lib.hid (fun Wx (h : Frm (fun _ => False) w6 Wx) => h.cell (cell_at (o := 0) hp6) (fun h => h))
      have HRR : Hid (DOk (im l6)) := by unfold Hid; rw [hl6]; exact appD_ok HOK1.out _
      clear HCC hal HFW hw6 hw5 hF6 hD6 hl6 hf6 hlo hHeld HAP hI5 hy5 hF5 hp6 HPA HD
      generalize w6 = wa at *
      go_upto_region 10 with fail
      refine wp_region_held_drew (S := fun W => Frm (fun _ => False) wa W) (by kernel_rfl) ((Frm.refl _ _).drew) (fun hHeld => ?_)
      refine wpAnyH_take (i := 0) (v := ?_) rfl (by kernel_rfl) (by kernel_rfl) (by kernel_rfl) (fun _ _ _ h => h) (Or.inl ⟨by rfl, ?_⟩) (by assumption) ?_; rotate_left; · (intro wq hSq; have hq := HC6.out wq hSq; go_split_ands; go_simp; (try with_reducible rfl))
      try simp only [Act.put, getElem_toArray, getElem_cons_zero, getElem_cons_succ, setIfInBounds_toArray, set_cons_zero, set_cons_succ]
      refine wpAnyH_take (i := 1) (v := ?_) rfl (by kernel_rfl) (by kernel_rfl) (by kernel_rfl) (fun _ _ _ h => h) (Or.inl ⟨by rfl, ?_⟩) (by assumption) ?_; rotate_left; · (intro wq hSq; have hq := HC6.out wq hSq; go_split_ands; go_simp; (try with_reducible rfl))
      try simp only [Act.put, getElem_toArray, getElem_cons_zero, getElem_cons_succ, setIfInBounds_toArray, set_cons_zero, set_cons_succ]
      refine wpAnyH_take (i := 2) (v := ?_) rfl (by kernel_rfl) (by kernel_rfl) (by kernel_rfl) (fun _ _ _ h => h) (Or.inl ⟨by rfl, ?_⟩) (by assumption) ?_; rotate_left; · (intro wq hSq; have hq := HC6.out wq hSq; go_split_ands; go_simp; (try with_reducible rfl))
      try simp only [Act.put, getElem_toArray, getElem_cons_zero, getElem_cons_succ, setIfInBounds_toArray, set_cons_zero, set_cons_succ]
      refine wpAnyH_take (i := 3) (v := ?_) rfl (by kernel_rfl) (by kernel_rfl) (by kernel_rfl) (fun _ _ _ h => h) (Or.inl ⟨by rfl, ?_⟩) (by assumption) ?_; rotate_left; · (intro wq hSq; have hq := HC6.out wq hSq; go_split_ands; go_simp; (try with_reducible rfl))
      try simp only [Act.put, getElem_toArray, getElem_cons_zero, getElem_cons_succ, setIfInBounds_toArray, set_cons_zero, set_cons_succ]
      refine wpAnyH_take (i := 4) (v := ?_) rfl (by kernel_rfl) (by kernel_rfl) (by kernel_rfl) (fun _ _ _ h => h) (Or.inl ⟨by rfl, ?_⟩) (by assumption) ?_; rotate_left; · (intro wq hSq; have hq := HC6.out wq hSq; go_split_ands; go_simp; (try with_reducible rfl))
      try simp only [Act.put, getElem_toArray, getElem_cons_zero, getElem_cons_succ, setIfInBounds_toArray, set_cons_zero, set_cons_succ]
      refine wpAnyH_ready (rs := [5]) (by kernel_rfl) (by simp) ?_
      refine AllReadyH.cons rfl (fun K hK => ?_) AllReadyH.nil
      try simp only [getElem_toArray, getElem_cons_zero, getElem_cons_succ]
      go_simp
      refine (own_any _ is _ (H1.out.frm (HFW6.out.trans' (Frm.refl _ _).drew)) HLEN.out HBL.out).mono ?_
      rintro e w5 ⟨hF5, v5, ys5, rfl, hy5, hI5⟩
      obtain ⟨A5, c5, rfl, _, _, _⟩ := row_open hI5.1
      have hw5 : Frm (fun _ => False) wa w5 := (Frm.refl _ _).drew.trans' hF5
      go_wp2_with fail
      refine hK.out _ _ (hw5) (fun hHeld => ?_)
      clear hK K
      try simp only [Act.put, setIfInBounds_toArray, set_cons_zero, set_cons_succ]
      have h5l := Lib.hid (own_lenR hy5)
      have HDF := Lib.hid (differ_any b l6 _ ys5 _ w5 (HD6.out.grow hw5) HRR.out hI5 (own_factsR hy5 HR.out HBL.out).1 (by have := h5l.out; omega))
      unfold DiffP ptr at HDF
      have hdr := dif_range ys5 (im l) (by rw [hy5, HYK.out]; exact HALL.out)
      rw [hy5, HYK.out, h5l.out] at hdr
      rw [HL6.out, hdr] at HDF
      refine wpAnyH_ready (rs := [6]) (by kernel_rfl) (by simp) ?_
      refine AllReadyH.cons rfl (fun K hK => ?_) AllReadyH.nil
      try simp only [getElem_toArray, getElem_cons_zero, getElem_cons_succ]
      go_simp
      refine HDF.out.mono ?_
      rintro e w7 ⟨v7, rfl, hr7, hF7⟩
      have hw7 : Frm (fun _ => False) wa w7 := hw5.trans' hF7
      obtain ⟨Q, hQ⟩ : ∃ Q, Q = (List.range is.length).filter (dueT (appD (im l) ys).1 ys) := ⟨_, rfl⟩
      rw [← hQ, List.length_map, List.map_map] at hr7
      have HQ := Lib.hid hQ
      clear hQ
      obtain ⟨A7, c7, rfl, _, _, q7⟩ := row_open hr7
      go_wp2_with fail
      refine hK.out _ _ (hw7) (fun hHeld => ?_)
      clear hK K
      try simp only [Act.put, setIfInBounds_toArray, set_cons_zero, set_cons_succ]
      refine wpAnyH_take (i := 7) (v := ?_) rfl (by kernel_rfl) (by kernel_rfl) (by kernel_rfl) (fun _ _ _ h => h) (Or.inl ⟨by rfl, ?_⟩) (by assumption) ?_; rotate_left; · (intro wq hSq; (try dsimp only at hSq); go_split_ands; go_simp; (try with_reducible rfl))
      try simp only [Act.put, getElem_toArray, getElem_cons_zero, getElem_cons_succ, setIfInBounds_toArray, set_cons_zero, set_cons_succ]
      refine wpAnyH_done (by kernel_rfl) ?_ _
      have hal7 : a < w7.heap.size := Nat.lt_of_lt_of_le hal6 hw7.size
      have HP7 := Lib.hid (hw7.heap HP6.out (fun h => h))
      have HD7 := Lib.hid (HD6.out.grow hw7)
      have HFW7 := Lib.hid (HFW6.out.trans' hw7)
      have HQ7 := Lib.hid q7
      obtain ⟨D, hDD⟩ : ∃ D, D = (appD (im l) ys).1 := ⟨_, rfl⟩
      have HL7 : Hid (im l6 = D) := by unfold Hid; rw [hDD]; exact HL6.out
      have HQD : Hid (Q = (List.range is.length).filter (dueT D ys)) := by unfold Hid; rw [hDD]; exact HQ.out
      have HMAY : Hid (∀ x ∈ is, (entD D x.1 x.2.1).2 = true) := fun x hx => by
        rw [hDD, entD_congr (app_fst (im l) ys)]
        exact (ent_may (HALL.out (bare x) (by rw [← HYK.out]; exact List.mem_map_of_mem hx))).1
      have HDOK : Hid (DOk D) := by unfold Hid; rw [← HL7.out]; exact HRR.out
      clear HFW6 HP6 HD6 hw7 hw5 hF7 hF5 hy5 hI5 hr7 q7 HQ HDF hdr hHeld HC6 hal6 HRR h5l HALL HA1 hDD HL6 HBLE
      generalize w7 = wb at *
      have hQl : Q.length ≤ is.length := by rw [HQD.out]; exact Nat.le_trans (List.length_filter_le _ _) (by rw [List.length_range]; exact Nat.le_refl _)
      go_wp2_with fail
      go_loopw [12, 13] (fun av i wr => ∃ k : Nat, k ≤ is.length ∧ i = .int .i64 k ∧ av = .int .i64 (cntQ (dueT D ys) k : Nat) ∧ Frm (fun _ => False) wb wr) (fun _ i _ => is.length - (intOf i).toNat)
      case atStart => exact ⟨0, Nat.zero_le _, rfl, rfl, by first | exact Frm.refl _ _ | exact (Frm.refl _ _).drew⟩
      case round =>
        obtain ⟨k, hk, rfl, rfl, hF⟩ := hrel
        by_cases hlt : k < is.length
        · have HFK := Lib.hid hF
          obtain ⟨g, off, rfl, hgl, hcc⟩ := HCI.out (by omega)
          have hd := due_at D is k hlt
          rw [HYK.out] at hd
          have hmay := HMAY.out _ (List.getElem_mem hlt)
          have hrg := HR.out _ (List.getElem_mem hlt)
          have HAG := Lib.hid (fun Wx (h : Frm (fun _ => False) W Wx) => again_any (.slice (some ⟨g, off, none⟩) is.length cap) is k Wx (SlAt.frm encIt_len HS1.out h) hlt)
          obtain ⟨ag, hag⟩ : ∃ ag, ag = agI is[k] (is.drop (k + 1)) := ⟨_, rfl⟩
          rw [← hag] at HAG hd
          clear hag
          have d0 := hcc k hlt 0 (by decide)
          have d1 := hcc k hlt 1 (by decide)
          clear hcc
          generalize is[k] = x at *
          have HKL : Hid (k + 1 ≤ is.length) := hlt
          obtain ⟨x0, x1, xv, xb⟩ := x
          simp only [bare] at hrg hd hmay
          have d0 : W.cell? ⟨g, off + k * 3, none⟩ = some (.int .u16 x0) := d0
          have d1 : W.cell? ⟨g, off + k * 3 + 1, none⟩ = some (.int .u8 x1) := d1
          have HEM : Hid (∀ Wx, Frm (fun _ => False) wr Wx → Calls Tryz.prog 26 #[.pointer (some ⟨b, 0, none⟩), .int .u16 x0, .int .u8 x1] Wx fun e w' => e = .returned (.tuple #[valE (entD D x0 x1).1, .bool true]) ∧ Frm (fun _ => False) Wx w') := fun Wx h => by
            have h9 := odEnt_any b l6 x0 x1 Wx ((HD7.out.grow HFK.out).grow h) (by rw [HL7.out]; exact HDOK.out) ⟨hrg.2.2.1, hrg.2.2.2⟩
            rw [HL7.out, hmay] at h9
            exact h9
          unfold valE at HEM
          clear hmay
          generalize (entD D x0 x1).1 = x at *
          have HCN := Lib.hid (fun Wx (h : Frm (fun _ => False) wr Wx) => (⟨(HFK.out.trans' h).cell (cell_at (o := 0) HP7.out) (fun h => h), ((HFW7.out.trans' HFK.out).trans' h).cell d0 (fun h => h), ((HFW7.out.trans' HFK.out).trans' h).cell d1 (fun h => h)⟩ : _ ∧ _ ∧ _))
          have HCT := Lib.hid (fun W (h : Frm (fun _ => False) wr W) => trivial)
          have hgw := Nat.lt_of_lt_of_le hgl (HFW7.out.trans' HFK.out).size
          have haw := Nat.lt_of_lt_of_le hal7 HFK.out.size
          have hkl : (k : Int) < (is.length : Int) := by omega
          have HCNT := cntQ_succ (dueT D ys) k
          have HDU := Lib.hid hd
          have HSUC := Lib.hid HCNT
          have HYES := Lib.hid (look_yes (dueT D ys) k is.length hlt)
          have HNO := Lib.hid (look_no (dueT D ys) k is.length hlt)
          rw [← HQD.out] at HYES HNO
          have hcl := cntQ_le (dueT D ys) k
          obtain ⟨qk, hqk⟩ : ∃ qk, qk = dueT D ys k := ⟨_, rfl⟩
          rw [← hqk] at HDU HSUC HYES HNO
          clear HCNT hF hd d0 d1 hqk hrg
          generalize cntQ (dueT D ys) k = at' at *
          obtain ⟨wq, hwq⟩ : ∃ wq : World, wq = wr := ⟨_, rfl⟩
          subst hwq
          go_upto_region 15 with fail
          go_cut [14, 15] (fun pv ev wz => EntC wq x true pv ev wz)
          case first =>
            refine wp_region_held_drew (S := fun W => Frm (fun _ => False) wq W) (by kernel_rfl) ((Frm.refl _ _).drew) (fun hHeld => ?_)
            refine wpAnyH_take (i := 0) (v := ?_) rfl (by kernel_rfl) (by kernel_rfl) (by kernel_rfl) (fun _ _ _ h => h) (Or.inl ⟨by rfl, ?_⟩) (by assumption) ?_; rotate_left; · (intro wq hSq; have hq := HCN.out wq hSq; go_split_ands; go_simp; (try with_reducible rfl))
            try simp only [Act.put, getElem_toArray, getElem_cons_zero, getElem_cons_succ, setIfInBounds_toArray, set_cons_zero, set_cons_succ]
            refine wpAnyH_take (i := 1) (v := ?_) rfl (by kernel_rfl) (by kernel_rfl) (by kernel_rfl) (fun _ _ _ h => h) (Or.inl ⟨by rfl, ?_⟩) (by assumption) ?_; rotate_left; · (intro wq hSq; have hq := HCN.out wq hSq; go_split_ands; go_simp; (try with_reducible rfl))
            try simp only [Act.put, getElem_toArray, getElem_cons_zero, getElem_cons_succ, setIfInBounds_toArray, set_cons_zero, set_cons_succ]
            refine wpAnyH_take (i := 2) (v := ?_) rfl (by kernel_rfl) (by kernel_rfl) (by kernel_rfl) (fun _ _ _ h => h) (Or.inl ⟨by rfl, ?_⟩) (by assumption) ?_; rotate_left; · (intro wq hSq; have hq := HCN.out wq hSq; go_split_ands; go_simp; (try with_reducible rfl))
            try simp only [Act.put, getElem_toArray, getElem_cons_zero, getElem_cons_succ, setIfInBounds_toArray, set_cons_zero, set_cons_succ]
            refine wpAnyH_take (i := 3) (v := ?_) rfl (by kernel_rfl) (by kernel_rfl) (by kernel_rfl) (fun _ _ _ h => h) (Or.inl ⟨by rfl, ?_⟩) (by assumption) ?_; rotate_left; · (intro wq hSq; have hq := HCN.out wq hSq; go_split_ands; go_simp; (try with_reducible rfl))
            try simp only [Act.put, getElem_toArray, getElem_cons_zero, getElem_cons_succ, setIfInBounds_toArray, set_cons_zero, set_cons_succ]
            refine wpAnyH_take (i := 4) (v := ?_) rfl (by kernel_rfl) (by kernel_rfl) (by kernel_rfl) (fun _ _ _ h => h) (Or.inl ⟨by rfl, ?_⟩) (by assumption) ?_; rotate_left; · (intro wq hSq; have hq := HCN.out wq hSq; go_split_ands; go_simp; (try with_reducible rfl))
            try simp only [Act.put, getElem_toArray, getElem_cons_zero, getElem_cons_succ, setIfInBounds_toArray, set_cons_zero, set_cons_succ]
            refine wpAnyH_take (i := 5) (v := ?_) rfl (by kernel_rfl) (by kernel_rfl) (by kernel_rfl) (fun _ _ _ h => h) (Or.inl ⟨by rfl, ?_⟩) (by assumption) ?_; rotate_left; · (intro wq hSq; have hq := HCN.out wq hSq; go_split_ands; go_simp; (try with_reducible rfl))
            try simp only [Act.put, getElem_toArray, getElem_cons_zero, getElem_cons_succ, setIfInBounds_toArray, set_cons_zero, set_cons_succ]
            refine wpAnyH_take (i := 6) (v := ?_) rfl (by kernel_rfl) (by kernel_rfl) (by kernel_rfl) (fun _ _ _ h => h) (Or.inl ⟨by rfl, ?_⟩) (by assumption) ?_; rotate_left; · (intro wq hSq; have hq := HCN.out wq hSq; go_split_ands; go_simp; (try with_reducible rfl))
            try simp only [Act.put, getElem_toArray, getElem_cons_zero, getElem_cons_succ, setIfInBounds_toArray, set_cons_zero, set_cons_succ]
            refine wpAnyH_take (i := 7) (v := ?_) rfl (by kernel_rfl) (by kernel_rfl) (by kernel_rfl) (fun _ _ _ h => h) (Or.inl ⟨by rfl, ?_⟩) (by assumption) ?_; rotate_left; · (intro wq hSq; have hq := HCN.out wq hSq; go_split_ands; go_simp; (try with_reducible rfl))
            try simp only [Act.put, getElem_toArray, getElem_cons_zero, getElem_cons_succ, setIfInBounds_toArray, set_cons_zero, set_cons_succ]
            refine wpAnyH_take (i := 8) (v := ?_) rfl (by kernel_rfl) (by kernel_rfl) (by kernel_rfl) (fun _ _ _ h => h) (Or.inl ⟨by rfl, ?_⟩) (by assumption) ?_; rotate_left; · (intro wq hSq; have hq := HCN.out wq hSq; go_split_ands; go_simp; (try with_reducible rfl))
            try simp only [Act.put, getElem_toArray, getElem_cons_zero, getElem_cons_succ, setIfInBounds_toArray, set_cons_zero, set_cons_succ]
            refine wpAnyH_take (i := 9) (v := ?_) rfl (by kernel_rfl) (by kernel_rfl) (by kernel_rfl) (fun _ _ _ h => h) (Or.inl ⟨by rfl, ?_⟩) (by assumption) ?_; rotate_left; · (intro wq hSq; have hq := HCN.out wq hSq; go_split_ands; go_simp; (try with_reducible rfl))
            try simp only [Act.put, getElem_toArray, getElem_cons_zero, getElem_cons_succ, setIfInBounds_toArray, set_cons_zero, set_cons_succ]
            refine wpAnyH_take (i := 10) (v := ?_) rfl (by kernel_rfl) (by kernel_rfl) (by kernel_rfl) (fun _ _ _ h => h) (Or.inl ⟨by rfl, ?_⟩) (by assumption) ?_; rotate_left; · (intro wq hSq; have hq := HCN.out wq hSq; go_split_ands; go_simp; (try with_reducible rfl))
            try simp only [Act.put, getElem_toArray, getElem_cons_zero, getElem_cons_succ, setIfInBounds_toArray, set_cons_zero, set_cons_succ]
            refine wpAnyH_take (i := 11) (v := ?_) rfl (by kernel_rfl) (by kernel_rfl) (by kernel_rfl) (fun _ _ _ h => h) (Or.inl ⟨by rfl, ?_⟩) (by assumption) ?_; rotate_left; · (intro wq hSq; have hq := HCN.out wq hSq; go_split_ands; go_simp; (try with_reducible rfl))
            try simp only [Act.put, getElem_toArray, getElem_cons_zero, getElem_cons_succ, setIfInBounds_toArray, set_cons_zero, set_cons_succ]
            refine wpAnyH_take (i := 12) (v := ?_) rfl (by kernel_rfl) (by kernel_rfl) (by kernel_rfl) (fun _ _ _ h => h) (Or.inl ⟨by rfl, ?_⟩) (by assumption) ?_; rotate_left; · (intro wq hSq; have hq := HCN.out wq hSq; go_split_ands; go_simp; (try with_reducible rfl))
            try simp only [Act.put, getElem_toArray, getElem_cons_zero, getElem_cons_succ, setIfInBounds_toArray, set_cons_zero, set_cons_succ]
            refine wpAnyH_take (i := 13) (v := ?_) rfl (by kernel_rfl) (by kernel_rfl) (by kernel_rfl) (fun _ _ _ h => h) (Or.inl ⟨by rfl, ?_⟩) (by assumption) ?_; rotate_left; · (intro wq hSq; have hq := HCN.out wq hSq; go_split_ands; go_simp; (try with_reducible rfl))
            try simp only [Act.put, getElem_toArray, getElem_cons_zero, getElem_cons_succ, setIfInBounds_toArray, set_cons_zero, set_cons_succ]
            refine wpAnyH_ready (rs := [14, 18]) (by kernel_rfl) (by simp) ?_
            refine AllReadyH.cons rfl (fun K hK => ?_) (AllReadyH.cons rfl (fun K hK => ?_) AllReadyH.nil)
            · try simp only [getElem_toArray, getElem_cons_zero, getElem_cons_succ]
              go_simp
              refine (HEM.out _ (Frm.refl _ _).drew).mono ?_
              rintro e w6 ⟨rfl, hF6⟩
              go_wp2_with fail
              refine hK.out _ _ (hHeld.trans' hF6) (fun hHeld => ?_)
              clear hK K
              try simp only [Act.put, setIfInBounds_toArray, set_cons_zero, set_cons_succ]
              refine wpAnyH_take (i := 15) (v := ?_) rfl (by kernel_rfl) (by kernel_rfl) (by kernel_rfl) (fun _ _ _ h => h) (Or.inl ⟨by rfl, ?_⟩) (by assumption) ?_; rotate_left; · (intro wq hSq; have hq := HCT.out wq hSq; go_split_ands; go_simp; (try with_reducible rfl))
              try simp only [Act.put, getElem_toArray, getElem_cons_zero, getElem_cons_succ, setIfInBounds_toArray, set_cons_zero, set_cons_succ]
              refine wpAnyH_take (i := 16) (v := ?_) rfl (by kernel_rfl) (by kernel_rfl) (by kernel_rfl) (fun _ _ _ h => h) (Or.inl ⟨by rfl, ?_⟩) (by assumption) ?_; rotate_left; · (intro wq hSq; have hq := HCT.out wq hSq; go_split_ands; go_simp; (try with_reducible rfl))
              try simp only [Act.put, getElem_toArray, getElem_cons_zero, getElem_cons_succ, setIfInBounds_toArray, set_cons_zero, set_cons_succ]
              refine wpAnyH_take (i := 17) (v := ?_) rfl (by kernel_rfl) (by kernel_rfl) (by kernel_rfl) (fun _ _ _ h => h) (Or.inl ⟨by rfl, ?_⟩) (by assumption) ?_; rotate_left; · (intro wq hSq; have hq := HCT.out wq hSq; go_split_ands; go_simp; (try with_reducible rfl))
              try simp only [Act.put, getElem_toArray, getElem_cons_zero, getElem_cons_succ, setIfInBounds_toArray, set_cons_zero, set_cons_succ]
              have hH6 := hHeld
              refine wpAnyH_ready (rs := [18]) (by kernel_rfl) (by simp) ?_
              refine AllReadyH.cons rfl (fun K hK => ?_) AllReadyH.nil
              try simp only [getElem_toArray, getElem_cons_zero, getElem_cons_succ]
              go_simp
              refine hK.out _ _ (hHeld.alloc _) (fun hHeld => ?_)
              clear hK K
              try simp only [Act.put, setIfInBounds_toArray, set_cons_zero, set_cons_succ]
              refine wpAnyH_ready (rs := [19]) (by kernel_rfl) (by simp) ?_
              refine AllReadyH.cons rfl (fun K hK => ?_) AllReadyH.nil
              try simp only [getElem_toArray, getElem_cons_zero, getElem_cons_succ]
              go_simp
              refine hK.out _ _ (hH6.alloc _) (fun hHeld => ?_)
              clear hK K
              try simp only [Act.put, setIfInBounds_toArray, set_cons_zero, set_cons_succ]
              refine wpAnyH_take (i := 20) (v := ?_) rfl (by kernel_rfl) (by kernel_rfl) (by kernel_rfl) (fun _ _ _ h => h) (Or.inl ⟨by rfl, ?_⟩) (by assumption) ?_; rotate_left; · (intro wq hSq; have hq := HCT.out wq hSq; go_split_ands; go_simp; (try with_reducible rfl))
              try simp only [Act.put, getElem_toArray, getElem_cons_zero, getElem_cons_succ, setIfInBounds_toArray, set_cons_zero, set_cons_succ]
              refine wpAnyH_done (by kernel_rfl) ?_ _
              have hB6 := Lib.hid (heap_new w6 (.cells #[.int .u16 x.idx, .int .u8 x.sub, .int .i64 x.acc, .bool x.mp, .bool x.lim, .int .i64 x.mn.ty, .int .u64 x.mn.n, .string (strB2 x.mn.b), .int .i64 x.mx.ty, .int .u64 x.mx.n, .string (strB2 x.mx.b), .int .i64 x.df.ty, .int .u64 x.df.n, .string (strB2 x.df.b)] 59))
              have hyF := Lib.hid (hH6.alloc (.cells #[.int .u16 x.idx, .int .u8 x.sub, .int .i64 x.acc, .bool x.mp, .bool x.lim, .int .i64 x.mn.ty, .int .u64 x.mn.n, .string (strB2 x.mn.b), .int .i64 x.mx.ty, .int .u64 x.mx.n, .string (strB2 x.mx.b), .int .i64 x.df.ty, .int .u64 x.df.n, .string (strB2 x.df.b)] 59))
              have hs6 := Lib.hid hH6.size
              clear hHeld hH6 hF6
              go_wp2_with fail
              go_meet
              exact ⟨_, rfl, rfl, hB6.out, hyF.out, hs6.out⟩
            · try simp only [getElem_toArray, getElem_cons_zero, getElem_cons_succ]
              go_simp
              refine hK.out _ _ (hHeld.alloc _) (fun hHeld => ?_)
              clear hK K
              try simp only [Act.put, setIfInBounds_toArray, set_cons_zero, set_cons_succ]
              refine wpAnyH_ready (rs := [14]) (by kernel_rfl) (by simp) ?_
              refine AllReadyH.cons rfl (fun K hK => ?_) AllReadyH.nil
              try simp only [getElem_toArray, getElem_cons_zero, getElem_cons_succ]
              go_simp
              refine (HEM.out _ hHeld).mono ?_
              rintro e w6 ⟨rfl, hF6⟩
              have kz : w6.heap[wq.heap.size]? = some (.cells #[.int .u16 0, .int .u8 0, .int .i64 0, .bool false, .bool false, .int .i64 0, .int .u64 0, .string ⟨#[]⟩, .int .i64 0, .int .u64 0, .string ⟨#[]⟩, .int .i64 0, .int .u64 0, .string ⟨#[]⟩] 59 (0, 0)) := hF6.heap (by first | exact heap_new wq.drew _ | exact heap_drew' (heap_new wq _) | exact heap_drew' (heap_new_at rfl)) (fun h => h)
              go_wp2_with fail
              refine hK.out _ _ (hHeld.trans' hF6) (fun hHeld => ?_)
              clear hK K
              try simp only [Act.put, setIfInBounds_toArray, set_cons_zero, set_cons_succ]
              refine wpAnyH_take (i := 15) (v := ?_) rfl (by kernel_rfl) (by kernel_rfl) (by kernel_rfl) (fun _ _ _ h => h) (Or.inl ⟨by rfl, ?_⟩) (by assumption) ?_; rotate_left; · (intro wq hSq; have hq := HCT.out wq hSq; go_split_ands; go_simp; (try with_reducible rfl))
              try simp only [Act.put, getElem_toArray, getElem_cons_zero, getElem_cons_succ, setIfInBounds_toArray, set_cons_zero, set_cons_succ]
              refine wpAnyH_take (i := 16) (v := ?_) rfl (by kernel_rfl) (by kernel_rfl) (by kernel_rfl) (fun _ _ _ h => h) (Or.inl ⟨by rfl, ?_⟩) (by assumption) ?_; rotate_left; · (intro wq hSq; have hq := HCT.out wq hSq; go_split_ands; go_simp; (try with_reducible rfl))
              try simp only [Act.put, getElem_toArray, getElem_cons_zero, getElem_cons_succ, setIfInBounds_toArray, set_cons_zero, set_cons_succ]
              refine wpAnyH_take (i := 17) (v := ?_) rfl (by kernel_rfl) (by kernel_rfl) (by kernel_rfl) (fun _ _ _ h => h) (Or.inl ⟨by rfl, ?_⟩) (by assumption) ?_; rotate_left; · (intro wq hSq; have hq := HCT.out wq hSq; go_split_ands; go_simp; (try with_reducible rfl))
              try simp only [Act.put, getElem_toArray, getElem_cons_zero, getElem_cons_succ, setIfInBounds_toArray, set_cons_zero, set_cons_succ]
              have n0 : w6.cell? ⟨wq.heap.size, 0, none⟩ = some (.int .u16 0) := cell_at kz
              have n1 : w6.cell? ⟨wq.heap.size, 1, none⟩ = some (.int .u8 0) := cell_at kz
              have n2 : w6.cell? ⟨wq.heap.size, 2, none⟩ = some (.int .i64 0) := cell_at kz
              have n3 : w6.cell? ⟨wq.heap.size, 3, none⟩ = some (.bool false) := cell_at kz
              have n4 : w6.cell? ⟨wq.heap.size, 4, none⟩ = some (.bool false) := cell_at kz
              have n5 : w6.cell? ⟨wq.heap.size, 5, none⟩ = some (.int .i64 0) := cell_at kz
              have n6 : w6.cell? ⟨wq.heap.size, 6, none⟩ = some (.int .u64 0) := cell_at kz
              have n7 : w6.cell? ⟨wq.heap.size, 7, none⟩ = some (.string ⟨#[]⟩) := cell_at kz
              have n8 : w6.cell? ⟨wq.heap.size, 8, none⟩ = some (.int .i64 0) := cell_at kz
              have n9 : w6.cell? ⟨wq.heap.size, 9, none⟩ = some (.int .u64 0) := cell_at kz
              have n10 : w6.cell? ⟨wq.heap.size, 10, none⟩ = some (.string ⟨#[]⟩) := cell_at kz
              have n11 : w6.cell? ⟨wq.heap.size, 11, none⟩ = some (.int .i64 0) := cell_at kz
              have n12 : w6.cell? ⟨wq.heap.size, 12, none⟩ = some (.int .u64 0) := cell_at kz
              have n13 : w6.cell? ⟨wq.heap.size, 13, none⟩ = some (.string ⟨#[]⟩) := cell_at kz
              have nf := frees kz
              refine wpAnyH_ready (rs := [19]) (by kernel_rfl) (by simp) ?_
              refine AllReadyH.cons rfl (fun K hK => ?_) AllReadyH.nil
              try simp only [getElem_toArray, getElem_cons_zero, getElem_cons_succ]
              go_simp
              refine hK.out _ _ (by (repeat' (first | (with_reducible exact Frm.refl _ _) | (with_reducible assumption) | (with_reducible refine Frm.alloc ?_ _) | (with_reducible refine Frm.drew ?_) | (with_reducible refine Frm.drewN ?_ _) | (with_reducible refine Frm.set1 ?_ _) | (with_reducible refine Frm.setCell ?_ ?_ _) | (exact fun h => absurd h (Nat.lt_irrefl _)) | (intro hlt; simp [World.size_alloc, One] at hlt ⊢; omega)))) (fun hHeld => ?_)
              clear hK K
              try simp only [Act.put, setIfInBounds_toArray, set_cons_zero, set_cons_succ]
              refine wpAnyH_take (i := 20) (v := ?_) rfl (by kernel_rfl) (by kernel_rfl) (by kernel_rfl) (fun _ _ _ h => h) (Or.inl ⟨by rfl, ?_⟩) (by assumption) ?_; rotate_left; · (intro wq hSq; have hq := HCT.out wq hSq; go_split_ands; go_simp; (try with_reducible rfl))
              try simp only [Act.put, getElem_toArray, getElem_cons_zero, getElem_cons_succ, setIfInBounds_toArray, set_cons_zero, set_cons_succ]
              refine wpAnyH_done (by kernel_rfl) ?_ _
              have hB6 := Lib.hid (store14a (c0 := .int .u16 x.idx) (c1 := .int .u8 x.sub) (c2 := .int .i64 x.acc) (c3 := .bool x.mp) (c4 := .bool x.lim) (c5 := .int .i64 x.mn.ty) (c6 := .int .u64 x.mn.n) (c7 := .string (strB2 x.mn.b)) (c8 := .int .i64 x.mx.ty) (c9 := .int .u64 x.mx.n) (c10 := .string (strB2 x.mx.b)) (c11 := .int .i64 x.df.ty) (c12 := .int .u64 x.df.n) (c13 := .string (strB2 x.df.b)) kz)
              have hyF := Lib.hid hHeld
              clear hHeld hF6 kz n0 n1 n2 n3 n4 n5 n6 n7 n8 n9 n10 n11 n12 n13 nf
              go_wp2_with fail
              go_meet
              exact ⟨_, rfl, rfl, hB6.out, hyF.out, Nat.le_refl _⟩
          case rest =>
            obtain ⟨ge, rfl, rfl, hB, hFc, -⟩ := hcut
            have c2 : wc.cell? ⟨ge, 2, none⟩ = some (.int .i64 x.acc) := cell_at hB
            have hgel := lt_of_block hB
            have HFK0 := HFK
            have HFK := Lib.hid (HFK0.out.trans' hFc)
            have HAGW := Lib.hid (fun Wx (h : Frm (fun _ => False) wc Wx) => HAG.out Wx ((HFW7.out.trans' HFK.out).trans' h))
            generalize x.acc = acc at *
            clear HFK0 hB hFc HCN HEM HAG HCT
            cases qk with
            | true =>
              have hd := HDU.out
              have hac : acc = 1 := by
                by_cases h : acc = 1
                · exact h
                · simp [h] at hd
              subst hac
              have hag : ag = false := by simpa using hd
              subst hag
              obtain ⟨hc, he⟩ := HYES.out rfl
              obtain ⟨gd, rfl, _, ⟨cud, hcud⟩, _, hcd⟩ := HQ7.out (by omega)
              have hi0 : wc.cell? ⟨gd, at', none⟩ = some (.int .i64 (k : Int)) := by
                refine HFK.out.cell (p := ⟨gd, at', none⟩) ?_ (fun h => h)
                rw [hcd at' (by omega), List.getElem?_map, List.getElem?_eq_getElem hc, he]
                rfl
              have hgd := Nat.lt_of_lt_of_le (lt_of_block hcud) HFK.out.size
              have hA : (at' : Int) < (Q.length : Int) := by omega
              have HNX : Hid (cntQ (dueT D ys) (k + 1) = at' + 1) := HSUC.out
              clear hd hc he hcud hcd HDU HSUC HYES HNO
              go_wp2_with (go_at_call 27; refine (HAGW.out _ (Frm.refl _ _)).mono ?_; rintro e w7 ⟨rfl, hF7⟩; have HF7 := Lib.hid hF7; clear hF7)
              go_roundw
              case rel => exact ⟨k + 1, HKL.out, by go_num, by rw [HNX.out]; go_num, HFK.out.trans' HF7.out⟩
              case measure => have := HKL.out; simp [intOf]; omega
            | false =>
              have hd := HDU.out
              have HNX : Hid (cntQ (dueT D ys) (k + 1) = at') := HSUC.out
              by_cases hc : at' < Q.length
              · have hne := HNO.out rfl hc
                obtain ⟨gd, rfl, _, ⟨cud, hcud⟩, _, hcd⟩ := HQ7.out (by omega)
                have hi0 : wc.cell? ⟨gd, at', none⟩ = some (.int .i64 ((Q[at'] : Nat) : Int)) := by
                  refine HFK.out.cell (p := ⟨gd, at', none⟩) ?_ (fun h => h)
                  rw [hcd at' (by omega), List.getElem?_map, List.getElem?_eq_getElem hc]
                  rfl
                have hgd := Nat.lt_of_lt_of_le (lt_of_block hcud) HFK.out.size
                have hA : (at' : Int) < (Q.length : Int) := by omega
                generalize Q[at'] = qv at *
                have hB : ((qv : Int) == (k : Int)) = false := by simpa using fun h : (qv : Int) = (k : Int) => hne (by omega)
                clear hne hc hcud hcd HDU HSUC HYES HNO
                by_cases hac : acc = 1
                · subst hac
                  have hag : ag = true := by simpa using hd
                  subst hag
                  clear hd
                  go_wp2_with (go_at_call 27; refine (HAGW.out _ (Frm.refl _ _)).mono ?_; rintro e w7 ⟨rfl, hF7⟩; have HF7 := Lib.hid hF7; clear hF7)
                  go_roundw
                  case rel => exact ⟨k + 1, HKL.out, by go_num, by rw [HNX.out], HFK.out.trans' HF7.out⟩
                  case measure => have := HKL.out; simp [intOf]; omega
                · have b2 : (acc == 1) = false := by simpa using hac
                  clear hac hd
                  go_wp2_with fail
                  go_roundw
                  case rel => exact ⟨k + 1, HKL.out, by go_num, by rw [HNX.out], HFK.out⟩
                  case measure => have := HKL.out; simp [intOf]; omega
              · have hA : ¬ (at' : Int) < (Q.length : Int) := by omega
                clear hc HDU HSUC HYES HNO
                by_cases hac : acc = 1
                · subst hac
                  have hag : ag = true := by simpa using hd
                  subst hag
                  clear hd
                  go_wp2_with (go_at_call 27; refine (HAGW.out _ (Frm.refl _ _)).mono ?_; rintro e w7 ⟨rfl, hF7⟩; have HF7 := Lib.hid hF7; clear hF7)
                  go_roundw
                  case rel => exact ⟨k + 1, HKL.out, by go_num, by rw [HNX.out], HFK.out.trans' HF7.out⟩
                  case measure => have := HKL.out; simp [intOf]; omega
                · have b2 : (acc == 1) = false := by simpa using hac
                  clear hac hd
                  go_wp2_with fail
                  go_roundw
                  case rel => exact ⟨k + 1, HKL.out, by go_num, by rw [HNX.out], HFK.out⟩
                  case measure => have := HKL.out; simp [intOf]; omega
        · have hkn : k = is.length := by omega
          subst hkn
          have HFK := Lib.hid hF
          have HCN : Hid (cntQ (dueT D ys) is.length = Q.length) := by unfold Hid; rw [HQD.out]; rfl
          rw [HCN.out]
          clear hF
          go_wp2_with (go_at_call 19; refine (HLV.out _).mono ?_; rintro e w4 ⟨rfl, hF4⟩)
          go_ret
          exact ⟨rfl, HFW7.out.trans' (HFK.out.trans' hF4)⟩
end Go.Proofs.YtemjdmgfilbfaaaGreat
