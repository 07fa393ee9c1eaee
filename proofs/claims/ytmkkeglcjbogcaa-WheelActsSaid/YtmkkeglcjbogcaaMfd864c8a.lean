/-
  WheelActs: an act by the program and by the document. WheelActs: the law. From a walk to a law's row: the arguments, opened; the row, closed.
-/
import Derived.Test.YtmkkeglcjbogcaaRows
import Derived.HandedShaped
import Derived.Deep.CondSized
import Derived.JoinedCond
import Derived.Deep.Slices
import Derived.Test.YtmkkeglcjbogcaaM8a68ef77
import Derived.Test.YtmkkeglcjbogcaaMad794d42
set_option linter.unusedVariables false
set_option linter.unusedSimpArgs false
namespace Go.Proofs.Ytmkkeglcjbogcaa
open Go.RowKit
open List (getElem_toArray getElem_cons_zero getElem_cons_succ setIfInBounds_toArray set_cons_zero set_cons_succ)
set_option linter.unusedVariables false
set_option linter.unusedSimpArgs false

def DoesWPost (W : World) (p n bw : Nat) (bs : List Nat) (d k : Nat) (e : Ending) (w' : World) : Prop := ∃ v' s', e = .returned (.bool true) ∧ DuoR W w' p n bw bs d v' s' ∧ s'.used 1048576 (k + 1)
set_option maxRecDepth 100000 in
set_option maxHeartbeats 4000000 in
theorem wdoes_any (W w : World) (p n bw : Nat) (bs : List Nat) (d : Nat) (v : Value) (s : Wh) (k : Nat) (kind timer what aa bb : Int) (h : DuoR W w p n bw bs d v s) (hu : s.used 1048576 k) (hf : s.fits) (haa : 0 ≤ aa) (hbb : 0 ≤ bb) :
    Calls Try.prog 54 #[ptrW p, ptrW d, .agg #[.int .i64 kind, .int .i64 timer, .int .i64 what, .int .u64 aa, .int .u64 bb]] w (DoesWPost W p n bw bs d k) := by
  have HD0 := Lib.hid h
  have HU := Lib.hid hu
  have HFT := Lib.hid hf
  unfold ptrW
  clear h hu hf
  go_enter Try.func54, Try.ntmps54
  go_upto_region 1 with fail
  have hwb : Frm (fun _ => False) w (w.alloc (.cells #[.int .i64 kind, .int .i64 timer, .int .i64 what, .int .u64 aa, .int .u64 bb] 99 (0, 0))) := (Frm.refl _ _).alloc _
  have hbx : (w.alloc (.cells #[.int .i64 kind, .int .i64 timer, .int .i64 what, .int .u64 aa, .int .u64 bb] 99 (0, 0))).heap[w.heap.size]? = some (.cells #[.int .i64 kind, .int .i64 timer, .int .i64 what, .int .u64 aa, .int .u64 bb] 99 (0, 0)) := heap_new w _
  obtain ⟨wb, hwbe⟩ : ∃ wb, wb = w.alloc (.cells #[.int .i64 kind, .int .i64 timer, .int .i64 what, .int .u64 aa, .int .u64 bb] 99 (0, 0)) := ⟨_, rfl⟩
  rw [← hwbe] at hwb hbx ⊢
  have hdb := HD0.out.grow hwb
  have HDB := Lib.hid hdb
  have hnw : ¬ WhS p bw bs w.heap.size := hdb.a1.row_not hbx (by decide)
  have HX := Lib.hid (fun (w3 : World) (hF : Frm (WhS p bw bs) wb w3) => hF.heap hbx hnw)
  have x0 : wb.cell? ⟨w.heap.size, 0, none⟩ = some (.int .i64 kind) := cell_at hbx
  have x1 : wb.cell? ⟨w.heap.size, 1, none⟩ = some (.int .i64 timer) := cell_at hbx
  have x2 : wb.cell? ⟨w.heap.size, 2, none⟩ = some (.int .i64 what) := cell_at hbx
  have x3 : wb.cell? ⟨w.heap.size, 3, none⟩ = some (.int .u64 aa) := cell_at hbx
  have x4 : wb.cell? ⟨w.heap.size, 4, none⟩ = some (.int .u64 bb) := cell_at hbx
  have hnd : ¬ One d w.heap.size := fun e => by
    have e : w.heap.size = d := e
    have := lt_of_block HD0.out.a2.cell
    omega
  have HC1 := Lib.hid (fun W (h : Frm (fun k => WhS p bw bs k ∨ One d k) wb W) => h.cell x1 (fun e => e.elim hnw hnd))
  have HC3 := Lib.hid (fun W (h : Frm (fun k => WhS p bw bs k ∨ One d k) wb W) => h.cell x3 (fun e => e.elim hnw hnd))
  clear hwbe hwb hbx hdb hnw hnd
  by_cases e0 : kind = 0
  · subst e0
    obtain ⟨s', m, g', hr⟩ : ∃ s' m g', s.add aa what = (s', m, g') := ⟨_, _, _, rfl⟩
    have HU2 := Lib.hid (add_used aa what HU.out)
    rw [hr] at HU2
    have HA1 := Lib.hid (wadd_any wb p n bw bs s aa what HDB.out.a1 HFT.out)
    rw [hr] at HA1
    have HA2 := Lib.hid (fun w3 (h3 : RWAt w3 d v s) => radd_any w3 d v s aa 0 what false h3 HFT.out)
    have hr2 : s.radd aa 0 false what = (s', m, g') := by unfold Wh.radd; simpa using hr
    rw [hr2] at HA2
    unfold ptrW at HA1 HA2
    clear hr hr2 x1
    go_wp2_with (first
      | (go_at_call 44; refine HA1.out.mono ?_; rintro e w3 ⟨rfl, hA3, hF3⟩; have hx3 := HX.out w3 hF3; have y2 : w3.cell? ⟨w.heap.size, 2, none⟩ = some (.int .i64 what) := cell_at hx3; have y3 : w3.cell? ⟨w.heap.size, 3, none⟩ = some (.int .u64 aa) := cell_at hx3; have HB1 := Lib.hid (HA2.out w3 (HDB.out.one hF3)); have HA3 := Lib.hid hA3; have HF3 := Lib.hid hF3; clear hA3 hF3 hx3)
      | (go_at_call 83; refine HB1.out.mono ?_; rintro e w4 ⟨rfl, v4, hA4, hF4⟩; have HA4 := Lib.hid hA4; have HF4 := Lib.hid hF4; clear hA4 hF4))
    go_ret
    exact ⟨v4, s', by simp, HDB.out.two HA3.out HF3.out HA4.out HF4.out, HU2.out⟩
  have g0 : (kind == 0) = false := by simp [e0]
  by_cases e1 : kind = 1
  · subst e1
    obtain ⟨s', m, g', hr⟩ : ∃ s' m g', s.every aa bb what = (s', m, g') := ⟨_, _, _, rfl⟩
    have HU2 := Lib.hid (every_used aa bb what HU.out)
    rw [hr] at HU2
    have HA1 := Lib.hid (wevery_any wb p n bw bs s aa bb what HDB.out.a1 HFT.out)
    rw [hr] at HA1
    have HA2 := Lib.hid (fun w3 (h3 : RWAt w3 d v s) => radd_any w3 d v s aa bb what true h3 HFT.out)
    have hr2 : s.radd aa bb true what = (s', m, g') := by unfold Wh.radd; simpa using hr
    rw [hr2] at HA2
    unfold ptrW at HA1 HA2
    clear hr hr2 x1 g0 e0
    go_wp2_with (first
      | (go_at_call 45; refine HA1.out.mono ?_; rintro e w3 ⟨rfl, hA3, hF3⟩; have hx3 := HX.out w3 hF3; have y2 : w3.cell? ⟨w.heap.size, 2, none⟩ = some (.int .i64 what) := cell_at hx3; have y3 : w3.cell? ⟨w.heap.size, 3, none⟩ = some (.int .u64 aa) := cell_at hx3; have y4 : w3.cell? ⟨w.heap.size, 4, none⟩ = some (.int .u64 bb) := cell_at hx3; have HB1 := Lib.hid (HA2.out w3 (HDB.out.one hF3)); have HA3 := Lib.hid hA3; have HF3 := Lib.hid hF3; clear hA3 hF3 hx3)
      | (go_at_call 83; refine HB1.out.mono ?_; rintro e w4 ⟨rfl, v4, hA4, hF4⟩; have HA4 := Lib.hid hA4; have HF4 := Lib.hid hF4; clear hA4 hF4))
    go_ret
    exact ⟨v4, s', by simp, HDB.out.two HA3.out HF3.out HA4.out HF4.out, HU2.out⟩
  have g1 : (kind == 1) = false := by simp [e1]
  by_cases e2 : kind = 2
  · subst e2
    obtain ⟨s', m, hr⟩ : ∃ s' m, s.cancel timer = (s', m) := ⟨_, _, rfl⟩
    have HU2 := Lib.hid (cancel_used timer HU.out)
    rw [hr] at HU2
    have HA1 := Lib.hid (wcancel_any wb.drew p n bw bs s timer (HDB.out.a1.grow ((Frm.refl _ _).drew)) HFT.out.ok)
    rw [hr] at HA1
    have HA2 := Lib.hid (fun w3 (h3 : RWAt w3 d v s) => rcancel_any w3 d v s timer h3 HFT.out.ok)
    rw [hr] at HA2
    unfold ptrW at HA1 HA2
    clear hr g0 e0 e1 x1 x2 x3 x4
    go_wp2_with fail
    refine wp_region_held_drew (S := fun W => Frm (fun k => WhS p bw bs k ∨ One d k) wb W) (by kernel_rfl) ((Frm.refl _ _).drew) (fun hHeld => ?_)
    refine wpAnyH_take (i := 0) (v := ?_) rfl (by kernel_rfl) (by kernel_rfl) (by kernel_rfl) (fun _ _ _ h => h) (Or.inl ⟨by rfl, ?_⟩) (by assumption) ?_; rotate_left; · (intro wq hSq; have hq := HC1.out wq hSq; go_split_ands; go_simp; (try with_reducible rfl))
    try simp only [Act.put, getElem_toArray, getElem_cons_zero, getElem_cons_succ, setIfInBounds_toArray, set_cons_zero, set_cons_succ]
    refine wpAnyH_take (i := 1) (v := ?_) rfl (by kernel_rfl) (by kernel_rfl) (by kernel_rfl) (fun _ _ _ h => h) (Or.inl ⟨by rfl, ?_⟩) (by assumption) ?_; rotate_left; · (intro wq hSq; have hq := HC1.out wq hSq; go_split_ands; go_simp; (try with_reducible rfl))
    try simp only [Act.put, getElem_toArray, getElem_cons_zero, getElem_cons_succ, setIfInBounds_toArray, set_cons_zero, set_cons_succ]
    refine wpAnyH_take (i := 2) (v := ?_) rfl (by kernel_rfl) (by kernel_rfl) (by kernel_rfl) (fun _ _ _ h => h) (Or.inl ⟨by rfl, ?_⟩) (by assumption) ?_; rotate_left; · (intro wq hSq; have hq := HC1.out wq hSq; go_split_ands; go_simp; (try with_reducible rfl))
    try simp only [Act.put, getElem_toArray, getElem_cons_zero, getElem_cons_succ, setIfInBounds_toArray, set_cons_zero, set_cons_succ]
    refine wpAnyH_take (i := 4) (v := ?_) rfl (by kernel_rfl) (by kernel_rfl) (by kernel_rfl) (fun _ _ _ h => h) (Or.inl ⟨by rfl, ?_⟩) (by assumption) ?_; rotate_left; · (intro wq hSq; have hq := HC1.out wq hSq; go_split_ands; go_simp; (try with_reducible rfl))
    try simp only [Act.put, getElem_toArray, getElem_cons_zero, getElem_cons_succ, setIfInBounds_toArray, set_cons_zero, set_cons_succ]
    refine wpAnyH_take (i := 5) (v := ?_) rfl (by kernel_rfl) (by kernel_rfl) (by kernel_rfl) (fun _ _ _ h => h) (Or.inl ⟨by rfl, ?_⟩) (by assumption) ?_; rotate_left; · (intro wq hSq; have hq := HC1.out wq hSq; go_split_ands; go_simp; (try with_reducible rfl))
    try simp only [Act.put, getElem_toArray, getElem_cons_zero, getElem_cons_succ, setIfInBounds_toArray, set_cons_zero, set_cons_succ]
    refine wpAnyH_take (i := 6) (v := ?_) rfl (by kernel_rfl) (by kernel_rfl) (by kernel_rfl) (fun _ _ _ h => h) (Or.inl ⟨by rfl, ?_⟩) (by assumption) ?_; rotate_left; · (intro wq hSq; have hq := HC1.out wq hSq; go_split_ands; go_simp; (try with_reducible rfl))
    try simp only [Act.put, getElem_toArray, getElem_cons_zero, getElem_cons_succ, setIfInBounds_toArray, set_cons_zero, set_cons_succ]
    refine wpAnyH_ready (rs := [3]) (by kernel_rfl) (by simp) ?_
    refine AllReadyH.cons rfl (fun K hK => ?_) AllReadyH.nil
    try simp only [getElem_toArray, getElem_cons_zero, getElem_cons_succ]
    go_simp
    refine HA1.out.mono ?_
    rintro e w3 ⟨rfl, hA3, hF3⟩
    have HB1 := Lib.hid (HA2.out w3 ((HDB.out.grow ((Frm.refl _ _).drew)).one hF3))
    have HA3 := Lib.hid hA3
    have HF3 := Lib.hid hF3
    clear hA3 hF3
    go_wp2_with fail
    refine hK.out _ _ (hHeld.trans HF3.out (fun _ _ h => .inl h)) (fun hHeld => ?_)
    clear hK K
    try simp only [Act.put, setIfInBounds_toArray, set_cons_zero, set_cons_succ]
    refine wpAnyH_ready (rs := [7]) (by kernel_rfl) (by simp) ?_
    refine AllReadyH.cons rfl (fun K hK => ?_) AllReadyH.nil
    try simp only [getElem_toArray, getElem_cons_zero, getElem_cons_succ]
    go_simp
    refine HB1.out.mono ?_
    rintro e w4 ⟨rfl, v4, hA4, hF4⟩
    have HA4 := Lib.hid hA4
    have HF4 := Lib.hid hF4
    clear hA4 hF4
    go_wp2_with fail
    refine hK.out _ _ (hHeld.trans HF4.out (fun _ _ h => .inr h)) (fun hHeld => ?_)
    clear hK K
    try simp only [Act.put, setIfInBounds_toArray, set_cons_zero, set_cons_succ]
    refine wpAnyH_take (i := 8) (v := ?_) rfl (by kernel_rfl) (by kernel_rfl) (by kernel_rfl) (fun _ _ _ h => h) (Or.inl ⟨by rfl, ?_⟩) (by assumption) ?_; rotate_left; · (intro wq hSq; have hq := (fun _ _ => trivial) wq hSq; go_split_ands; go_simp; (try with_reducible rfl))
    try simp only [Act.put, getElem_toArray, getElem_cons_zero, getElem_cons_succ, setIfInBounds_toArray, set_cons_zero, set_cons_succ]
    refine wpAnyH_take (i := 9) (v := ?_) rfl (by kernel_rfl) (by kernel_rfl) (by kernel_rfl) (fun _ _ _ h => h) (Or.inl ⟨by rfl, ?_⟩) (by assumption) ?_; rotate_left; · (intro wq hSq; have hq := (fun _ _ => trivial) wq hSq; go_split_ands; go_simp; (try with_reducible rfl))
    try simp only [Act.put, getElem_toArray, getElem_cons_zero, getElem_cons_succ, setIfInBounds_toArray, set_cons_zero, set_cons_succ]
    refine wpAnyH_done (by kernel_rfl) ?_ _
    go_wp2_with fail
    go_ret
    exact ⟨v4, s', by simp, (HDB.out.grow ((Frm.refl _ _).drew)).two HA3.out HF3.out HA4.out HF4.out, HU2.out⟩
  have g2 : (kind == 2) = false := by simp [e2]
  by_cases e3 : kind = 3
  · subst e3
    obtain ⟨m, g', hr⟩ : ∃ m g', s.left timer = (m, g') := ⟨_, _, rfl⟩
    have HA1 := Lib.hid (wleft_any wb p n bw bs s timer HDB.out.a1 HFT.out)
    rw [hr] at HA1
    have HA2 := Lib.hid (fun w3 (h3 : RWAt w3 d v s) => rwleft_any w3 d v s timer h3 HFT.out.ok)
    unfold LeftPost at HA2
    rw [hr] at HA2
    unfold ptrW at HA1 HA2
    clear hr g0 e0 e1 e2 g1 x2 x3 x4
    go_wp2_with (first
      | (go_at_call 52; refine HA1.out.mono ?_; rintro e w3 ⟨rfl, hF3⟩; have y1 : w3.cell? ⟨w.heap.size, 1, none⟩ = some (.int .i64 timer) := hF3.cell x1 (fun h => h); have HB1 := Lib.hid (HA2.out w3 (HDB.out.a2.grow hF3)); have HF3 := Lib.hid hF3; clear hF3)
      | (go_at_call 85; refine HB1.out.mono ?_; rintro e w4 ⟨rfl, rfl⟩))
    go_ret
    exact ⟨v, s, by simp, HDB.out.grow HF3.out, HU.out.le⟩
  have g3 : (kind == 3) = false := by simp [e3]
  by_cases e4 : kind = 4
  · subst e4
    obtain ⟨s', told, hr⟩ : ∃ s' told, s.tick aa = (s', told) := ⟨_, _, rfl⟩
    have HU2 := Lib.hid (tick_used aa HU.out haa (by omega))
    rw [hr] at HU2
    have HA1 := Lib.hid (wtick_any wb.drew p n bw bs s aa (HDB.out.a1.grow ((Frm.refl _ _).drew)) HFT.out haa)
    rw [hr] at HA1
    have HA2 := Lib.hid (fun w3 (h3 : RWAt w3 d v s) => rwtick_any w3 d v s aa h3 HFT.out haa)
    rw [hr] at HA2
    unfold ptrW at HA1 HA2
    clear hr g0 e0 e1 e2 e3 g1 g2 x1 x2 x3 x4
    go_wp2_with fail
    refine wp_region_held_drew (S := fun W => Frm (fun k => WhS p bw bs k ∨ One d k) wb W) (by kernel_rfl) ((Frm.refl _ _).drew) (fun hHeld => ?_)
    refine wpAnyH_take (i := 0) (v := ?_) rfl (by kernel_rfl) (by kernel_rfl) (by kernel_rfl) (fun _ _ _ h => h) (Or.inl ⟨by rfl, ?_⟩) (by assumption) ?_; rotate_left; · (intro wq hSq; have hq := HC3.out wq hSq; go_split_ands; go_simp; (try with_reducible rfl))
    try simp only [Act.put, getElem_toArray, getElem_cons_zero, getElem_cons_succ, setIfInBounds_toArray, set_cons_zero, set_cons_succ]
    refine wpAnyH_take (i := 1) (v := ?_) rfl (by kernel_rfl) (by kernel_rfl) (by kernel_rfl) (fun _ _ _ h => h) (Or.inl ⟨by rfl, ?_⟩) (by assumption) ?_; rotate_left; · (intro wq hSq; have hq := HC3.out wq hSq; go_split_ands; go_simp; (try with_reducible rfl))
    try simp only [Act.put, getElem_toArray, getElem_cons_zero, getElem_cons_succ, setIfInBounds_toArray, set_cons_zero, set_cons_succ]
    refine wpAnyH_take (i := 2) (v := ?_) rfl (by kernel_rfl) (by kernel_rfl) (by kernel_rfl) (fun _ _ _ h => h) (Or.inl ⟨by rfl, ?_⟩) (by assumption) ?_; rotate_left; · (intro wq hSq; have hq := HC3.out wq hSq; go_split_ands; go_simp; (try with_reducible rfl))
    try simp only [Act.put, getElem_toArray, getElem_cons_zero, getElem_cons_succ, setIfInBounds_toArray, set_cons_zero, set_cons_succ]
    refine wpAnyH_take (i := 4) (v := ?_) rfl (by kernel_rfl) (by kernel_rfl) (by kernel_rfl) (fun _ _ _ h => h) (Or.inl ⟨by rfl, ?_⟩) (by assumption) ?_; rotate_left; · (intro wq hSq; have hq := HC3.out wq hSq; go_split_ands; go_simp; (try with_reducible rfl))
    try simp only [Act.put, getElem_toArray, getElem_cons_zero, getElem_cons_succ, setIfInBounds_toArray, set_cons_zero, set_cons_succ]
    refine wpAnyH_take (i := 5) (v := ?_) rfl (by kernel_rfl) (by kernel_rfl) (by kernel_rfl) (fun _ _ _ h => h) (Or.inl ⟨by rfl, ?_⟩) (by assumption) ?_; rotate_left; · (intro wq hSq; have hq := HC3.out wq hSq; go_split_ands; go_simp; (try with_reducible rfl))
    try simp only [Act.put, getElem_toArray, getElem_cons_zero, getElem_cons_succ, setIfInBounds_toArray, set_cons_zero, set_cons_succ]
    refine wpAnyH_take (i := 6) (v := ?_) rfl (by kernel_rfl) (by kernel_rfl) (by kernel_rfl) (fun _ _ _ h => h) (Or.inl ⟨by rfl, ?_⟩) (by assumption) ?_; rotate_left; · (intro wq hSq; have hq := HC3.out wq hSq; go_split_ands; go_simp; (try with_reducible rfl))
    try simp only [Act.put, getElem_toArray, getElem_cons_zero, getElem_cons_succ, setIfInBounds_toArray, set_cons_zero, set_cons_succ]
    refine wpAnyH_ready (rs := [3]) (by kernel_rfl) (by simp) ?_
    refine AllReadyH.cons rfl (fun K hK => ?_) AllReadyH.nil
    try simp only [getElem_toArray, getElem_cons_zero, getElem_cons_succ]
    go_simp
    refine HA1.out.mono ?_
    rintro e w3 ⟨v3, rfl, hA3, hr3, hF3⟩
    have hA2 := (HDB.out.grow ((Frm.refl _ _).drew)).one hF3
    have HB1 := Lib.hid (HA2.out w3 hA2)
    have HA3 := Lib.hid hA3
    have HF3 := Lib.hid hF3
    have HR3 := Lib.hid (fun (w4 : World) (hF4 : Frm (One d) w3 w4) => (hF4.row hr3 (fun j hj e => by
      have e : j = d := e
      subst e
      obtain ⟨cur, hcur⟩ := hr3.blk hj
      rw [hA2.cell] at hcur
      cases hcur) : RowI w4 _ v3 told))
    clear hA3 hF3 hA2 hr3
    go_wp2_with fail
    refine hK.out _ _ (hHeld.trans HF3.out (fun _ _ h => .inl h)) (fun hHeld => ?_)
    clear hK K
    try simp only [Act.put, setIfInBounds_toArray, set_cons_zero, set_cons_succ]
    refine wpAnyH_ready (rs := [7]) (by kernel_rfl) (by simp) ?_
    refine AllReadyH.cons rfl (fun K hK => ?_) AllReadyH.nil
    try simp only [getElem_toArray, getElem_cons_zero, getElem_cons_succ]
    go_simp
    refine HB1.out.mono ?_
    rintro e w4 ⟨v4, vl4, rfl, hA4, hr4, hF4⟩
    have HSM := Lib.hid (wsame_any w4 _ _ v3 v4 told (HR3.out w4 hF4) hr4)
    have HA4 := Lib.hid hA4
    have HF4 := Lib.hid hF4
    clear hA4 hF4 hr4
    go_wp2_with fail
    refine hK.out _ _ (hHeld.trans HF4.out (fun _ _ h => .inr h)) (fun hHeld => ?_)
    clear hK K
    try simp only [Act.put, setIfInBounds_toArray, set_cons_zero, set_cons_succ]
    refine wpAnyH_ready (rs := [8]) (by kernel_rfl) (by simp) ?_
    refine AllReadyH.cons rfl (fun K hK => ?_) AllReadyH.nil
    try simp only [getElem_toArray, getElem_cons_zero, getElem_cons_succ]
    go_simp
    refine HSM.out.mono ?_
    rintro e w5 ⟨rfl, hF5⟩
    have HF5 := Lib.hid hF5
    clear hF5
    go_wp2_with fail
    refine hK.out _ _ (hHeld.trans HF5.out (fun _ _ h => h.elim)) (fun hHeld => ?_)
    clear hK K
    try simp only [Act.put, setIfInBounds_toArray, set_cons_zero, set_cons_succ]
    refine wpAnyH_take (i := 9) (v := ?_) rfl (by kernel_rfl) (by kernel_rfl) (by kernel_rfl) (fun _ _ _ h => h) (Or.inl ⟨by rfl, ?_⟩) (by assumption) ?_; rotate_left; · (intro wq hSq; have hq := (fun _ _ => trivial) wq hSq; go_split_ands; go_simp; (try with_reducible rfl))
    try simp only [Act.put, getElem_toArray, getElem_cons_zero, getElem_cons_succ, setIfInBounds_toArray, set_cons_zero, set_cons_succ]
    refine wpAnyH_done (by kernel_rfl) ?_ _
    go_wp2_with fail
    go_ret
    exact ⟨vl4, s', rfl, ((HDB.out.grow ((Frm.refl _ _).drew)).two HA3.out HF3.out HA4.out HF4.out).grow HF5.out, HU2.out⟩
  have g4 : (kind == 4) = false := by simp [e4]
  by_cases e5 : kind = 5
  · subst e5
    obtain ⟨m, g', hr⟩ : ∃ m g', s.next = (m, g') := ⟨_, _, rfl⟩
    have HA1 := Lib.hid (wNext_any wb p n bw bs s HDB.out.a1 HFT.out)
    unfold NextPost at HA1
    rw [hr] at HA1
    have HA2 := Lib.hid (fun w3 (h3 : RWAt w3 d v s) => rwnext_any w3 d v s h3)
    rw [hr] at HA2
    unfold ptrW at HA1 HA2
    clear hr g0 e0 e1 e2 e3 e4 g1 g2 g3 x1 x2 x3 x4
    go_wp2_with (first
      | (go_at_call 87; refine HA1.out.mono ?_; rintro e w3 ⟨rfl, hF3⟩; have HB1 := Lib.hid (HA2.out w3 (HDB.out.a2.grow hF3)); have HF3 := Lib.hid hF3; clear hF3)
      | (go_at_call 88; refine HB1.out.mono ?_; rintro e w4 ⟨rfl, hF4⟩; have HF4 := Lib.hid hF4; clear hF4))
    go_ret
    exact ⟨v, s, by simp, HDB.out.grow (HF3.out.trans' HF4.out), HU.out.le⟩
  have g5 : (kind == 5) = false := by simp [e5]
  clear e0 e1 e2 e3 e4 e5 x1 x2 x3 x4
  go_wp2_with fail
  go_ret
  exact ⟨v, s, rfl, HDB.out, HU.out.le⟩
end Go.Proofs.Ytmkkeglcjbogcaa
namespace Go.Proofs.Ytmkkeglcjbogcaa
open Go.RowKit
open List (getElem_toArray getElem_cons_zero getElem_cons_succ setIfInBounds_toArray set_cons_zero set_cons_succ)
set_option linter.unusedVariables false
set_option linter.unusedSimpArgs false

/-- Behind the cut of an act's ticks. -/
def ActC (g k : Nat) (kind timer what bb : Int) (wb : World) (tk : Value) (wx : World) : Prop := ∃ t a' : Int, tk = .int .u64 t ∧ (0 ≤ t ∧ t ≤ (k : Int) + 1) ∧ 0 ≤ a' ∧ wx.heap[g]? = some (.cells #[.int .i64 kind, .int .i64 timer, .int .i64 what, .int .u64 a', .int .u64 bb] 99 (0, 0)) ∧ Frm (One g) wb wx
set_option maxRecDepth 100000 in
set_option maxHeartbeats 4000000 in
theorem wacts_no (x : Int) (v : Value) (W : World) (h : x < 1 ∨ 4096 < x) : Calls Try.prog 13 #[.int .i64 x, v] W fun e w' => e = .returned (.bool true) ∧ Frm (fun _ => False) W w' := by
  have HN := Lib.hid (wnew_no x W h)
  have HLV := Lib.hid (fun w => wlives_any w)
  rcases h with h | h
  · have g1 : decide (x < 1) = true := by simp [h]
    go_enter Try.func13, Try.ntmps13
    go_wp2_with (first | (go_at_call 43; refine HN.out.mono ?_; rintro e w1 ⟨rfl, rfl⟩) | (go_at_call 51; refine (HLV.out _).mono ?_; rintro e w9 ⟨rfl, hF9⟩))
    go_ret
    exact ⟨rfl, hF9⟩
  · have g1 : decide (x < 1) = false := by simp; omega
    have g2 : decide (4096 < x) = true := by simp [h]
    go_enter Try.func13, Try.ntmps13
    go_wp2_with (first | (go_at_call 43; refine HN.out.mono ?_; rintro e w1 ⟨rfl, rfl⟩) | (go_at_call 51; refine (HLV.out _).mono ?_; rintro e w9 ⟨rfl, hF9⟩))
    go_ret
    exact ⟨rfl, hF9⟩
set_option maxRecDepth 100000 in
set_option maxHeartbeats 4000000 in
theorem wacts_yes (x : Int) (v : Value) (l : List WAc) (W : World) (hx1 : 1 ≤ x) (hx2 : x ≤ 4096) (h : SlAt encW 5 W v l) (hg : ∀ x ∈ l, 0 ≤ x.a ∧ 0 ≤ x.b) (hl : l.length ≤ 4398046511104) :
    Calls Try.prog 13 #[.int .i64 x, v] W fun e w' => e = .returned (.bool true) ∧ Frm (fun _ => False) W w' := by
  obtain ⟨A, cap, rfl, hc1, hc2, hcell⟩ := h
  obtain ⟨n, hn⟩ : ∃ n, n = l.length := ⟨_, rfl⟩
  rw [← hn] at hc1 hl ⊢
  have HN := Lib.hid hn
  have HL := Lib.hid hl
  have HG := Lib.hid hg
  have HCI := Lib.hid hcell
  have hnm : n ≤ 9223372036854775807 := by omega
  have HN1 := Lib.hid (wnewI_any x W hx1 hx2)
  have g1 : decide (x < 1) = false := by simp; omega
  have g2 : decide (4096 < x) = false := by simp; omega
  generalize x.toNat = n1 at *
  clear hn hg hcell hl hc1 hc2 hx1 hx2
  go_enter Try.func13, Try.ntmps13
  go_upto_region 7 with (go_at_call 43; refine HN1.out.mono ?_; clear HN1; rintro e w1 ⟨p, bw, bs, rfl, hA1, hF1, hlo1⟩; have HA1 := Lib.hid hA1; have HF1 := Lib.hid hF1; have HLO1 := Lib.hid hlo1; unfold ptrW; clear hA1 hF1 hlo1)
  have hD0 : DuoR W (w1.alloc (.cells #[.slice none 0 0, .int .u64 0, .int .i64 0] 115 (0, 0))) p n1 bw bs w1.heap.size (.slice none 0 0) ⟨[], 0, 0⟩ :=
    ⟨HA1.out.grow ((Frm.refl _ _).alloc _), ⟨heap_new w1 _, World.ownsRow_nil _ _ _ _⟩, HLO1.out, HF1.out.size, HF1.out.trans' ((Frm.refl _ _).alloc _)⟩
  obtain ⟨d, hd⟩ : ∃ d, d = w1.heap.size := ⟨_, rfl⟩
  obtain ⟨w2, hw2⟩ : ∃ w2, w2 = w1.alloc (.cells #[.slice none 0 0, .int .u64 0, .int .i64 0] 115 (0, 0)) := ⟨_, rfl⟩
  rw [← hw2] at hD0 ⊢
  rw [← hd] at hD0 ⊢
  have HD0 := Lib.hid hD0
  have HU0 : Hid (Wh.used ⟨[], 0, 0⟩ 1048576 0) := ⟨fits0.ok, by decide, by decide⟩
  clear hD0 hw2 hd g1 g2
  go_wp2_with fail
  try go_frame
  go_loopw [8, 9] (fun a i wr => ∃ (k : Nat) (t : Int) (v : Value) (s : Wh), k ≤ n ∧ i = .int .i64 k ∧ a = .int .u64 t ∧ (0 ≤ t ∧ t ≤ k) ∧ DuoR W wr p n1 bw bs d v s ∧ s.used 1048576 k) (fun _ i _ => n - (intOf i).toNat)
  case atStart => exact ⟨0, 0, _, _, Nat.zero_le _, rfl, rfl, ⟨by omega, by omega⟩, HD0.out, HU0.out⟩
  case round =>
    obtain ⟨k, t, v, s, hk, rfl, rfl, ⟨ht0, ht1⟩, hD, hU⟩ := hrel
    have HD := Lib.hid hD
    have HU := Lib.hid hU
    by_cases hlt : k < n
    · have hkl : k < l.length := by rw [← HN.out]; exact hlt
      obtain ⟨g, off, rfl, hgl, hcc⟩ := HCI.out (by omega)
      have hgd := HG.out _ (List.getElem_mem hkl)
      have hrow := hcc k hkl
      have hsz := hD.frm.size
      have hF := hD.frm
      clear hcc
      generalize l[k] = x at *
      obtain ⟨kind, timer, what, aa, bb⟩ := x
      obtain ⟨haa, hbb⟩ := hgd
      simp only at haa hbb
      have HRW : Hid (wr.rangeAt g (off + k * 5) [.int .i64 kind, .int .i64 timer, .int .i64 what, .int .u64 aa, .int .u64 bb]) := fun j u hj => by
        have hj : (encW ⟨kind, timer, what, aa, bb⟩)[j]? = some u := hj
        have hj5 : j < 5 := by have := (List.getElem?_eq_some_iff.1 hj).1; rwa [encW_len] at this
        have h9 := hrow j hj5
        rw [hj] at h9
        exact hF.cell h9 (fun h => h)
      have hkn : (k : Int) < (n : Int) := by omega
      have hft := used_fits hU (by have := HL.out; omega) (by have := HL.out; omega)
      have HFT := Lib.hid hft
      have HLT : Hid (k + 1 ≤ n) := hlt
      have hgw : g < wr.heap.size := by omega
      have hk42 : (k : Int) ≤ 4398046511104 := by have := HL.out; omega
      clear hrow hD hU hF hft hkl
      go_upto_region 12 with (refine wpList_load_mid rfl 99 (.tmp 47) rfl g (off + k * 5) rfl _ _ HRW.out Try.underlying99 rfl (by kernel_rfl) ?_)
      have hwb : Frm (fun _ => False) wr (wr.alloc (.cells #[.int .i64 kind, .int .i64 timer, .int .i64 what, .int .u64 aa, .int .u64 bb] 99 (0, 0))) := (Frm.refl _ _).alloc _
      have hbx : (wr.alloc (.cells #[.int .i64 kind, .int .i64 timer, .int .i64 what, .int .u64 aa, .int .u64 bb] 99 (0, 0))).heap[wr.heap.size]? = some (.cells #[.int .i64 kind, .int .i64 timer, .int .i64 what, .int .u64 aa, .int .u64 bb] 99 (0, 0)) := heap_new wr _
      obtain ⟨wb, hwbe⟩ : ∃ wb, wb = wr.alloc (.cells #[.int .i64 kind, .int .i64 timer, .int .i64 what, .int .u64 aa, .int .u64 bb] 99 (0, 0)) := ⟨_, rfl⟩
      rw [← hwbe] at hwb hbx ⊢
      have HDB := Lib.hid (HD.out.grow hwb)
      have HBX := Lib.hid hbx
      have HDS : Hid (d < wr.heap.size) := lt_of_block HD.out.a2.cell
      have x0 : wb.cell? ⟨wr.heap.size, 0, none⟩ = some (.int .i64 kind) := cell_at hbx
      have x3 : wb.cell? ⟨wr.heap.size, 3, none⟩ = some (.int .u64 aa) := cell_at hbx
      have xf := frees hbx
      clear hwbe hwb hbx HRW hgw hgl hsz
      go_cut [56] (fun b wx => (∃ bo, b = .bool bo) ∧ wx = wb)
      case first =>
        by_cases e4 : kind = 4
        · have g4 : (kind == 4) = true := by simp [e4]
          by_cases h9 : 1000 < aa
          · have g5 : decide (1000 < aa) = true := by simp [h9]
            clear h9 e4
            go_wp2_with fail
            go_meet
            exact ⟨⟨_, rfl⟩, rfl⟩
          · have g5 : decide (1000 < aa) = false := by simp [h9]
            clear h9 e4
            go_wp2_with fail
            go_meet
            exact ⟨⟨_, rfl⟩, rfl⟩
        · have g4 : (kind == 4) = false := by simp [e4]
          clear e4
          go_wp2_with fail
          go_meet
          exact ⟨⟨_, rfl⟩, rfl⟩
      case rest =>
        obtain ⟨⟨bo, rfl⟩, hwc⟩ := hcut
        have hwc := hwc.symm
        subst hwc
        have hcl := wcalm_any wb d v s HDB.out.a2
        unfold ptrW at hcl
        have HCL := Lib.hid hcl
        obtain ⟨y, hy⟩ : ∃ y, y = aa % 1000 := ⟨_, rfl⟩
        have qm : aa.tmod 1000 = y := by rw [hy]; exact Int.tmod_eq_emod_of_nonneg haa
        have hy0 : 0 ≤ y := by omega
        have HY0 := Lib.hid hy0
        clear hcl hy hy0
        go_upto_if 56 with fail
        go_cut [8] (fun a wx => ActC wr.heap.size k kind timer what bb wb a wx)
        case first =>
          cases bo with
          | false =>
            go_wp2_with fail
            go_meet
            exact ⟨t, aa, rfl, ⟨ht0, by omega⟩, haa, HBX.out, Frm.refl _ _⟩
          | true =>
            by_cases h9 : 1 < t + 1
            · have g5 : decide (1 < t + 1) = true := by simp; omega
              clear h9
              go_wp2_with fail
              go_meet
              exact ⟨t + 1, y, rfl, ⟨by omega, by omega⟩, HY0.out, heap_set_at HBX.out rfl, Frm.set1 (Frm.refl _ _) (o := 3) _⟩
            · have g5 : decide (1 < t + 1) = false := by simp; omega
              obtain rfl : t = 0 := by omega
              clear h9
              go_upto_if 65 with (go_at_call 53; refine HCL.out.mono ?_; rintro e w7 ⟨b7, rfl, rfl⟩)
              cases b7
              all_goals
                go_wp2_with fail
                go_meet
              · exact ⟨1, y, rfl, ⟨by omega, by omega⟩, HY0.out, heap_set_at HBX.out rfl, Frm.set1 (Frm.refl _ _) (o := 3) _⟩
              · exact ⟨1, aa, rfl, ⟨by omega, by omega⟩, haa, HBX.out, Frm.refl _ _⟩
        case rest =>
          obtain ⟨t', a', rfl, ⟨ht2, ht3⟩, ha', hbc, hFc⟩ := hcut
          have HDC : Hid (DuoR W wc p n1 bw bs d v s) := by
            have hn : ¬ WhS p bw bs wr.heap.size := HDB.out.a1.row_not HBX.out (by decide)
            refine ⟨HDB.out.a1.frm hFc (fun j hj e => by have e : j = wr.heap.size := e; subst e; exact hn hj) (fun j cur hj e => by have e : j = wr.heap.size := e; subst e; rw [HBX.out] at hj; cases hj), HDB.out.a2.frm hFc (fun e => by have e : d = wr.heap.size := e; have := HDS.out; omega) (fun j hj e => by
              have e : j = wr.heap.size := e
              subst e
              obtain ⟨_, cur, hc⟩ := row_block HDB.out.a2.row hj
              rw [HBX.out] at hc
              cases hc), HDB.out.lo1, HDB.out.lo2, HDB.out.frm.trans hFc (fun i hi e => by have e : i = wr.heap.size := e; have := HD.out.frm.size; omega)⟩
          have c0 : wc.cell? ⟨wr.heap.size, 0, none⟩ = some (.int .i64 kind) := cell_at hbc
          have c1 : wc.cell? ⟨wr.heap.size, 1, none⟩ = some (.int .i64 timer) := cell_at hbc
          have c2 : wc.cell? ⟨wr.heap.size, 2, none⟩ = some (.int .i64 what) := cell_at hbc
          have c3 : wc.cell? ⟨wr.heap.size, 3, none⟩ = some (.int .u64 a') := cell_at hbc
          have c4 : wc.cell? ⟨wr.heap.size, 4, none⟩ = some (.int .u64 bb) := cell_at hbc
          have HDO := Lib.hid (wdoes_any W wc.drew p n1 bw bs d v s k kind timer what a' bb (HDC.out.grow ((Frm.refl _ _).drew)) HU.out HFT.out ha' hbb)
          unfold ptrW at HDO
          clear hbc hFc x0 x3 xf qm
          go_wp2_with fail
          refine wp_region_held_drew (S := (fun _ => True)) (by kernel_rfl) (trivial) (fun hHeld => ?_)
          refine wpAnyH_take (i := 0) (v := ?_) rfl (by kernel_rfl) (by kernel_rfl) (by kernel_rfl) (fun _ _ _ h => h) (Or.inl ⟨by rfl, ?_⟩) (by assumption) ?_; rotate_left; · (intro wq hSq; have hq := (fun _ _ => trivial) wq hSq; go_split_ands; go_simp; (try with_reducible rfl))
          try simp only [Act.put, getElem_toArray, getElem_cons_zero, getElem_cons_succ, setIfInBounds_toArray, set_cons_zero, set_cons_succ]
          refine wpAnyH_take (i := 1) (v := ?_) rfl (by kernel_rfl) (by kernel_rfl) (by kernel_rfl) (fun _ _ _ h => h) (Or.inl ⟨by rfl, ?_⟩) (by assumption) ?_; rotate_left; · (intro wq hSq; have hq := (fun _ _ => trivial) wq hSq; go_split_ands; go_simp; (try with_reducible rfl))
          try simp only [Act.put, getElem_toArray, getElem_cons_zero, getElem_cons_succ, setIfInBounds_toArray, set_cons_zero, set_cons_succ]
          refine wpAnyH_ready (rs := [2]) (by kernel_rfl) (by simp) ?_
          refine AllReadyH.cons rfl (fun K hK => ?_) AllReadyH.nil
          try simp only [getElem_toArray, getElem_cons_zero, getElem_cons_succ]
          go_simp
          refine hK.out _ _ (trivial) (fun hHeld => ?_)
          clear hK K
          try simp only [Act.put, setIfInBounds_toArray, set_cons_zero, set_cons_succ]
          refine wpAnyH_ready (rs := [3]) (by kernel_rfl) (by simp) ?_
          refine AllReadyH.cons rfl (fun K hK => ?_) AllReadyH.nil
          try simp only [getElem_toArray, getElem_cons_zero, getElem_cons_succ]
          go_simp
          refine HDO.out.mono ?_
          rintro e w3 ⟨v3, s3, rfl, hD3, hU3⟩
          have HD3 := Lib.hid hD3
          have HU3 := Lib.hid hU3
          have HL1 := Lib.hid (wlen_any w3 p n1 bw bs s3 hD3.a1)
          have HO1 := Lib.hid (wnow_any w3 p n1 bw bs s3 hD3.a1)
          obtain ⟨A3, cap3, rfl, -⟩ := hD3.a2.open_
          have d0 : w3.cell? ⟨d, 0, none⟩ = some (.slice A3 s3.tm.length cap3) := cell_at hD3.a2.cell
          have d1 : w3.cell? ⟨d, 1, none⟩ = some (.int .u64 s3.now) := cell_at hD3.a2.cell
          obtain ⟨ll, hll⟩ : ∃ ll, ll = s3.tm.length := ⟨_, rfl⟩
          rw [← hll] at HL1 d0
          unfold ptrW at HL1 HO1
          clear hD3 hU3 hll c0 c1 c2 c3 c4
          go_wp2_with fail
          refine hK.out _ _ (trivial) (fun hHeld => ?_)
          clear hK K
          try simp only [Act.put, setIfInBounds_toArray, set_cons_zero, set_cons_succ]
          refine wpAnyH_take (i := 4) (v := ?_) rfl (by kernel_rfl) (by kernel_rfl) (by kernel_rfl) (fun _ _ _ h => h) (Or.inl ⟨by rfl, ?_⟩) (by assumption) ?_; rotate_left; · (intro wq hSq; have hq := (fun _ _ => trivial) wq hSq; go_split_ands; go_simp; (try with_reducible rfl))
          try simp only [Act.put, getElem_toArray, getElem_cons_zero, getElem_cons_succ, setIfInBounds_toArray, set_cons_zero, set_cons_succ]
          refine wpAnyH_take (i := 5) (v := ?_) rfl (by kernel_rfl) (by kernel_rfl) (by kernel_rfl) (fun _ _ _ h => h) (Or.inl ⟨by rfl, ?_⟩) (by assumption) ?_; rotate_left; · (intro wq hSq; have hq := (fun _ _ => trivial) wq hSq; go_split_ands; go_simp; (try with_reducible rfl))
          try simp only [Act.put, getElem_toArray, getElem_cons_zero, getElem_cons_succ, setIfInBounds_toArray, set_cons_zero, set_cons_succ]
          refine wpAnyH_take (i := 6) (v := ?_) rfl (by kernel_rfl) (by kernel_rfl) (by kernel_rfl) (fun _ _ _ h => h) (Or.inl ⟨by rfl, ?_⟩) (by assumption) ?_; rotate_left; · (intro wq hSq; have hq := (fun _ _ => trivial) wq hSq; go_split_ands; go_simp; (try with_reducible rfl))
          try simp only [Act.put, getElem_toArray, getElem_cons_zero, getElem_cons_succ, setIfInBounds_toArray, set_cons_zero, set_cons_succ]
          refine wpAnyH_take (i := 8) (v := ?_) rfl (by kernel_rfl) (by kernel_rfl) (by kernel_rfl) (fun _ _ _ h => h) (Or.inl ⟨by rfl, ?_⟩) (by assumption) ?_; rotate_left; · (intro wq hSq; have hq := (fun _ _ => trivial) wq hSq; go_split_ands; go_simp; (try with_reducible rfl))
          try simp only [Act.put, getElem_toArray, getElem_cons_zero, getElem_cons_succ, setIfInBounds_toArray, set_cons_zero, set_cons_succ]
          refine wpAnyH_take (i := 9) (v := ?_) rfl (by kernel_rfl) (by kernel_rfl) (by kernel_rfl) (fun _ _ _ h => h) (Or.inl ⟨by rfl, ?_⟩) (by assumption) ?_; rotate_left; · (intro wq hSq; have hq := (fun _ _ => trivial) wq hSq; go_split_ands; go_simp; (try with_reducible rfl))
          try simp only [Act.put, getElem_toArray, getElem_cons_zero, getElem_cons_succ, setIfInBounds_toArray, set_cons_zero, set_cons_succ]
          refine wpAnyH_take (i := 10) (v := ?_) rfl (by kernel_rfl) (by kernel_rfl) (by kernel_rfl) (fun _ _ _ h => h) (Or.inl ⟨by rfl, ?_⟩) (by assumption) ?_; rotate_left; · (intro wq hSq; have hq := (fun _ _ => trivial) wq hSq; go_split_ands; go_simp; (try with_reducible rfl))
          try simp only [Act.put, getElem_toArray, getElem_cons_zero, getElem_cons_succ, setIfInBounds_toArray, set_cons_zero, set_cons_succ]
          refine wpAnyH_ready (rs := [7, 11]) (by kernel_rfl) (by simp) ?_
          refine AllReadyH.cons rfl (fun K hK => ?_) (AllReadyH.cons rfl (fun K hK => ?_) AllReadyH.nil)
          · skip
            try simp only [getElem_toArray, getElem_cons_zero, getElem_cons_succ]
            go_simp
            refine HO1.out.mono ?_
            rintro e w7 ⟨rfl, rfl⟩
            go_wp2_with fail
            refine hK.out _ _ (trivial) (fun hHeld => ?_)
            clear hK K
            try simp only [Act.put, setIfInBounds_toArray, set_cons_zero, set_cons_succ]
            refine wpAnyH_ready (rs := [11]) (by kernel_rfl) (by simp) ?_
            refine AllReadyH.cons rfl (fun K hK => ?_) AllReadyH.nil
            try simp only [getElem_toArray, getElem_cons_zero, getElem_cons_succ]
            go_simp
            refine hK.out _ _ (trivial) (fun hHeld => ?_)
            clear hK K
            try simp only [Act.put, setIfInBounds_toArray, set_cons_zero, set_cons_succ]
            refine wpAnyH_take (i := 12) (v := ?_) rfl (by kernel_rfl) (by kernel_rfl) (by kernel_rfl) (fun _ _ _ h => h) (Or.inl ⟨by rfl, ?_⟩) (by assumption) ?_; rotate_left; · (intro wq hSq; have hq := (fun _ _ => trivial) wq hSq; go_split_ands; go_simp; (try with_reducible rfl))
            try simp only [Act.put, getElem_toArray, getElem_cons_zero, getElem_cons_succ, setIfInBounds_toArray, set_cons_zero, set_cons_succ]
            refine wpAnyH_take (i := 13) (v := ?_) rfl (by kernel_rfl) (by kernel_rfl) (by kernel_rfl) (fun _ _ _ h => h) (Or.inl ⟨by rfl, ?_⟩) (by assumption) ?_; rotate_left; · (intro wq hSq; have hq := (fun _ _ => trivial) wq hSq; go_split_ands; go_simp; (try with_reducible rfl))
            try simp only [Act.put, getElem_toArray, getElem_cons_zero, getElem_cons_succ, setIfInBounds_toArray, set_cons_zero, set_cons_succ]
            refine wpAnyH_take (i := 14) (v := ?_) rfl (by kernel_rfl) (by kernel_rfl) (by kernel_rfl) (fun _ _ _ h => h) (Or.inl ⟨by rfl, ?_⟩) (by assumption) ?_; rotate_left; · (intro wq hSq; have hq := (fun _ _ => trivial) wq hSq; go_split_ands; go_simp; (try with_reducible rfl))
            try simp only [Act.put, getElem_toArray, getElem_cons_zero, getElem_cons_succ, setIfInBounds_toArray, set_cons_zero, set_cons_succ]
            refine wpAnyH_take (i := 15) (v := ?_) rfl (by kernel_rfl) (by kernel_rfl) (by kernel_rfl) (fun _ _ _ h => h) (Or.inl ⟨by rfl, ?_⟩) (by assumption) ?_; rotate_left; · (intro wq hSq; have hq := (fun _ _ => trivial) wq hSq; go_split_ands; go_simp; (try with_reducible rfl))
            try simp only [Act.put, getElem_toArray, getElem_cons_zero, getElem_cons_succ, setIfInBounds_toArray, set_cons_zero, set_cons_succ]
            refine wpAnyH_take (i := 17) (v := ?_) rfl (by kernel_rfl) (by kernel_rfl) (by kernel_rfl) (fun _ _ _ h => h) (Or.inl ⟨by rfl, ?_⟩) (by assumption) ?_; rotate_left; · (intro wq hSq; have hq := (fun _ _ => trivial) wq hSq; go_split_ands; go_simp; (try with_reducible rfl))
            try simp only [Act.put, getElem_toArray, getElem_cons_zero, getElem_cons_succ, setIfInBounds_toArray, set_cons_zero, set_cons_succ]
            refine wpAnyH_take (i := 18) (v := ?_) rfl (by kernel_rfl) (by kernel_rfl) (by kernel_rfl) (fun _ _ _ h => h) (Or.inl ⟨by rfl, ?_⟩) (by assumption) ?_; rotate_left; · (intro wq hSq; have hq := (fun _ _ => trivial) wq hSq; go_split_ands; go_simp; (try with_reducible rfl))
            try simp only [Act.put, getElem_toArray, getElem_cons_zero, getElem_cons_succ, setIfInBounds_toArray, set_cons_zero, set_cons_succ]
            refine wpAnyH_take (i := 19) (v := ?_) rfl (by kernel_rfl) (by kernel_rfl) (by kernel_rfl) (fun _ _ _ h => h) (Or.inl ⟨by rfl, ?_⟩) (by assumption) ?_; rotate_left; · (intro wq hSq; have hq := (fun _ _ => trivial) wq hSq; go_split_ands; go_simp; (try with_reducible rfl))
            try simp only [Act.put, getElem_toArray, getElem_cons_zero, getElem_cons_succ, setIfInBounds_toArray, set_cons_zero, set_cons_succ]
            refine wpAnyH_ready (rs := [16, 20]) (by kernel_rfl) (by simp) ?_
            refine AllReadyH.cons rfl (fun K hK => ?_) (AllReadyH.cons rfl (fun K hK => ?_) AllReadyH.nil)
            · skip
              try simp only [getElem_toArray, getElem_cons_zero, getElem_cons_succ]
              go_simp
              refine HL1.out.mono ?_
              rintro e w7 ⟨rfl, rfl⟩
              go_wp2_with fail
              refine hK.out _ _ (trivial) (fun hHeld => ?_)
              clear hK K
              try simp only [Act.put, setIfInBounds_toArray, set_cons_zero, set_cons_succ]
              refine wpAnyH_ready (rs := [20]) (by kernel_rfl) (by simp) ?_
              refine AllReadyH.cons rfl (fun K hK => ?_) AllReadyH.nil
              try simp only [getElem_toArray, getElem_cons_zero, getElem_cons_succ]
              go_simp
              refine hK.out _ _ (trivial) (fun hHeld => ?_)
              clear hK K
              try simp only [Act.put, setIfInBounds_toArray, set_cons_zero, set_cons_succ]
              refine wpAnyH_take (i := 21) (v := ?_) rfl (by kernel_rfl) (by kernel_rfl) (by kernel_rfl) (fun _ _ _ h => h) (Or.inl ⟨by rfl, ?_⟩) (by assumption) ?_; rotate_left; · (intro wq hSq; have hq := (fun _ _ => trivial) wq hSq; go_split_ands; go_simp; (try with_reducible rfl))
              try simp only [Act.put, getElem_toArray, getElem_cons_zero, getElem_cons_succ, setIfInBounds_toArray, set_cons_zero, set_cons_succ]
              refine wpAnyH_take (i := 22) (v := ?_) rfl (by kernel_rfl) (by kernel_rfl) (by kernel_rfl) (fun _ _ _ h => h) (Or.inl ⟨by rfl, ?_⟩) (by assumption) ?_; rotate_left; · (intro wq hSq; have hq := (fun _ _ => trivial) wq hSq; go_split_ands; go_simp; (try with_reducible rfl))
              try simp only [Act.put, getElem_toArray, getElem_cons_zero, getElem_cons_succ, setIfInBounds_toArray, set_cons_zero, set_cons_succ]
              refine wpAnyH_take (i := 23) (v := ?_) rfl (by kernel_rfl) (by kernel_rfl) (by kernel_rfl) (fun _ _ _ h => h) (Or.inl ⟨by rfl, ?_⟩) (by assumption) ?_; rotate_left; · (intro wq hSq; have hq := (fun _ _ => trivial) wq hSq; go_split_ands; go_simp; (try with_reducible rfl))
              try simp only [Act.put, getElem_toArray, getElem_cons_zero, getElem_cons_succ, setIfInBounds_toArray, set_cons_zero, set_cons_succ]
              refine wpAnyH_done (by kernel_rfl) ?_ _
              go_wp2_with fail
              go_roundw
              case rel => exact ⟨k + 1, t', _, s3, HLT.out, by go_num, rfl, ⟨ht2, by omega⟩, HD3.out, HU3.out⟩
              case measure => have := HLT.out; simp [intOf]; omega
            · skip
              try simp only [getElem_toArray, getElem_cons_zero, getElem_cons_succ]
              go_simp
              refine hK.out _ _ (trivial) (fun hHeld => ?_)
              clear hK K
              try simp only [Act.put, setIfInBounds_toArray, set_cons_zero, set_cons_succ]
              refine wpAnyH_take (i := 21) (v := ?_) rfl (by kernel_rfl) (by kernel_rfl) (by kernel_rfl) (fun _ _ _ h => h) (Or.inl ⟨by rfl, ?_⟩) (by assumption) ?_; rotate_left; · (intro wq hSq; have hq := (fun _ _ => trivial) wq hSq; go_split_ands; go_simp; (try with_reducible rfl))
              try simp only [Act.put, getElem_toArray, getElem_cons_zero, getElem_cons_succ, setIfInBounds_toArray, set_cons_zero, set_cons_succ]
              refine wpAnyH_ready (rs := [16]) (by kernel_rfl) (by simp) ?_
              refine AllReadyH.cons rfl (fun K hK => ?_) AllReadyH.nil
              try simp only [getElem_toArray, getElem_cons_zero, getElem_cons_succ]
              go_simp
              refine HL1.out.mono ?_
              rintro e w7 ⟨rfl, rfl⟩
              go_wp2_with fail
              refine hK.out _ _ (trivial) (fun hHeld => ?_)
              clear hK K
              try simp only [Act.put, setIfInBounds_toArray, set_cons_zero, set_cons_succ]
              refine wpAnyH_take (i := 22) (v := ?_) rfl (by kernel_rfl) (by kernel_rfl) (by kernel_rfl) (fun _ _ _ h => h) (Or.inl ⟨by rfl, ?_⟩) (by assumption) ?_; rotate_left; · (intro wq hSq; have hq := (fun _ _ => trivial) wq hSq; go_split_ands; go_simp; (try with_reducible rfl))
              try simp only [Act.put, getElem_toArray, getElem_cons_zero, getElem_cons_succ, setIfInBounds_toArray, set_cons_zero, set_cons_succ]
              refine wpAnyH_take (i := 23) (v := ?_) rfl (by kernel_rfl) (by kernel_rfl) (by kernel_rfl) (fun _ _ _ h => h) (Or.inl ⟨by rfl, ?_⟩) (by assumption) ?_; rotate_left; · (intro wq hSq; have hq := (fun _ _ => trivial) wq hSq; go_split_ands; go_simp; (try with_reducible rfl))
              try simp only [Act.put, getElem_toArray, getElem_cons_zero, getElem_cons_succ, setIfInBounds_toArray, set_cons_zero, set_cons_succ]
              refine wpAnyH_done (by kernel_rfl) ?_ _
              go_wp2_with fail
              go_roundw
              case rel => exact ⟨k + 1, t', _, s3, HLT.out, by go_num, rfl, ⟨ht2, by omega⟩, HD3.out, HU3.out⟩
              case measure => have := HLT.out; simp [intOf]; omega
          · skip
            try simp only [getElem_toArray, getElem_cons_zero, getElem_cons_succ]
            go_simp
            refine hK.out _ _ (trivial) (fun hHeld => ?_)
            clear hK K
            try simp only [Act.put, setIfInBounds_toArray, set_cons_zero, set_cons_succ]
            refine wpAnyH_ready (rs := [7]) (by kernel_rfl) (by simp) ?_
            refine AllReadyH.cons rfl (fun K hK => ?_) AllReadyH.nil
            try simp only [getElem_toArray, getElem_cons_zero, getElem_cons_succ]
            go_simp
            refine HO1.out.mono ?_
            rintro e w7 ⟨rfl, rfl⟩
            go_wp2_with fail
            refine hK.out _ _ (trivial) (fun hHeld => ?_)
            clear hK K
            try simp only [Act.put, setIfInBounds_toArray, set_cons_zero, set_cons_succ]
            refine wpAnyH_take (i := 12) (v := ?_) rfl (by kernel_rfl) (by kernel_rfl) (by kernel_rfl) (fun _ _ _ h => h) (Or.inl ⟨by rfl, ?_⟩) (by assumption) ?_; rotate_left; · (intro wq hSq; have hq := (fun _ _ => trivial) wq hSq; go_split_ands; go_simp; (try with_reducible rfl))
            try simp only [Act.put, getElem_toArray, getElem_cons_zero, getElem_cons_succ, setIfInBounds_toArray, set_cons_zero, set_cons_succ]
            refine wpAnyH_take (i := 13) (v := ?_) rfl (by kernel_rfl) (by kernel_rfl) (by kernel_rfl) (fun _ _ _ h => h) (Or.inl ⟨by rfl, ?_⟩) (by assumption) ?_; rotate_left; · (intro wq hSq; have hq := (fun _ _ => trivial) wq hSq; go_split_ands; go_simp; (try with_reducible rfl))
            try simp only [Act.put, getElem_toArray, getElem_cons_zero, getElem_cons_succ, setIfInBounds_toArray, set_cons_zero, set_cons_succ]
            refine wpAnyH_take (i := 14) (v := ?_) rfl (by kernel_rfl) (by kernel_rfl) (by kernel_rfl) (fun _ _ _ h => h) (Or.inl ⟨by rfl, ?_⟩) (by assumption) ?_; rotate_left; · (intro wq hSq; have hq := (fun _ _ => trivial) wq hSq; go_split_ands; go_simp; (try with_reducible rfl))
            try simp only [Act.put, getElem_toArray, getElem_cons_zero, getElem_cons_succ, setIfInBounds_toArray, set_cons_zero, set_cons_succ]
            refine wpAnyH_take (i := 15) (v := ?_) rfl (by kernel_rfl) (by kernel_rfl) (by kernel_rfl) (fun _ _ _ h => h) (Or.inl ⟨by rfl, ?_⟩) (by assumption) ?_; rotate_left; · (intro wq hSq; have hq := (fun _ _ => trivial) wq hSq; go_split_ands; go_simp; (try with_reducible rfl))
            try simp only [Act.put, getElem_toArray, getElem_cons_zero, getElem_cons_succ, setIfInBounds_toArray, set_cons_zero, set_cons_succ]
            refine wpAnyH_take (i := 17) (v := ?_) rfl (by kernel_rfl) (by kernel_rfl) (by kernel_rfl) (fun _ _ _ h => h) (Or.inl ⟨by rfl, ?_⟩) (by assumption) ?_; rotate_left; · (intro wq hSq; have hq := (fun _ _ => trivial) wq hSq; go_split_ands; go_simp; (try with_reducible rfl))
            try simp only [Act.put, getElem_toArray, getElem_cons_zero, getElem_cons_succ, setIfInBounds_toArray, set_cons_zero, set_cons_succ]
            refine wpAnyH_take (i := 18) (v := ?_) rfl (by kernel_rfl) (by kernel_rfl) (by kernel_rfl) (fun _ _ _ h => h) (Or.inl ⟨by rfl, ?_⟩) (by assumption) ?_; rotate_left; · (intro wq hSq; have hq := (fun _ _ => trivial) wq hSq; go_split_ands; go_simp; (try with_reducible rfl))
            try simp only [Act.put, getElem_toArray, getElem_cons_zero, getElem_cons_succ, setIfInBounds_toArray, set_cons_zero, set_cons_succ]
            refine wpAnyH_take (i := 19) (v := ?_) rfl (by kernel_rfl) (by kernel_rfl) (by kernel_rfl) (fun _ _ _ h => h) (Or.inl ⟨by rfl, ?_⟩) (by assumption) ?_; rotate_left; · (intro wq hSq; have hq := (fun _ _ => trivial) wq hSq; go_split_ands; go_simp; (try with_reducible rfl))
            try simp only [Act.put, getElem_toArray, getElem_cons_zero, getElem_cons_succ, setIfInBounds_toArray, set_cons_zero, set_cons_succ]
            refine wpAnyH_ready (rs := [16, 20]) (by kernel_rfl) (by simp) ?_
            refine AllReadyH.cons rfl (fun K hK => ?_) (AllReadyH.cons rfl (fun K hK => ?_) AllReadyH.nil)
            · skip
              try simp only [getElem_toArray, getElem_cons_zero, getElem_cons_succ]
              go_simp
              refine HL1.out.mono ?_
              rintro e w7 ⟨rfl, rfl⟩
              go_wp2_with fail
              refine hK.out _ _ (trivial) (fun hHeld => ?_)
              clear hK K
              try simp only [Act.put, setIfInBounds_toArray, set_cons_zero, set_cons_succ]
              refine wpAnyH_ready (rs := [20]) (by kernel_rfl) (by simp) ?_
              refine AllReadyH.cons rfl (fun K hK => ?_) AllReadyH.nil
              try simp only [getElem_toArray, getElem_cons_zero, getElem_cons_succ]
              go_simp
              refine hK.out _ _ (trivial) (fun hHeld => ?_)
              clear hK K
              try simp only [Act.put, setIfInBounds_toArray, set_cons_zero, set_cons_succ]
              refine wpAnyH_take (i := 21) (v := ?_) rfl (by kernel_rfl) (by kernel_rfl) (by kernel_rfl) (fun _ _ _ h => h) (Or.inl ⟨by rfl, ?_⟩) (by assumption) ?_; rotate_left; · (intro wq hSq; have hq := (fun _ _ => trivial) wq hSq; go_split_ands; go_simp; (try with_reducible rfl))
              try simp only [Act.put, getElem_toArray, getElem_cons_zero, getElem_cons_succ, setIfInBounds_toArray, set_cons_zero, set_cons_succ]
              refine wpAnyH_take (i := 22) (v := ?_) rfl (by kernel_rfl) (by kernel_rfl) (by kernel_rfl) (fun _ _ _ h => h) (Or.inl ⟨by rfl, ?_⟩) (by assumption) ?_; rotate_left; · (intro wq hSq; have hq := (fun _ _ => trivial) wq hSq; go_split_ands; go_simp; (try with_reducible rfl))
              try simp only [Act.put, getElem_toArray, getElem_cons_zero, getElem_cons_succ, setIfInBounds_toArray, set_cons_zero, set_cons_succ]
              refine wpAnyH_take (i := 23) (v := ?_) rfl (by kernel_rfl) (by kernel_rfl) (by kernel_rfl) (fun _ _ _ h => h) (Or.inl ⟨by rfl, ?_⟩) (by assumption) ?_; rotate_left; · (intro wq hSq; have hq := (fun _ _ => trivial) wq hSq; go_split_ands; go_simp; (try with_reducible rfl))
              try simp only [Act.put, getElem_toArray, getElem_cons_zero, getElem_cons_succ, setIfInBounds_toArray, set_cons_zero, set_cons_succ]
              refine wpAnyH_done (by kernel_rfl) ?_ _
              go_wp2_with fail
              go_roundw
              case rel => exact ⟨k + 1, t', _, s3, HLT.out, by go_num, rfl, ⟨ht2, by omega⟩, HD3.out, HU3.out⟩
              case measure => have := HLT.out; simp [intOf]; omega
            · skip
              try simp only [getElem_toArray, getElem_cons_zero, getElem_cons_succ]
              go_simp
              refine hK.out _ _ (trivial) (fun hHeld => ?_)
              clear hK K
              try simp only [Act.put, setIfInBounds_toArray, set_cons_zero, set_cons_succ]
              refine wpAnyH_take (i := 21) (v := ?_) rfl (by kernel_rfl) (by kernel_rfl) (by kernel_rfl) (fun _ _ _ h => h) (Or.inl ⟨by rfl, ?_⟩) (by assumption) ?_; rotate_left; · (intro wq hSq; have hq := (fun _ _ => trivial) wq hSq; go_split_ands; go_simp; (try with_reducible rfl))
              try simp only [Act.put, getElem_toArray, getElem_cons_zero, getElem_cons_succ, setIfInBounds_toArray, set_cons_zero, set_cons_succ]
              refine wpAnyH_ready (rs := [16]) (by kernel_rfl) (by simp) ?_
              refine AllReadyH.cons rfl (fun K hK => ?_) AllReadyH.nil
              try simp only [getElem_toArray, getElem_cons_zero, getElem_cons_succ]
              go_simp
              refine HL1.out.mono ?_
              rintro e w7 ⟨rfl, rfl⟩
              go_wp2_with fail
              refine hK.out _ _ (trivial) (fun hHeld => ?_)
              clear hK K
              try simp only [Act.put, setIfInBounds_toArray, set_cons_zero, set_cons_succ]
              refine wpAnyH_take (i := 22) (v := ?_) rfl (by kernel_rfl) (by kernel_rfl) (by kernel_rfl) (fun _ _ _ h => h) (Or.inl ⟨by rfl, ?_⟩) (by assumption) ?_; rotate_left; · (intro wq hSq; have hq := (fun _ _ => trivial) wq hSq; go_split_ands; go_simp; (try with_reducible rfl))
              try simp only [Act.put, getElem_toArray, getElem_cons_zero, getElem_cons_succ, setIfInBounds_toArray, set_cons_zero, set_cons_succ]
              refine wpAnyH_take (i := 23) (v := ?_) rfl (by kernel_rfl) (by kernel_rfl) (by kernel_rfl) (fun _ _ _ h => h) (Or.inl ⟨by rfl, ?_⟩) (by assumption) ?_; rotate_left; · (intro wq hSq; have hq := (fun _ _ => trivial) wq hSq; go_split_ands; go_simp; (try with_reducible rfl))
              try simp only [Act.put, getElem_toArray, getElem_cons_zero, getElem_cons_succ, setIfInBounds_toArray, set_cons_zero, set_cons_succ]
              refine wpAnyH_done (by kernel_rfl) ?_ _
              go_wp2_with fail
              go_roundw
              case rel => exact ⟨k + 1, t', _, s3, HLT.out, by go_num, rfl, ⟨ht2, by omega⟩, HD3.out, HU3.out⟩
              case measure => have := HLT.out; simp [intOf]; omega
    · obtain rfl : k = n := by omega
      have hkn : ¬ (k : Int) < (k : Int) := by omega
      go_wp2_with (go_at_call 51; refine (wlives_any _).mono ?_; rintro e w9 ⟨rfl, hF9⟩; have HF9 := Lib.hid hF9; clear hF9)
      go_ret
      exact ⟨rfl, HD.out.frm.trans' HF9.out⟩
end Go.Proofs.Ytmkkeglcjbogcaa
namespace Go.Proofs.Ytmkkeglcjbogcaa
open Go.ChangeShapes Go.WideShapes Go.ChangeAt Go.RowKit
set_option linter.unusedVariables false

theorem own : ownKnob Try.prog.godebug = none := by kernel_rfl
theorem laid : laidOutB Try.prog = true := by kernel_rfl

/-- What a law's walk shows: it returns true, and below the heap's size nothing has turned. -/
def LawPost (w : World) (e : Ending) (w' : World) : Prop := e = .returned (.bool true) ∧ Below w.heap.size w w'

section
variable {H : Type} {enc : TypeId × Value → H}

theorem trodAll_below {W W' : World} (hb : Below W.heap.size W W') (sp : Nat → Bool) : ∀ {ts : List TypeId} {vs : List Value} {ds : List (DataW H)} {ps : List MemPlace},
    (∀ t ∈ ts, Try.prog.readableRec t = true ∧ t < Try.prog.types.size) → DataW.TrodAll enc Try.prog W 0 (fun _ => true) true ts vs ds ps → (∀ x ∈ ps, x.block < W.heap.size) → (∀ x ∈ ps, sp x.block = true) → DataW.TrodAll enc Try.prog W' 0 sp true ts vs ds ps := by
  intro ts
  induction ts with
  | nil =>
    intro vs ds ps _ h _ _
    cases vs <;> cases ds <;> simp [DataW.TrodAll] at h ⊢
    exact h
  | cons t ts ih =>
    intro vs ds ps ht h hlt hsp
    cases vs <;> cases ds <;> simp [DataW.TrodAll] at h ⊢
    obtain ⟨p, hp, q, hq, rfl⟩ := h
    have h1 := ht t (by simp)
    refine ⟨p, WideElems.Trod_stays laid h1.1 h1.2 hp (fun x hx => hb.same (hlt x (by simp [hx]))) (fun x hx => hsp x (by simp [hx])), q, ih (fun t' ht' => ht t' (by simp [ht'])) hq (fun x hx => hlt x (by simp [hx])) (fun x hx => hsp x (by simp [hx])), rfl⟩

set_option maxRecDepth 100000 in
theorem law_post {fn : Func} {s : ChangeSpec} {W W' : World} {args : Array Value} {ds gs : List (DataW H)} {before : List MemPlace} {tb : TypeId}
    (hW : DataW.Whole enc Try.prog fn.params.toList s.vars false W args.toList ds gs before) (hp : ∀ t ∈ fn.params.toList, Try.prog.readableRec t = true ∧ t < Try.prog.types.size)
    (hr : fn.resultTypes = #[tb]) (htb : Try.prog.underlying tb = some .bool) (hs0 : s.vars = [])
    (hs1 : (s.fn H (ds ++ gs)).results = [.lit (.bool true)]) (hs2 : (s.fn H (ds ++ gs)).args = ds) (hs3 : (s.fn H (ds ++ gs)).vars = []) (hb : Below W.heap.size W W') :
    s.post enc Try.prog fn false true false false W args (.bool true) W' := by
  have hlt : ∀ p ∈ before, p.block < W.heap.size := fun p hp => hW.lt p hp
  have hW' := hW
  obtain ⟨p, q, hA, hV, rfl, hz, hn⟩ := hW
  rw [hs0] at hV
  obtain ⟨rfl, rfl⟩ := trodVars_none hV
  have hargs : ∀ sp : Nat → Bool, (∀ x ∈ p ++ [], sp x.block = true) → DataW.TrodAll enc Try.prog W' 0 sp true fn.params.toList args.toList (s.fn H (ds ++ [])).args p := fun sp hsp => by
    rw [hs2]; exact trodAll_below hb sp hp hA (fun x hx => hlt x (by simpa using hx)) (fun x hx => hsp x (by simpa using hx))
  have hres : ∀ (b : Nat) (sp : Nat → Bool) (hd : Bool), DataW.TrodAll enc Try.prog W' b sp hd fn.resultTypes.toList ((Value.bool true).resultList fn.resultTypes.size) (s.fn H (ds ++ [])).results [] := fun b sp hd => by
    rw [hs1, hr]; exact trodAll_mk1 (shut_bool htb _)
  have hvars : ∀ sp : Nat → Bool, DataW.TrodVars enc Try.prog W' sp s.vars (s.fn H (ds ++ [])).vars [] := fun sp => by rw [hs0, hs3]; rfl
  have hold : ∀ x ∈ p ++ [], (fun b => decide (b < W.heap.size)) x.block = true := fun x hx => by simpa using hlt x hx
  refine ⟨ds, [], p ++ [], [], p, [], hW', hres _ _ _, hargs _ hold, hvars _, World.keptBut_mono (fun x hx => ⟨hx, ?_⟩) (hb.frame (· ∈ p ++ [])), fun _ => ?_⟩
  · exact Or.inr (List.mem_append.1 hx)
  · refine ⟨ok_one hr rfl (okWide_bool_mk htb _), _, _, ([] ++ p) ++ [], ⟨[] ++ p, [], trodAll_append (hargs _ (fun _ _ => rfl)) (hres _ _ _), hvars _, rfl, ?_, ?_⟩, ?_⟩
    · intro b off hx
      have hin : MemPlace.cell b off ∈ p ++ [] := by simpa using hx
      rw [hb.frozen (hlt _ hin)]
      exact hz b off hin
    · intro ha; cases ha
    · intro x hx _
      simpa using hx

set_option maxRecDepth 100000 in
/-- A walk, for every argument that reads as data, is the row's step. -/
theorem law_lift {f : FuncId} {fn : Func} {s : ChangeSpec} {conds : List PathCond} (os : Os) (started : os.Started) (noInit : Try.prog.inits.idxOf? f = none) (hfn : Try.prog.funcs[f]? = some fn) {tb : TypeId}
    (hp : ∀ t ∈ fn.params.toList, Try.prog.readableRec t = true ∧ t < Try.prog.types.size) (hr : fn.resultTypes = #[tb]) (htb : Try.prog.underlying tb = some .bool) (hs0 : s.vars = [])
    (hs : ∀ ds : List (DataW H), ds.length = fn.params.toList.length → (s.fn H ds).results = [.lit (.bool true)] ∧ (s.fn H ds).args = ds ∧ (s.fn H ds).vars = [])
    (witness : ∃ (w : World) (tape : Tape) (i : Input), w.os = os ∧ (w.forCall tape i).Shaped Try.prog ∧ i.vars = [] ∧ Input.okWide Try.prog (w.forCall tape i) .any w.heap.size f i ∧
      s.pre6 enc Try.prog fn conds false (w.forCall tape i).memory i.args ∧ ({} : Assume).holds Try.prog (lone (Frame.enter Try.prog f i.args .normal) [] (w.forCall tape i)))
    (walk : ∀ (W : World) (base : Nat) (vs : List Value) (ds : List (DataW H)) (ps : List MemPlace), (∀ (j : Nat) t v, fn.params[j]? = some t → vs[j]? = some v → Value.okWide Try.prog W .any base t v) → DataW.TrodAll enc Try.prog W 0 (fun _ => true) true fn.params.toList vs ds ps → (∀ x ∈ ps, x.block < W.heap.size) →
      (DataW.weightsEach Try.prog fn.params.toList ds).all (· ≤ reachBytes) = true → Calls Try.prog f vs.toArray W (LawPost W)) :
    ReturnsInHanded {} Try.checked os f .any (s.pre6 enc Try.prog fn conds false) (s.post enc Try.prog fn false true false false) := by
  refine returnsInHanded_of_change_shaped (C := Try.checked) own started noInit hfn witness ?_
  intro W base args ds gs before hval hW hcnd hwt hsh hh
  have hlt : ∀ p ∈ before, p.block < W.heap.size := fun p hp => DataW.Whole.lt hW p hp
  have hW' := hW
  obtain ⟨p, q, hA, hV, rfl, hz, hn⟩ := hW
  rw [hs0] at hV
  obtain ⟨rfl, rfl⟩ := trodVars_none hV
  have hlen : ∀ {ts : List TypeId} {vs : List Value} {ds : List (DataW H)} {ps : List MemPlace}, DataW.TrodAll enc Try.prog W 0 (fun _ => true) true ts vs ds ps → ds.length = ts.length := by
    intro ts
    induction ts with
    | nil => intro vs ds ps h; cases vs <;> cases ds <;> simp [DataW.TrodAll] at h ⊢
    | cons t ts ih =>
      intro vs ds ps h
      cases vs <;> cases ds <;> simp [DataW.TrodAll] at h ⊢
      obtain ⟨_, _, _, hq, _⟩ := h
      exact ih hq
  have hl := hlen hA
  have hvt : DataSpec.varTypes Try.checked.prog s.plain = [] := by
    have : s.plain.vars = [] := hs0
    simp [DataSpec.varTypes, this]
  refine (walk W base args.toList ds p (fun j t v h1 h2 => hval j t v h1 (by simpa using h2)) hA (fun x hx => hlt x (by simpa using hx)) (by rw [hvt, List.append_nil, List.append_nil] at hwt; exact hwt)).mono ?_
  rintro e W' ⟨rfl, hb⟩
  obtain ⟨s1, s2, s3⟩ := hs (ds ++ []) (by simpa using hl)
  exact ⟨_, rfl, law_post hW' hp hr htb hs0 s1 (by simpa using s2) s3 hb⟩
end
end Go.Proofs.Ytmkkeglcjbogcaa
