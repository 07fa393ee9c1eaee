/-
  The search among the items of a dictionary. find. Get, Read.
-/
import Derived.Test.YtemjdmgfilbfaaaGreatM1640ab23
import Derived.Test.YtemjdmgfilbfaaaGreatM50031ff5
import Derived.Test.YtemjdmgfilbfaaaGreatMdffc7768
set_option linter.unusedVariables false
set_option linter.unusedSimpArgs false
namespace Go.Proofs.YtemjdmgfilbfaaaGreat
open Go.RowKit
open List (getElem_toArray getElem_cons_zero getElem_cons_succ setIfInBounds_toArray set_cons_zero set_cons_succ)
set_option linter.unusedVariables false

/-- Entries in order, and their values. -/
structure DOk (d : List Im) : Prop where
  srt : d.Pairwise fun a b => plE a.1 < plE b.1
  ok : ∀ x ∈ d, x.1.ok ∧ x.2.ok
  len : d.length ≤ 1024
abbrev im (l : List (Nat × Im)) : List Im := l.map (·.2)

set_option maxRecDepth 100000 in
set_option maxHeartbeats 2000000 in
theorem odFind1_any (p : Nat) (x : Im) (i s : Int) (w : World) (hx : ItAt w p x) : Calls Tryz.prog 79 #[ptr p, plV i s] w fun e w' => e = .returned (.int .i64 (ordP x.1.idx x.1.sub i s)) ∧ Frm (fun _ => False) w w' := by
  have H1 := Lib.hid (fun W => odAt_any x.1 W)
  have H3 := Lib.hid (fun W => odOrder_any x.1.idx x.1.sub i s W)
  obtain ⟨⟨i', s', ac, mp, lm, ⟨at', an, ab⟩, ⟨bt, bn, bb⟩, ⟨dt, dn, db⟩⟩, vx⟩ := x
  unfold ItAt cellsI cellsE at hx
  unfold valE at H1
  unfold plV at H1 H3
  unfold ptr
  simp only at *
  generalize ordP i' s' i s = r at *
  generalize strB2 ab = ab at *
  generalize strB2 bb = bb at *
  generalize strB2 db = db at *
  have hc : ∀ W, Frm (fun _ => False) (w.alloc (.cells #[.int .u16 i, .int .u8 s] 108)) W → (W.cell? ⟨p, 0, none⟩ = some (.int .u16 i') ∧ W.cell? ⟨p, 1, none⟩ = some (.int .u8 s') ∧ W.cell? ⟨p, 2, none⟩ = some (.int .i64 ac) ∧ W.cell? ⟨p, 3, none⟩ = some (.bool mp) ∧ W.cell? ⟨p, 4, none⟩ = some (.bool lm) ∧ W.cell? ⟨p, 5, none⟩ = some (.int .i64 at') ∧ W.cell? ⟨p, 6, none⟩ = some (.int .u64 an) ∧ W.cell? ⟨p, 7, none⟩ = some (.string ab) ∧ W.cell? ⟨p, 8, none⟩ = some (.int .i64 bt) ∧ W.cell? ⟨p, 9, none⟩ = some (.int .u64 bn) ∧ W.cell? ⟨p, 10, none⟩ = some (.string bb) ∧ W.cell? ⟨p, 11, none⟩ = some (.int .i64 dt) ∧ W.cell? ⟨p, 12, none⟩ = some (.int .u64 dn) ∧ W.cell? ⟨p, 13, none⟩ = some (.string db)) ∧
      W.cell? ⟨w.heap.size, 0, none⟩ = some (.int .u16 i) ∧ W.cell? ⟨w.heap.size, 1, none⟩ = some (.int .u8 s) := fun W hF => by
    have kx := hF.heap (heap_alloc_old hx) (fun h => h)
    have ky := hF.heap (heap_new w _) (fun h => h)
    exact ⟨⟨cell_at kx, cell_at kx, cell_at kx, cell_at kx, cell_at kx, cell_at kx, cell_at kx, cell_at kx, cell_at kx, cell_at kx, cell_at kx, cell_at kx, cell_at kx, cell_at kx⟩, cell_at ky, cell_at ky⟩
  have HCC := Lib.hid hc
  clear hx hc
  go_enter Tryz.func79, Tryz.ntmps79
  go_wp2_with fail
  refine wp_region_held_drew (S := fun W => Frm (fun _ => False) _ W) (by kernel_rfl) ((Frm.refl _ _).drew) (fun hHeld => ?_)
  refine wpAnyH_take (i := 0) (v := ?_) rfl (by kernel_rfl) (by kernel_rfl) (by kernel_rfl) (fun _ _ _ h => h) (Or.inl ⟨by rfl, ?_⟩) (by assumption) ?_; rotate_left; · (intro wq hSq; have hq := HCC.out wq hSq; go_split_ands; go_simp; (try with_reducible rfl))
  try simp only [Act.put, getElem_toArray, getElem_cons_zero, getElem_cons_succ, setIfInBounds_toArray, set_cons_zero, set_cons_succ]
  refine wpAnyH_take (i := 1) (v := ?_) rfl (by kernel_rfl) (by kernel_rfl) (by kernel_rfl) (fun _ _ _ h => h) (Or.inl ⟨by rfl, ?_⟩) (by assumption) ?_; rotate_left; · (intro wq hSq; have hq := HCC.out wq hSq; go_split_ands; go_simp; (try with_reducible rfl))
  try simp only [Act.put, getElem_toArray, getElem_cons_zero, getElem_cons_succ, setIfInBounds_toArray, set_cons_zero, set_cons_succ]
  refine wpAnyH_take (i := 2) (v := ?_) rfl (by kernel_rfl) (by kernel_rfl) (by kernel_rfl) (fun _ _ _ h => h) (Or.inl ⟨by rfl, ?_⟩) (by assumption) ?_; rotate_left; · (intro wq hSq; have hq := HCC.out wq hSq; go_split_ands; go_simp; (try with_reducible rfl))
  try simp only [Act.put, getElem_toArray, getElem_cons_zero, getElem_cons_succ, setIfInBounds_toArray, set_cons_zero, set_cons_succ]
  refine wpAnyH_take (i := 3) (v := ?_) rfl (by kernel_rfl) (by kernel_rfl) (by kernel_rfl) (fun _ _ _ h => h) (Or.inl ⟨by rfl, ?_⟩) (by assumption) ?_; rotate_left; · (intro wq hSq; have hq := HCC.out wq hSq; go_split_ands; go_simp; (try with_reducible rfl))
  try simp only [Act.put, getElem_toArray, getElem_cons_zero, getElem_cons_succ, setIfInBounds_toArray, set_cons_zero, set_cons_succ]
  refine wpAnyH_take (i := 5) (v := ?_) rfl (by kernel_rfl) (by kernel_rfl) (by kernel_rfl) (fun _ _ _ h => h) (Or.inl ⟨by rfl, ?_⟩) (by assumption) ?_; rotate_left; · (intro wq hSq; have hq := HCC.out wq hSq; go_split_ands; go_simp; (try with_reducible rfl))
  try simp only [Act.put, getElem_toArray, getElem_cons_zero, getElem_cons_succ, setIfInBounds_toArray, set_cons_zero, set_cons_succ]
  refine wpAnyH_ready (rs := [4]) (by kernel_rfl) (by simp) ?_
  refine AllReadyH.cons rfl (fun K hK => ?_) AllReadyH.nil
  try simp only [getElem_toArray, getElem_cons_zero, getElem_cons_succ]
  go_simp
  refine (H1.out _).mono ?_
  rintro e w1 ⟨rfl, hF1⟩
  go_wp2_with fail
  refine hK.out _ _ (hHeld.trans' hF1) (fun hHeld => ?_)
  clear hK K
  try simp only [Act.put, setIfInBounds_toArray, set_cons_zero, set_cons_succ]
  refine wpAnyH_ready (rs := [6]) (by kernel_rfl) (by simp) ?_
  refine AllReadyH.cons rfl (fun K hK => ?_) AllReadyH.nil
  try simp only [getElem_toArray, getElem_cons_zero, getElem_cons_succ]
  go_simp
  refine (H3.out _).mono ?_
  rintro e w2 ⟨rfl, hF2⟩
  go_wp2_with fail
  refine hK.out _ _ (hHeld.trans' hF2) (fun hHeld => ?_)
  clear hK K
  try simp only [Act.put, setIfInBounds_toArray, set_cons_zero, set_cons_succ]
  refine wpAnyH_take (i := 7) (v := ?_) rfl (by kernel_rfl) (by kernel_rfl) (by kernel_rfl) (fun _ _ _ h => h) (Or.inl ⟨by rfl, ?_⟩) (by assumption) ?_; rotate_left; · (intro wq hSq; have hq := HCC.out wq hSq; go_split_ands; go_simp; (try with_reducible rfl))
  try simp only [Act.put, getElem_toArray, getElem_cons_zero, getElem_cons_succ, setIfInBounds_toArray, set_cons_zero, set_cons_succ]
  refine wpAnyH_done (by kernel_rfl) ?_ _
  go_wp2_with fail
  go_ret
  exact ⟨rfl, Frm.trans' (b := _) (by (repeat' (first | (with_reducible exact Frm.refl _ _) | (with_reducible assumption) | (with_reducible refine Frm.alloc ?_ _) | (with_reducible refine Frm.drew ?_) | (with_reducible refine Frm.drewN ?_ _) | (with_reducible refine Frm.set1 ?_ _) | (with_reducible refine Frm.setCell ?_ ?_ _) | (exact fun h => absurd h (Nat.lt_irrefl _)) | (intro hlt; simp [World.size_alloc, One] at hlt ⊢; omega)))) hHeld⟩

theorem plI_eq (q : Nat × Im) : plI q = q.2.1.idx * 256 + q.2.1.sub := rfl

set_option maxRecDepth 100000 in
set_option maxHeartbeats 4000000 in
theorem odBin_any (v : Value) (l : List (Nat × Im)) (b : Nat) (i s : Int) (w : World) (h : w.ownsRow b 98 1 v l.length (l.map fun q => ptr q.1)) (hit : ∀ q ∈ l, ItAt w q.1 q.2) (hok : DOk (im l)) (hs : 0 ≤ s ∧ s ≤ 255) :
    Calls Tryz.prog 78 #[v, plV i s, .func (.func 79) #[] #[]] w fun e w' => Frm (fun _ => False) w w' ∧ ∃ (k : Nat) (f : Bool), e = .returned (.tuple #[.int .i64 k, .bool f]) ∧
      ((f = true ∧ ∃ hk : k < l.length, plI l[k] = i * 256 + s) ∨ (f = false ∧ ∀ q ∈ l, plI q ≠ i * 256 + s)) := by
  obtain ⟨A, cap, rfl, h1, h2, h3⟩ := row_open h
  have hlen : l.length ≤ 1024 := by have := hok.len; simpa using this
  have hmono : ∀ (a c : Nat) (ha : a < l.length) (hc : c < l.length), a ≤ c → plI l[a] ≤ plI l[c] := fun a c ha hc hac => by
    rcases Nat.lt_or_eq_of_le hac with hlt | rfl
    · have := List.pairwise_iff_getElem.1 hok.srt a c (by simpa using ha) (by simpa using hc) hlt
      simp only [List.getElem_map] at this
      exact Int.le_of_lt this
    · exact Int.le_refl _
  have hcmp : ∀ (k : Nat) (hk : k < l.length) (W : World), Frm (fun _ => False) w W → Calls Tryz.prog 79 #[ptr l[k].1, plV i s] W fun e w' => e = .returned (.int .i64 (cmpI (plI l[k]) (i * 256 + s))) ∧ Frm (fun _ => False) W w' := fun k hk W hF => by
    have hm := List.getElem_mem hk
    have ho := (hok.ok l[k].2 (List.mem_map.2 ⟨_, hm, rfl⟩)).1
    have := odFind1_any l[k].1 l[k].2 i s W ((hit _ hm).frm hF (fun h => h))
    rw [ordP_eq ⟨ho.2.2.1, ho.2.2.2.1⟩ hs] at this
    exact this
  have hcell : ∀ (k : Nat) (hk : k < l.length), ∃ g, A = some ⟨g, 0, none⟩ ∧ w.cell? ⟨g, k, none⟩ = some (ptr l[k].1) ∧ g < w.heap.size := fun k hk => by
    obtain ⟨g, e, _, ⟨cur, hc⟩, _, hcc⟩ := h3 (by omega)
    exact ⟨g, e, by rw [hcc k (by omega)]; simp [hk], lt_of_block hc⟩
  have HM := Lib.hid hmono
  have HCM := Lib.hid hcmp
  have HCE := Lib.hid hcell
  clear h hit hok hs h1 h2 h3 hmono hcmp hcell
  unfold plV ptr at HCM
  unfold ptr at HCE
  unfold plV
  generalize i * 256 + s = p at *
  go_enter Tryz.func78, Tryz.ntmps78
  go_wp2_with fail
  go_loopw [9, 10, 11] (fun a c _ wr => ∃ lo hi : Nat, a = .int .i64 lo ∧ c = .int .i64 hi ∧ lo ≤ hi ∧ hi ≤ l.length ∧ (∀ (t : Nat) (ht : t < l.length), t < lo → plI l[t] < p) ∧ (∀ (t : Nat) (ht : t < l.length), hi ≤ t → p ≤ plI l[t]) ∧ Frm (fun _ => False) (w.alloc (.cells #[.int .u16 i, .int .u8 s] 108)) wr) (fun a c _ _ => (intOf c).toNat - (intOf a).toNat)
  case atStart => exact ⟨0, l.length, rfl, rfl, by omega, by omega, fun t ht h => by omega, fun t ht h => by omega, Frm.refl _ _⟩
  case round =>
    obtain ⟨lo, hi, rfl, rfl, hlh, hhl, hA, hB, hF⟩ := hrel
    have HFR := Lib.hid hF
    have HLO := Lib.hid hA
    have HHI := Lib.hid hB
    clear hA hB hF
    by_cases hlt : lo < hi
    · go_upto_region 5 with fail
      obtain ⟨m, hm, hm1, hm2⟩ : ∃ m : Nat, ((lo : Int) + hi) / 2 = m ∧ lo ≤ m ∧ m < hi := ⟨(lo + hi) / 2, by omega, by omega, by omega⟩
      rw [hm]
      have hml : m < l.length := by omega
      have HBND := Lib.hid hm
      obtain ⟨g, rfl, hcl, hg⟩ := HCE.out m hml
      have HQ := Lib.hid (HCM.out m hml)
      have hc : ∀ W, Frm (fun _ => False) (w.alloc (.cells #[.int .u16 i, .int .u8 s] 108)) W → W.cell? ⟨g, m, none⟩ = some (.pointer (some ⟨l[m].1, 0, none⟩)) ∧ W.cell? ⟨w.heap.size, 0, none⟩ = some (.int .u16 i) ∧ W.cell? ⟨w.heap.size, 1, none⟩ = some (.int .u8 s) := fun W hF => by
        have ky := hF.heap (heap_new w _) (fun h => h)
        exact ⟨hF.cell (cell_alloc_old hcl) (fun h => h), cell_at ky, cell_at ky⟩
      have HCC := Lib.hid hc
      have HP1 : Hid (plI l[m] < p → ∀ (t : Nat) (ht : t < l.length), t < m + 1 → plI l[t] < p) := fun h t ht h2 => Int.lt_of_le_of_lt (HM.out t m ht hml (by omega)) h
      have HP2 : Hid (p ≤ plI l[m] → ∀ (t : Nat) (ht : t < l.length), m ≤ t → p ≤ plI l[t]) := fun h t ht h2 => Int.le_trans h (HM.out m t hml ht h2)
      have hfin : cmpI (plI l[m]) p < 0 ↔ plI l[m] < p := cmpI_neg
      have HFI := Lib.hid hfin
      generalize l[m].1 = pm at *
      generalize plI l[m] = zm at *
      generalize cmpI zm p = cz at *
      have HFR2 := HFR.out
      clear hm hc hcl hfin
      refine wp_region_held_drew (S := fun W => Frm (fun _ => False) _ W) (by kernel_rfl) (HFR2.drew) (fun hHeld => ?_)
      refine wpAnyH_take (i := 0) (v := ?_) rfl (by kernel_rfl) (by kernel_rfl) (by kernel_rfl) (fun _ _ _ h => h) (Or.inl ⟨by rfl, ?_⟩) (by assumption) ?_; rotate_left; · (intro wq hSq; have hq := HCC.out wq hSq; go_split_ands; go_simp; (try with_reducible rfl))
      try simp only [Act.put, getElem_toArray, getElem_cons_zero, getElem_cons_succ, setIfInBounds_toArray, set_cons_zero, set_cons_succ]
      refine wpAnyH_take (i := 1) (v := ?_) rfl (by kernel_rfl) (by kernel_rfl) (by kernel_rfl) (fun _ _ _ h => h) (Or.inl ⟨by rfl, ?_⟩) (by assumption) ?_; rotate_left; · (intro wq hSq; have hq := HCC.out wq hSq; go_split_ands; go_simp; (try with_reducible rfl))
      try simp only [Act.put, getElem_toArray, getElem_cons_zero, getElem_cons_succ, setIfInBounds_toArray, set_cons_zero, set_cons_succ]
      refine wpAnyH_take (i := 2) (v := ?_) rfl (by kernel_rfl) (by kernel_rfl) (by kernel_rfl) (fun _ _ _ h => h) (Or.inl ⟨by rfl, ?_⟩) (by assumption) ?_; rotate_left; · (intro wq hSq; have hq := HCC.out wq hSq; go_split_ands; go_simp; (try with_reducible rfl))
      try simp only [Act.put, getElem_toArray, getElem_cons_zero, getElem_cons_succ, setIfInBounds_toArray, set_cons_zero, set_cons_succ]
      refine wpAnyH_take (i := 3) (v := ?_) rfl (by kernel_rfl) (by kernel_rfl) (by kernel_rfl) (fun _ _ _ h => h) (Or.inl ⟨by rfl, ?_⟩) (by assumption) ?_; rotate_left; · (intro wq hSq; have hq := HCC.out wq hSq; go_split_ands; go_simp; (try with_reducible rfl))
      try simp only [Act.put, getElem_toArray, getElem_cons_zero, getElem_cons_succ, setIfInBounds_toArray, set_cons_zero, set_cons_succ]
      refine wpAnyH_take (i := 4) (v := ?_) rfl (by kernel_rfl) (by kernel_rfl) (by kernel_rfl) (fun _ _ _ h => h) (Or.inl ⟨by rfl, ?_⟩) (by assumption) ?_; rotate_left; · (intro wq hSq; have hq := HCC.out wq hSq; go_split_ands; go_simp; (try with_reducible rfl))
      try simp only [Act.put, getElem_toArray, getElem_cons_zero, getElem_cons_succ, setIfInBounds_toArray, set_cons_zero, set_cons_succ]
      refine wpAnyH_take (i := 5) (v := ?_) rfl (by kernel_rfl) (by kernel_rfl) (by kernel_rfl) (fun _ _ _ h => h) (Or.inl ⟨by rfl, ?_⟩) (by assumption) ?_; rotate_left; · (intro wq hSq; have hq := HCC.out wq hSq; go_split_ands; go_simp; (try with_reducible rfl))
      try simp only [Act.put, getElem_toArray, getElem_cons_zero, getElem_cons_succ, setIfInBounds_toArray, set_cons_zero, set_cons_succ]
      refine wpAnyH_ready (rs := [6]) (by kernel_rfl) (by simp) ?_
      refine AllReadyH.cons rfl (fun K hK => ?_) AllReadyH.nil
      try simp only [getElem_toArray, getElem_cons_zero, getElem_cons_succ]
      go_simp
      refine (HQ.out _ (Frm.trans' (b := _) (by (repeat' (first | (with_reducible exact Frm.refl _ _) | (with_reducible assumption) | (with_reducible refine Frm.alloc ?_ _) | (with_reducible refine Frm.drew ?_) | (with_reducible refine Frm.drewN ?_ _) | (with_reducible refine Frm.set1 ?_ _) | (with_reducible refine Frm.setCell ?_ ?_ _) | (exact fun h => absurd h (Nat.lt_irrefl _)) | (intro hlt; simp [World.size_alloc, One] at hlt ⊢; omega)))) hHeld)).mono ?_
      rintro e w2 ⟨rfl, hF2⟩
      go_wp2_with fail
      refine hK.out _ _ (hHeld.trans' hF2) (fun hHeld => ?_)
      clear hK K
      try simp only [Act.put, setIfInBounds_toArray, set_cons_zero, set_cons_succ]
      refine wpAnyH_take (i := 7) (v := ?_) rfl (by kernel_rfl) (by kernel_rfl) (by kernel_rfl) (fun _ _ _ h => h) (Or.inl ⟨by rfl, ?_⟩) (by assumption) ?_; rotate_left; · (intro wq hSq; have hq := HCC.out wq hSq; go_split_ands; go_simp; (try with_reducible rfl))
      try simp only [Act.put, getElem_toArray, getElem_cons_zero, getElem_cons_succ, setIfInBounds_toArray, set_cons_zero, set_cons_succ]
      refine wpAnyH_done (by kernel_rfl) ?_ _
      by_cases hz : cz < 0
      · have E := Lib.hid (HP1.out (HFI.out.1 hz))
        have hz2 : decide (cz < 0) = true := decide_eq_true hz
        go_wp2_with fail
        go_roundw
        case rel => exact ⟨m + 1, hi, by go_num, rfl, by omega, hhl, E.out, HHI.out, hHeld⟩
        case measure => simp [intOf]; omega
      · have E := Lib.hid (HP2.out (Int.not_lt.1 (fun h => hz (HFI.out.2 h))))
        have hz2 : decide (cz < 0) = false := decide_eq_false hz
        go_wp2_with fail
        go_roundw
        case rel => exact ⟨lo, m, rfl, rfl, by omega, by omega, HLO.out, E.out, hHeld⟩
        case measure => simp [intOf]; omega
    · go_upto_region 8 with fail
      have HFR2 := HFR.out
      obtain rfl : lo = hi := by omega
      by_cases hml : lo < l.length
      · obtain ⟨g, rfl, hcl, hg⟩ := HCE.out lo hml
        have HQ := Lib.hid (HCM.out lo hml)
        have hc : ∀ W, Frm (fun _ => False) (w.alloc (.cells #[.int .u16 i, .int .u8 s] 108)) W → W.cell? ⟨g, lo, none⟩ = some (.pointer (some ⟨l[lo].1, 0, none⟩)) ∧ W.cell? ⟨w.heap.size, 0, none⟩ = some (.int .u16 i) ∧ W.cell? ⟨w.heap.size, 1, none⟩ = some (.int .u8 s) := fun W hF => by
          have ky := hF.heap (heap_new w _) (fun h => h)
          exact ⟨hF.cell (cell_alloc_old hcl) (fun h => h), cell_at ky, cell_at ky⟩
        have HCC := Lib.hid hc
        have HZ : Hid (∀ e, (decide (cmpI (plI l[lo]) p = 0)) = e → ((e = true ∧ ∃ hk : lo < l.length, plI l[lo] = p) ∨ (e = false ∧ ∀ q ∈ l, plI q ≠ p))) := fun e he => by
          have hge := HHI.out lo hml (Nat.le_refl _)
          by_cases hz : plI l[lo] = p
          · exact .inl ⟨by rw [← he]; simp [cmpI, hz], hml, hz⟩
          · refine .inr ⟨by rw [← he]; simp [cmpI]; split <;> simp <;> omega, fun q hq e2 => ?_⟩
            obtain ⟨t, ht, rfl⟩ := List.getElem_of_mem hq
            rcases Nat.lt_or_ge t lo with h1 | h1
            · have := HLO.out t ht h1; omega
            · have := HM.out lo t hml ht h1; omega
        generalize l[lo].1 = pm at *
        generalize cmpI (plI l[lo]) p = cz at *
        clear hc hcl
        refine wp_region_held_drew (S := fun W => Frm (fun _ => False) _ W) (by kernel_rfl) (HFR2.drew) (fun hHeld => ?_)
        refine wpAnyH_take (i := 0) (v := ?_) rfl (by kernel_rfl) (by kernel_rfl) (by kernel_rfl) (fun _ _ _ h => h) (Or.inl ⟨by rfl, ?_⟩) (by assumption) ?_; rotate_left; · (intro wq hSq; have hq := HCC.out wq hSq; go_split_ands; go_simp; (try with_reducible rfl))
        try simp only [Act.put, getElem_toArray, getElem_cons_zero, getElem_cons_succ, setIfInBounds_toArray, set_cons_zero, set_cons_succ]
        refine wpAnyH_take (i := 1) (v := ?_) rfl (by kernel_rfl) (by kernel_rfl) (by kernel_rfl) (fun _ _ _ h => h) (Or.inl ⟨by rfl, ?_⟩) (by assumption) ?_; rotate_left; · (intro wq hSq; have hq := HCC.out wq hSq; go_split_ands; go_simp; (try with_reducible rfl))
        try simp only [Act.put, getElem_toArray, getElem_cons_zero, getElem_cons_succ, setIfInBounds_toArray, set_cons_zero, set_cons_succ]
        refine wpAnyH_take (i := 2) (v := ?_) rfl (by kernel_rfl) (by kernel_rfl) (by kernel_rfl) (fun _ _ _ h => h) (Or.inl ⟨by rfl, ?_⟩) (by assumption) ?_; rotate_left; · (intro wq hSq; have hq := HCC.out wq hSq; go_split_ands; go_simp; (try with_reducible rfl))
        try simp only [Act.put, getElem_toArray, getElem_cons_zero, getElem_cons_succ, setIfInBounds_toArray, set_cons_zero, set_cons_succ]
        refine wpAnyH_take (i := 3) (v := ?_) rfl (by kernel_rfl) (by kernel_rfl) (by kernel_rfl) (fun _ _ _ h => h) (Or.inl ⟨by rfl, ?_⟩) (by assumption) ?_; rotate_left; · (intro wq hSq; have hq := HCC.out wq hSq; go_split_ands; go_simp; (try with_reducible rfl))
        try simp only [Act.put, getElem_toArray, getElem_cons_zero, getElem_cons_succ, setIfInBounds_toArray, set_cons_zero, set_cons_succ]
        refine wpAnyH_take (i := 4) (v := ?_) rfl (by kernel_rfl) (by kernel_rfl) (by kernel_rfl) (fun _ _ _ h => h) (Or.inl ⟨by rfl, ?_⟩) (by assumption) ?_; rotate_left; · (intro wq hSq; have hq := HCC.out wq hSq; go_split_ands; go_simp; (try with_reducible rfl))
        try simp only [Act.put, getElem_toArray, getElem_cons_zero, getElem_cons_succ, setIfInBounds_toArray, set_cons_zero, set_cons_succ]
        refine wpAnyH_take (i := 5) (v := ?_) rfl (by kernel_rfl) (by kernel_rfl) (by kernel_rfl) (fun _ _ _ h => h) (Or.inl ⟨by rfl, ?_⟩) (by assumption) ?_; rotate_left; · (intro wq hSq; have hq := HCC.out wq hSq; go_split_ands; go_simp; (try with_reducible rfl))
        try simp only [Act.put, getElem_toArray, getElem_cons_zero, getElem_cons_succ, setIfInBounds_toArray, set_cons_zero, set_cons_succ]
        refine wpAnyH_take (i := 6) (v := ?_) rfl (by kernel_rfl) (by kernel_rfl) (by kernel_rfl) (fun _ _ _ h => h) (Or.inl ⟨by rfl, ?_⟩) (by assumption) ?_; rotate_left; · (intro wq hSq; have hq := HCC.out wq hSq; go_split_ands; go_simp; (try with_reducible rfl))
        try simp only [Act.put, getElem_toArray, getElem_cons_zero, getElem_cons_succ, setIfInBounds_toArray, set_cons_zero, set_cons_succ]
        refine wpAnyH_take (i := 7) (v := ?_) rfl (by kernel_rfl) (by kernel_rfl) (by kernel_rfl) (fun _ _ _ h => h) (Or.inl ⟨by rfl, ?_⟩) (by assumption) ?_; rotate_left; · (intro wq hSq; have hq := HCC.out wq hSq; go_split_ands; go_simp; (try with_reducible rfl))
        try simp only [Act.put, getElem_toArray, getElem_cons_zero, getElem_cons_succ, setIfInBounds_toArray, set_cons_zero, set_cons_succ]
        refine wpAnyH_take (i := 8) (v := ?_) rfl (by kernel_rfl) (by kernel_rfl) (by kernel_rfl) (fun _ _ _ h => h) (Or.inl ⟨by rfl, ?_⟩) (by assumption) ?_; rotate_left; · (intro wq hSq; have hq := HCC.out wq hSq; go_split_ands; go_simp; (try with_reducible rfl))
        try simp only [Act.put, getElem_toArray, getElem_cons_zero, getElem_cons_succ, setIfInBounds_toArray, set_cons_zero, set_cons_succ]
        refine wpAnyH_take (i := 9) (v := ?_) rfl (by kernel_rfl) (by kernel_rfl) (by kernel_rfl) (fun _ _ _ h => h) (Or.inl ⟨by rfl, ?_⟩) (by assumption) ?_; rotate_left; · (intro wq hSq; have hq := HCC.out wq hSq; go_split_ands; go_simp; (try with_reducible rfl))
        try simp only [Act.put, getElem_toArray, getElem_cons_zero, getElem_cons_succ, setIfInBounds_toArray, set_cons_zero, set_cons_succ]
        refine wpAnyH_take (i := 10) (v := ?_) rfl (by kernel_rfl) (by kernel_rfl) (by kernel_rfl) (fun _ _ _ h => h) (Or.inl ⟨by rfl, ?_⟩) (by assumption) ?_; rotate_left; · (intro wq hSq; have hq := HCC.out wq hSq; go_split_ands; go_simp; (try with_reducible rfl))
        try simp only [Act.put, getElem_toArray, getElem_cons_zero, getElem_cons_succ, setIfInBounds_toArray, set_cons_zero, set_cons_succ]
        refine wpAnyH_ready (rs := [11]) (by kernel_rfl) (by simp) ?_
        refine AllReadyH.cons rfl (fun K hK => ?_) AllReadyH.nil
        try simp only [getElem_toArray, getElem_cons_zero, getElem_cons_succ]
        go_simp
        refine (HQ.out _ (Frm.trans' (b := _) (by (repeat' (first | (with_reducible exact Frm.refl _ _) | (with_reducible assumption) | (with_reducible refine Frm.alloc ?_ _) | (with_reducible refine Frm.drew ?_) | (with_reducible refine Frm.drewN ?_ _) | (with_reducible refine Frm.set1 ?_ _) | (with_reducible refine Frm.setCell ?_ ?_ _) | (exact fun h => absurd h (Nat.lt_irrefl _)) | (intro hlt; simp [World.size_alloc, One] at hlt ⊢; omega)))) hHeld)).mono ?_
        rintro e w2 ⟨rfl, hF2⟩
        go_wp2_with fail
        refine hK.out _ _ (hHeld.trans' hF2) (fun hHeld => ?_)
        clear hK K
        try simp only [Act.put, setIfInBounds_toArray, set_cons_zero, set_cons_succ]
        refine wpAnyH_take (i := 12) (v := ?_) rfl (by kernel_rfl) (by kernel_rfl) (by kernel_rfl) (fun _ _ _ h => h) (Or.inl ⟨by rfl, ?_⟩) (by assumption) ?_; rotate_left; · (intro wq hSq; have hq := HCC.out wq hSq; go_split_ands; go_simp; (try with_reducible rfl))
        try simp only [Act.put, getElem_toArray, getElem_cons_zero, getElem_cons_succ, setIfInBounds_toArray, set_cons_zero, set_cons_succ]
        refine wpAnyH_take (i := 13) (v := ?_) rfl (by kernel_rfl) (by kernel_rfl) (by kernel_rfl) (fun _ _ _ h => h) (Or.inl ⟨by rfl, ?_⟩) (by assumption) ?_; rotate_left; · (intro wq hSq; have hq := HCC.out wq hSq; go_split_ands; go_simp; (try with_reducible rfl))
        try simp only [Act.put, getElem_toArray, getElem_cons_zero, getElem_cons_succ, setIfInBounds_toArray, set_cons_zero, set_cons_succ]
        refine wpAnyH_take (i := 14) (v := ?_) rfl (by kernel_rfl) (by kernel_rfl) (by kernel_rfl) (fun _ _ _ h => h) (Or.inl ⟨by rfl, ?_⟩) (by assumption) ?_; rotate_left; · (intro wq hSq; have hq := HCC.out wq hSq; go_split_ands; go_simp; (try with_reducible rfl))
        try simp only [Act.put, getElem_toArray, getElem_cons_zero, getElem_cons_succ, setIfInBounds_toArray, set_cons_zero, set_cons_succ]
        refine wpAnyH_take (i := 15) (v := ?_) rfl (by kernel_rfl) (by kernel_rfl) (by kernel_rfl) (fun _ _ _ h => h) (Or.inl ⟨by rfl, ?_⟩) (by assumption) ?_; rotate_left; · (intro wq hSq; have hq := HCC.out wq hSq; go_split_ands; go_simp; (try with_reducible rfl))
        try simp only [Act.put, getElem_toArray, getElem_cons_zero, getElem_cons_succ, setIfInBounds_toArray, set_cons_zero, set_cons_succ]
        refine wpAnyH_done (by kernel_rfl) ?_ _
        go_wp2_with fail
        go_ret2
        exact ⟨Frm.trans' (b := _) (by (repeat' (first | (with_reducible exact Frm.refl _ _) | (with_reducible assumption) | (with_reducible refine Frm.alloc ?_ _) | (with_reducible refine Frm.drew ?_) | (with_reducible refine Frm.drewN ?_ _) | (with_reducible refine Frm.set1 ?_ _) | (with_reducible refine Frm.setCell ?_ ?_ _) | (exact fun h => absurd h (Nat.lt_irrefl _)) | (intro hlt; simp [World.size_alloc, One] at hlt ⊢; omega)))) hHeld, lo, _, rfl, HZ.out _ rfl⟩
      · have HZ : Hid (∀ q ∈ l, plI q ≠ p) := fun q hq e2 => by
          obtain ⟨t, ht, rfl⟩ := List.getElem_of_mem hq
          have := HLO.out t ht (by omega)
          omega
        have htr : ∀ W : World, Frm (fun _ => False) (w.alloc (.cells #[.int .u16 i, .int .u8 s] 108)) W → True := fun _ _ => trivial
        have HCC := Lib.hid htr
        clear htr
        refine wp_region_held_drew (S := fun W => Frm (fun _ => False) _ W) (by kernel_rfl) (HFR2.drew) (fun hHeld => ?_)
        refine wpAnyH_take (i := 0) (v := ?_) rfl (by kernel_rfl) (by kernel_rfl) (by kernel_rfl) (fun _ _ _ h => h) (Or.inl ⟨by rfl, ?_⟩) (by assumption) ?_; rotate_left; · (intro wq hSq; have hq := HCC.out wq hSq; go_split_ands; go_simp; (try with_reducible rfl))
        try simp only [Act.put, getElem_toArray, getElem_cons_zero, getElem_cons_succ, setIfInBounds_toArray, set_cons_zero, set_cons_succ]
        refine wpAnyH_take (i := 1) (v := ?_) rfl (by kernel_rfl) (by kernel_rfl) (by kernel_rfl) (fun _ _ _ h => h) (Or.inl ⟨by rfl, ?_⟩) (by assumption) ?_; rotate_left; · (intro wq hSq; have hq := HCC.out wq hSq; go_split_ands; go_simp; (try with_reducible rfl))
        try simp only [Act.put, getElem_toArray, getElem_cons_zero, getElem_cons_succ, setIfInBounds_toArray, set_cons_zero, set_cons_succ]
        refine wpAnyH_take (i := 2) (v := ?_) rfl (by kernel_rfl) (by kernel_rfl) (by kernel_rfl) (fun _ _ _ h => h) (Or.inl ⟨by rfl, ?_⟩) (by assumption) ?_; rotate_left; · (intro wq hSq; have hq := HCC.out wq hSq; go_split_ands; go_simp; (try with_reducible rfl))
        try simp only [Act.put, getElem_toArray, getElem_cons_zero, getElem_cons_succ, setIfInBounds_toArray, set_cons_zero, set_cons_succ]
        refine wpAnyH_take (i := 3) (v := ?_) rfl (by kernel_rfl) (by kernel_rfl) (by kernel_rfl) (fun _ _ _ h => h) (Or.inl ⟨by rfl, ?_⟩) (by assumption) ?_; rotate_left; · (intro wq hSq; have hq := HCC.out wq hSq; go_split_ands; go_simp; (try with_reducible rfl))
        try simp only [Act.put, getElem_toArray, getElem_cons_zero, getElem_cons_succ, setIfInBounds_toArray, set_cons_zero, set_cons_succ]
        refine wpAnyH_take (i := 4) (v := ?_) rfl (by kernel_rfl) (by kernel_rfl) (by kernel_rfl) (fun _ _ _ h => h) (Or.inl ⟨by rfl, ?_⟩) (by assumption) ?_; rotate_left; · (intro wq hSq; have hq := HCC.out wq hSq; go_split_ands; go_simp; (try with_reducible rfl))
        try simp only [Act.put, getElem_toArray, getElem_cons_zero, getElem_cons_succ, setIfInBounds_toArray, set_cons_zero, set_cons_succ]
        refine wpAnyH_take (i := 5) (v := undef) rfl (by kernel_rfl) (by kernel_rfl) (by kernel_rfl) (fun _ _ _ h => h) (Or.inr ⟨by rfl, rfl⟩) (by assumption) ?_
        try simp only [Act.put, getElem_toArray, getElem_cons_zero, getElem_cons_succ, setIfInBounds_toArray, set_cons_zero, set_cons_succ]
        refine wpAnyH_take (i := 6) (v := undef) rfl (by kernel_rfl) (by kernel_rfl) (by kernel_rfl) (fun _ _ _ h => h) (Or.inr ⟨by rfl, rfl⟩) (by assumption) ?_
        try simp only [Act.put, getElem_toArray, getElem_cons_zero, getElem_cons_succ, setIfInBounds_toArray, set_cons_zero, set_cons_succ]
        refine wpAnyH_take (i := 7) (v := undef) rfl (by kernel_rfl) (by kernel_rfl) (by kernel_rfl) (fun _ _ _ h => h) (Or.inr ⟨by rfl, rfl⟩) (by assumption) ?_
        try simp only [Act.put, getElem_toArray, getElem_cons_zero, getElem_cons_succ, setIfInBounds_toArray, set_cons_zero, set_cons_succ]
        refine wpAnyH_take (i := 8) (v := undef) rfl (by kernel_rfl) (by kernel_rfl) (by kernel_rfl) (fun _ _ _ h => h) (Or.inr ⟨by rfl, rfl⟩) (by assumption) ?_
        try simp only [Act.put, getElem_toArray, getElem_cons_zero, getElem_cons_succ, setIfInBounds_toArray, set_cons_zero, set_cons_succ]
        refine wpAnyH_take (i := 9) (v := undef) rfl (by kernel_rfl) (by kernel_rfl) (by kernel_rfl) (fun _ _ _ h => h) (Or.inr ⟨by rfl, rfl⟩) (by assumption) ?_
        try simp only [Act.put, getElem_toArray, getElem_cons_zero, getElem_cons_succ, setIfInBounds_toArray, set_cons_zero, set_cons_succ]
        refine wpAnyH_take (i := 10) (v := undef) rfl (by kernel_rfl) (by kernel_rfl) (by kernel_rfl) (fun _ _ _ h => h) (Or.inr ⟨by rfl, rfl⟩) (by assumption) ?_
        try simp only [Act.put, getElem_toArray, getElem_cons_zero, getElem_cons_succ, setIfInBounds_toArray, set_cons_zero, set_cons_succ]
        refine wpAnyH_take (i := 11) (v := undef) rfl (by kernel_rfl) (by kernel_rfl) (by kernel_rfl) (fun _ _ _ h => h) (Or.inr ⟨by rfl, rfl⟩) (by assumption) ?_
        try simp only [Act.put, getElem_toArray, getElem_cons_zero, getElem_cons_succ, setIfInBounds_toArray, set_cons_zero, set_cons_succ]
        refine wpAnyH_take (i := 12) (v := undef) rfl (by kernel_rfl) (by kernel_rfl) (by kernel_rfl) (fun _ _ _ h => h) (Or.inr ⟨by rfl, rfl⟩) (by assumption) ?_
        try simp only [Act.put, getElem_toArray, getElem_cons_zero, getElem_cons_succ, setIfInBounds_toArray, set_cons_zero, set_cons_succ]
        refine wpAnyH_take (i := 13) (v := ?_) rfl (by kernel_rfl) (by kernel_rfl) (by kernel_rfl) (fun _ _ _ h => h) (Or.inl ⟨by rfl, ?_⟩) (by assumption) ?_; rotate_left; · (intro wq hSq; have hq := HCC.out wq hSq; go_split_ands; go_simp; (try with_reducible rfl))
        try simp only [Act.put, getElem_toArray, getElem_cons_zero, getElem_cons_succ, setIfInBounds_toArray, set_cons_zero, set_cons_succ]
        refine wpAnyH_take (i := 14) (v := ?_) rfl (by kernel_rfl) (by kernel_rfl) (by kernel_rfl) (fun _ _ _ h => h) (Or.inl ⟨by rfl, ?_⟩) (by assumption) ?_; rotate_left; · (intro wq hSq; have hq := HCC.out wq hSq; go_split_ands; go_simp; (try with_reducible rfl))
        try simp only [Act.put, getElem_toArray, getElem_cons_zero, getElem_cons_succ, setIfInBounds_toArray, set_cons_zero, set_cons_succ]
        refine wpAnyH_take (i := 15) (v := ?_) rfl (by kernel_rfl) (by kernel_rfl) (by kernel_rfl) (fun _ _ _ h => h) (Or.inl ⟨by rfl, ?_⟩) (by assumption) ?_; rotate_left; · (intro wq hSq; have hq := HCC.out wq hSq; go_split_ands; go_simp; (try with_reducible rfl))
        try simp only [Act.put, getElem_toArray, getElem_cons_zero, getElem_cons_succ, setIfInBounds_toArray, set_cons_zero, set_cons_succ]
        refine wpAnyH_done (by kernel_rfl) ?_ _
        go_wp2_with fail
        go_ret2
        exact ⟨Frm.trans' (b := _) (by (repeat' (first | (with_reducible exact Frm.refl _ _) | (with_reducible assumption) | (with_reducible refine Frm.alloc ?_ _) | (with_reducible refine Frm.drew ?_) | (with_reducible refine Frm.drewN ?_ _) | (with_reducible refine Frm.set1 ?_ _) | (with_reducible refine Frm.setCell ?_ ?_ _) | (exact fun h => absurd h (Nat.lt_irrefl _)) | (intro hlt; simp [World.size_alloc, One] at hlt ⊢; omega)))) hHeld, lo, false, rfl, .inr ⟨rfl, HZ.out⟩⟩
end Go.Proofs.YtemjdmgfilbfaaaGreat
namespace Go.Proofs.YtemjdmgfilbfaaaGreat
open Go.RowKit
open List (getElem_toArray getElem_cons_zero getElem_cons_succ setIfInBounds_toArray set_cons_zero set_cons_succ)
set_option linter.unusedVariables false

theorem odFind2_any (p gi : Nat) (x i : Int) (w : World) (hx : w.cell? ⟨p, 0, none⟩ = some (.int .u16 x)) (hi : w.cell? ⟨gi, 0, none⟩ = some (.int .u16 i)) :
    Calls Tryz.prog 81 #[ptr p, ptr gi] w fun e w' => e = .returned (.bool (x == i)) ∧ Frm (fun _ => False) w w' := by
  unfold ptr
  have hc : ∀ W, Frm (fun _ => False) w W → W.cell? ⟨p, 0, none⟩ = some (.int .u16 x) ∧ W.cell? ⟨gi, 0, none⟩ = some (.int .u16 i) := fun W hF => ⟨hF.cell hx (fun h => h), hF.cell hi (fun h => h)⟩
  have HCC := Lib.hid hc
  clear hx hi hc
  go_enter Tryz.func81, Tryz.ntmps81
  go_wp2_with fail
  refine wp_region_held_drew (S := fun W => Frm (fun _ => False) _ W) (by kernel_rfl) ((Frm.refl _ _).drew) (fun hHeld => ?_)
  refine wpAnyH_take (i := 0) (v := ?_) rfl (by kernel_rfl) (by kernel_rfl) (by kernel_rfl) (fun _ _ _ h => h) (Or.inl ⟨by rfl, ?_⟩) (by assumption) ?_; rotate_left; · (intro wq hSq; have hq := HCC.out wq hSq; go_split_ands; go_simp; (try with_reducible rfl))
  try simp only [Act.put, getElem_toArray, getElem_cons_zero, getElem_cons_succ, setIfInBounds_toArray, set_cons_zero, set_cons_succ]
  refine wpAnyH_take (i := 1) (v := ?_) rfl (by kernel_rfl) (by kernel_rfl) (by kernel_rfl) (fun _ _ _ h => h) (Or.inl ⟨by rfl, ?_⟩) (by assumption) ?_; rotate_left; · (intro wq hSq; have hq := HCC.out wq hSq; go_split_ands; go_simp; (try with_reducible rfl))
  try simp only [Act.put, getElem_toArray, getElem_cons_zero, getElem_cons_succ, setIfInBounds_toArray, set_cons_zero, set_cons_succ]
  refine wpAnyH_take (i := 2) (v := ?_) rfl (by kernel_rfl) (by kernel_rfl) (by kernel_rfl) (fun _ _ _ h => h) (Or.inl ⟨by rfl, ?_⟩) (by assumption) ?_; rotate_left; · (intro wq hSq; have hq := HCC.out wq hSq; go_split_ands; go_simp; (try with_reducible rfl))
  try simp only [Act.put, getElem_toArray, getElem_cons_zero, getElem_cons_succ, setIfInBounds_toArray, set_cons_zero, set_cons_succ]
  refine wpAnyH_take (i := 3) (v := ?_) rfl (by kernel_rfl) (by kernel_rfl) (by kernel_rfl) (fun _ _ _ h => h) (Or.inl ⟨by rfl, ?_⟩) (by assumption) ?_; rotate_left; · (intro wq hSq; have hq := HCC.out wq hSq; go_split_ands; go_simp; (try with_reducible rfl))
  try simp only [Act.put, getElem_toArray, getElem_cons_zero, getElem_cons_succ, setIfInBounds_toArray, set_cons_zero, set_cons_succ]
  refine wpAnyH_take (i := 4) (v := ?_) rfl (by kernel_rfl) (by kernel_rfl) (by kernel_rfl) (fun _ _ _ h => h) (Or.inl ⟨by rfl, ?_⟩) (by assumption) ?_; rotate_left; · (intro wq hSq; have hq := HCC.out wq hSq; go_split_ands; go_simp; (try with_reducible rfl))
  try simp only [Act.put, getElem_toArray, getElem_cons_zero, getElem_cons_succ, setIfInBounds_toArray, set_cons_zero, set_cons_succ]
  refine wpAnyH_take (i := 5) (v := ?_) rfl (by kernel_rfl) (by kernel_rfl) (by kernel_rfl) (fun _ _ _ h => h) (Or.inl ⟨by rfl, ?_⟩) (by assumption) ?_; rotate_left; · (intro wq hSq; have hq := HCC.out wq hSq; go_split_ands; go_simp; (try with_reducible rfl))
  try simp only [Act.put, getElem_toArray, getElem_cons_zero, getElem_cons_succ, setIfInBounds_toArray, set_cons_zero, set_cons_succ]
  refine wpAnyH_take (i := 6) (v := ?_) rfl (by kernel_rfl) (by kernel_rfl) (by kernel_rfl) (fun _ _ _ h => h) (Or.inl ⟨by rfl, ?_⟩) (by assumption) ?_; rotate_left; · (intro wq hSq; have hq := HCC.out wq hSq; go_split_ands; go_simp; (try with_reducible rfl))
  try simp only [Act.put, getElem_toArray, getElem_cons_zero, getElem_cons_succ, setIfInBounds_toArray, set_cons_zero, set_cons_succ]
  refine wpAnyH_take (i := 7) (v := ?_) rfl (by kernel_rfl) (by kernel_rfl) (by kernel_rfl) (fun _ _ _ h => h) (Or.inl ⟨by rfl, ?_⟩) (by assumption) ?_; rotate_left; · (intro wq hSq; have hq := HCC.out wq hSq; go_split_ands; go_simp; (try with_reducible rfl))
  try simp only [Act.put, getElem_toArray, getElem_cons_zero, getElem_cons_succ, setIfInBounds_toArray, set_cons_zero, set_cons_succ]
  refine wpAnyH_done (by kernel_rfl) ?_ _
  go_wp2_with fail
  go_ret
  exact ⟨rfl, hHeld⟩

set_option maxRecDepth 100000 in
set_option maxHeartbeats 2000000 in
theorem odIdx_any (v : Value) (l : List (Nat × Im)) (b gi : Nat) (i : Int) (w : World) (h : w.ownsRow b 98 1 v l.length (l.map fun q => ptr q.1)) (hit : ∀ q ∈ l, ItAt w q.1 q.2) (hl : l.length ≤ 1024) (hgi : w.cell? ⟨gi, 0, none⟩ = some (.int .u16 i)) :
    Calls Tryz.prog 102 #[v, .func (.func 81) #[] #[ptr gi]] w fun e w' => Frm (fun _ => False) w w' ∧ ∃ r : Int, e = .returned (.int .i64 r) ∧ decide (0 ≤ r) = l.any fun q => q.2.1.idx == i := by
  obtain ⟨A, cap, rfl, h1, h2, h3⟩ := row_open h
  have hcell : ∀ (k : Nat) (hk : k < l.length), ∃ g, A = some ⟨g, 0, none⟩ ∧ w.cell? ⟨g, k, none⟩ = some (ptr l[k].1) ∧ g < w.heap.size ∧ w.cell? ⟨l[k].1, 0, none⟩ = some (.int .u16 l[k].2.1.idx) := fun k hk => by
    obtain ⟨g, e, _, ⟨cur, hc⟩, _, hcc⟩ := h3 (by omega)
    exact ⟨g, e, by rw [hcc k (by omega)]; simp [hk], lt_of_block hc, cell_at (hit _ (List.getElem_mem hk))⟩
  have HCE := Lib.hid hcell
  clear h hit h1 h2 h3 hcell
  unfold ptr at HCE
  unfold ptr
  go_enter Tryz.func102, Tryz.ntmps102
  go_wp2_with fail
  go_loopw [5, 8] (fun _ c wr => ∃ k : Nat, c = .int .i64 k ∧ k ≤ l.length ∧ (∀ (t : Nat) (ht : t < l.length), t < k → l[t].2.1.idx ≠ i) ∧ Frm (fun _ => False) w wr) (fun _ c _ => l.length - (intOf c).toNat)
  case atStart => exact ⟨0, rfl, by omega, fun t ht h => by omega, Frm.refl _ _⟩
  case round =>
    obtain ⟨k, rfl, hk, hno, hF⟩ := hrel
    have HNO := Lib.hid hno
    have HF := Lib.hid hF
    clear hno hF
    by_cases hlt : k < l.length
    · obtain ⟨g, rfl, c1, hg, c2⟩ := HCE.out k hlt
      have HY : Hid (l[k].2.1.idx = i → (l.any fun q => q.2.1.idx == i) = true) := fun h => List.any_eq_true.2 ⟨_, List.getElem_mem hlt, by simpa using h⟩
      have HN2 : Hid (l[k].2.1.idx ≠ i → ∀ (t : Nat) (ht : t < l.length), t < k + 1 → l[t].2.1.idx ≠ i) := fun h t ht h2 => by
        rcases Nat.lt_or_eq_of_le (Nat.le_of_lt_succ h2) with h3 | rfl
        · exact HNO.out t ht h3
        · exact h
      generalize l[k].1 = pk at *
      generalize l[k].2.1.idx = x at *
      have c1' := HF.out.cell c1 (fun h => h)
      have HQ := Lib.hid (odFind2_any pk gi x i wr (HF.out.cell c2 (fun h => h)) (HF.out.cell hgi (fun h => h)))
      unfold ptr at HQ
      have hg' := Nat.lt_of_lt_of_le hg HF.out.size
      clear c1 c2 hgi
      go_wp2_with (go_at_call 81; refine HQ.out.mono ?_; rintro e w5 ⟨rfl, hF5⟩)
      · have hyes : (x == i) = true := by assumption
        go_ret
        refine ⟨HF.out.trans' hF5, _, rfl, ?_⟩
        rw [HY.out (by simpa using hyes)]
        simp
      · have hn : (x == i) = false := by assumption
        go_roundw
        case rel => exact ⟨k + 1, by go_num, by omega, HN2.out (by simpa using hn), HF.out.trans' hF5⟩
        case measure => simp [intOf]; omega
    · have hkn : k = l.length := by omega
      subst hkn
      go_wp2_with fail
      go_ret
      refine ⟨HF.out, _, rfl, ?_⟩
      have : (l.any fun q => q.2.1.idx == i) = false := by
        rw [List.any_eq_false]
        intro q hq
        obtain ⟨t, ht, rfl⟩ := List.getElem_of_mem hq
        simpa using HNO.out t ht ht
      rw [this]
      rfl

theorem odCont_any (v : Value) (l : List (Nat × Im)) (b gi : Nat) (i : Int) (w : World) (h : w.ownsRow b 98 1 v l.length (l.map fun q => ptr q.1)) (hit : ∀ q ∈ l, ItAt w q.1 q.2) (hl : l.length ≤ 1024) (hgi : w.cell? ⟨gi, 0, none⟩ = some (.int .u16 i)) :
    Calls Tryz.prog 80 #[v, .func (.func 81) #[] #[ptr gi]] w fun e w' => Frm (fun _ => False) w w' ∧ e = .returned (.bool (l.any fun q => q.2.1.idx == i)) := by
  have H := Lib.hid (odIdx_any v l b gi i w h hit hl hgi)
  clear h hit hl hgi
  go_enter Tryz.func80, Tryz.ntmps80
  go_wp2_with (go_at_call 102; refine H.out.mono ?_; rintro e w5 ⟨hF5, r, rfl, hr⟩)
  go_ret
  exact ⟨hF5, by rw [← hr]; rfl⟩

theorem find_hit {d : List Im} (hd : DOk d) {i s : Int} (hs : 0 ≤ s ∧ s ≤ 255) {k : Nat} (hk : k < d.length) (h : plE d[k].1 = i * 256 + s) : findD d i s = some k ∧ d[k].1.idx = i ∧ d[k].1.sub = s := by
  have ho := (hd.ok _ (List.getElem_mem hk)).1
  have e : d[k].1.idx = i ∧ d[k].1.sub = s := by
    unfold plE at h
    have := ho.2.2.1; have := ho.2.2.2.1
    omega
  refine ⟨?_, e⟩
  unfold findD
  rw [List.findIdx?_eq_some_iff_getElem]
  refine ⟨hk, by simp [isAt, e.1, e.2], fun j hj => ?_⟩
  have hlt := List.pairwise_iff_getElem.1 hd.srt j k (by omega) hk hj
  intro hm
  simp only [isAt, Bool.and_eq_true, beq_iff_eq] at hm
  unfold plE at hlt
  rw [hm.1, hm.2, e.1, e.2] at hlt
  omega
theorem find_miss {d : List Im} {i s : Int} (h : ∀ x ∈ d, plE x.1 ≠ i * 256 + s) : findD d i s = none := by
  unfold findD
  rw [List.findIdx?_eq_none_iff]
  intro x hx
  have := h x hx
  unfold plE at this
  cases hb : isAt i s x
  · rfl
  · simp only [isAt, Bool.and_eq_true, beq_iff_eq] at hb
    rw [hb.1, hb.2] at this
    exact absurd rfl this
def FindP (l : List (Nat × Im)) (i s : Int) (e : Ending) : Prop :=
  (∃ (k : Nat) (hk : k < l.length), findD (im l) i s = some k ∧ l[k].2.1.idx = i ∧ l[k].2.1.sub = s ∧ e = .returned (.tuple #[ptr l[k].1, .int .u32 0])) ∨
  (findD (im l) i s = none ∧ findC (im l) i s ≠ 0 ∧ e = .returned (.tuple #[.pointer none, .int .u32 (findC (im l) i s)]))

set_option maxRecDepth 100000 in
set_option maxHeartbeats 4000000 in
theorem odFind_any (b : Nat) (l : List (Nat × Im)) (i s : Int) (w : World) (h : DAt w b l) (hd : DOk (im l)) (hs : 0 ≤ s ∧ s ≤ 255) :
    Calls Tryz.prog 52 #[ptr b, .int .u16 i, .int .u8 s] w fun e w' => Frm (fun _ => False) w w' ∧ FindP l i s e := by
  obtain ⟨v, hO, hr⟩ := h.row
  have hlen : l.length ≤ 1024 := by have := hd.len; simpa using this
  obtain ⟨w0, hw0⟩ : ∃ w0, w0 = (w.alloc (.cells #[.int .u16 i] 54)).alloc (.cells #[.int .u16 i, .int .u8 s] 108) := ⟨_, rfl⟩
  have hF0 : Frm (fun _ => False) w w0 := by rw [hw0]; (repeat' (first | (with_reducible exact Frm.refl _ _) | (with_reducible assumption) | (with_reducible refine Frm.alloc ?_ _) | (with_reducible refine Frm.drew ?_) | (with_reducible refine Frm.drewN ?_ _) | (with_reducible refine Frm.set1 ?_ _) | (with_reducible refine Frm.setCell ?_ ?_ _) | (exact fun h => absurd h (Nat.lt_irrefl _)) | (intro hlt; simp [World.size_alloc, One] at hlt ⊢; omega)))
  have hbin : ∀ W, Frm (fun _ => False) w0 W → _ := fun W hF => odBin_any v l b i s W ((hF0.trans' hF).row hr (fun _ _ h => h)) (fun q hq => (h.el q hq).frm (hF0.trans' hF) (fun h => h)) hd hs
  have k0 : w0.cell? ⟨w.heap.size, 0, none⟩ = some (.int .u16 i) := by rw [hw0]; go_simp
  have k1 : w0.cell? ⟨w.heap.size + 1, 0, none⟩ = some (.int .u16 i) := by rw [hw0]; go_simp
  have k2 : w0.cell? ⟨w.heap.size + 1, 1, none⟩ = some (.int .u8 s) := by rw [hw0]; go_simp
  have hcon : ∀ W, Frm (fun _ => False) w0 W → _ := fun W hF => odCont_any v l b w.heap.size i W ((hF0.trans' hF).row hr (fun _ _ h => h)) (fun q hq => (h.el q hq).frm (hF0.trans' hF) (fun h => h)) hlen (hF.cell k0 (fun h => h))
  have hc : ∀ W, Frm (fun _ => False) w0 W → W.cell? ⟨b, 0, none⟩ = some v ∧ W.cell? ⟨w.heap.size + 1, 0, none⟩ = some (.int .u16 i) ∧ W.cell? ⟨w.heap.size + 1, 1, none⟩ = some (.int .u8 s) := fun W hF => ⟨cell_at ((hF0.trans' hF).heap hO (fun h => h)), hF.cell k1 (fun h => h), hF.cell k2 (fun h => h)⟩
  have hhit : ∀ (k : Nat) (hk : k < l.length), plI l[k] = i * 256 + s → findD (im l) i s = some k ∧ l[k].2.1.idx = i ∧ l[k].2.1.sub = s := fun k hk e => by
    have := find_hit hd hs (k := k) (by simpa using hk) (by simpa [plI] using e)
    simpa using this
  have hmiss : (∀ q ∈ l, plI q ≠ i * 256 + s) → findD (im l) i s = none := fun hh => find_miss fun x hx => by
    obtain ⟨q, hq, rfl⟩ := List.mem_map.1 hx
    exact hh q hq
  obtain ⟨A, cap, rfl, h1, h2, h3⟩ := row_open hr
  have hcell : ∀ (k : Nat) (hk : k < l.length), ∃ g, A = some ⟨g, 0, none⟩ ∧ ∀ W, Frm (fun _ => False) w0 W → W.cell? ⟨g, k, none⟩ = some (ptr l[k].1) ∧ g < W.heap.size := fun k hk => by
    obtain ⟨g, e, _, ⟨cur, hcc⟩, _, hcx⟩ := h3 (by omega)
    exact ⟨g, e, fun W hF => ⟨(hF0.trans' hF).cell (by rw [hcx k (by omega)]; simp [hk]) (fun h => h), Nat.lt_of_lt_of_le (lt_of_block hcc) (hF0.trans' hF).size⟩⟩
  have HBIN := Lib.hid hbin
  have HCON := Lib.hid hcon
  have HCC := Lib.hid hc
  have HIT := Lib.hid hhit
  have HMI := Lib.hid hmiss
  have HCE := Lib.hid hcell
  have HF0 := Lib.hid hF0
  clear h hd hs hO hr hF0 hbin k0 k1 k2 hcon hc hhit hmiss hcell h1 h2 h3
  unfold ptr
  unfold ptr at HCON HCE
  go_enter Tryz.func52, Tryz.ntmps52
  go_upto_region 2 with fail
  rw [← hw0]
  clear hw0
  refine wp_region_held_drew (S := fun W => Frm (fun _ => False) w0 W) (by kernel_rfl) ((Frm.refl _ _).drew) (fun hHeld => ?_)
  refine wpAnyH_take (i := 0) (v := ?_) rfl (by kernel_rfl) (by kernel_rfl) (by kernel_rfl) (fun _ _ _ h => h) (Or.inl ⟨by rfl, ?_⟩) (by assumption) ?_; rotate_left; · (intro wq hSq; have hq := HCC.out wq hSq; go_split_ands; go_simp; (try with_reducible rfl))
  try simp only [Act.put, getElem_toArray, getElem_cons_zero, getElem_cons_succ, setIfInBounds_toArray, set_cons_zero, set_cons_succ]
  refine wpAnyH_take (i := 1) (v := ?_) rfl (by kernel_rfl) (by kernel_rfl) (by kernel_rfl) (fun _ _ _ h => h) (Or.inl ⟨by rfl, ?_⟩) (by assumption) ?_; rotate_left; · (intro wq hSq; have hq := HCC.out wq hSq; go_split_ands; go_simp; (try with_reducible rfl))
  try simp only [Act.put, getElem_toArray, getElem_cons_zero, getElem_cons_succ, setIfInBounds_toArray, set_cons_zero, set_cons_succ]
  refine wpAnyH_take (i := 2) (v := ?_) rfl (by kernel_rfl) (by kernel_rfl) (by kernel_rfl) (fun _ _ _ h => h) (Or.inl ⟨by rfl, ?_⟩) (by assumption) ?_; rotate_left; · (intro wq hSq; have hq := HCC.out wq hSq; go_split_ands; go_simp; (try with_reducible rfl))
  try simp only [Act.put, getElem_toArray, getElem_cons_zero, getElem_cons_succ, setIfInBounds_toArray, set_cons_zero, set_cons_succ]
  refine wpAnyH_take (i := 3) (v := ?_) rfl (by kernel_rfl) (by kernel_rfl) (by kernel_rfl) (fun _ _ _ h => h) (Or.inl ⟨by rfl, ?_⟩) (by assumption) ?_; rotate_left; · (intro wq hSq; have hq := HCC.out wq hSq; go_split_ands; go_simp; (try with_reducible rfl))
  try simp only [Act.put, getElem_toArray, getElem_cons_zero, getElem_cons_succ, setIfInBounds_toArray, set_cons_zero, set_cons_succ]
  refine wpAnyH_take (i := 4) (v := ?_) rfl (by kernel_rfl) (by kernel_rfl) (by kernel_rfl) (fun _ _ _ h => h) (Or.inl ⟨by rfl, ?_⟩) (by assumption) ?_; rotate_left; · (intro wq hSq; have hq := HCC.out wq hSq; go_split_ands; go_simp; (try with_reducible rfl))
  try simp only [Act.put, getElem_toArray, getElem_cons_zero, getElem_cons_succ, setIfInBounds_toArray, set_cons_zero, set_cons_succ]
  refine wpAnyH_ready (rs := [5]) (by kernel_rfl) (by simp) ?_
  refine AllReadyH.cons rfl (fun K hK => ?_) AllReadyH.nil
  try simp only [getElem_toArray, getElem_cons_zero, getElem_cons_succ]
  go_simp
  refine (HBIN.out _ hHeld).mono ?_
  rintro e w2 ⟨hF2, k, f, rfl, hkf⟩
  go_wp2_with fail
  refine hK.out _ _ (hHeld.trans' hF2) (fun hHeld => ?_)
  clear hK K
  try simp only [Act.put, setIfInBounds_toArray, set_cons_zero, set_cons_succ]
  refine wpAnyH_take (i := 6) (v := ?_) rfl (by kernel_rfl) (by kernel_rfl) (by kernel_rfl) (fun _ _ _ h => h) (Or.inl ⟨by rfl, ?_⟩) (by assumption) ?_; rotate_left; · (intro wq hSq; have hq := HCC.out wq hSq; go_split_ands; go_simp; (try with_reducible rfl))
  try simp only [Act.put, getElem_toArray, getElem_cons_zero, getElem_cons_succ, setIfInBounds_toArray, set_cons_zero, set_cons_succ]
  refine wpAnyH_take (i := 7) (v := ?_) rfl (by kernel_rfl) (by kernel_rfl) (by kernel_rfl) (fun _ _ _ h => h) (Or.inl ⟨by rfl, ?_⟩) (by assumption) ?_; rotate_left; · (intro wq hSq; have hq := HCC.out wq hSq; go_split_ands; go_simp; (try with_reducible rfl))
  try simp only [Act.put, getElem_toArray, getElem_cons_zero, getElem_cons_succ, setIfInBounds_toArray, set_cons_zero, set_cons_succ]
  refine wpAnyH_take (i := 8) (v := ?_) rfl (by kernel_rfl) (by kernel_rfl) (by kernel_rfl) (fun _ _ _ h => h) (Or.inl ⟨by rfl, ?_⟩) (by assumption) ?_; rotate_left; · (intro wq hSq; have hq := HCC.out wq hSq; go_split_ands; go_simp; (try with_reducible rfl))
  try simp only [Act.put, getElem_toArray, getElem_cons_zero, getElem_cons_succ, setIfInBounds_toArray, set_cons_zero, set_cons_succ]
  refine wpAnyH_take (i := 9) (v := ?_) rfl (by kernel_rfl) (by kernel_rfl) (by kernel_rfl) (fun _ _ _ h => h) (Or.inl ⟨by rfl, ?_⟩) (by assumption) ?_; rotate_left; · (intro wq hSq; have hq := HCC.out wq hSq; go_split_ands; go_simp; (try with_reducible rfl))
  try simp only [Act.put, getElem_toArray, getElem_cons_zero, getElem_cons_succ, setIfInBounds_toArray, set_cons_zero, set_cons_succ]
  refine wpAnyH_take (i := 10) (v := ?_) rfl (by kernel_rfl) (by kernel_rfl) (by kernel_rfl) (fun _ _ _ h => h) (Or.inl ⟨by rfl, ?_⟩) (by assumption) ?_; rotate_left; · (intro wq hSq; have hq := HCC.out wq hSq; go_split_ands; go_simp; (try with_reducible rfl))
  try simp only [Act.put, getElem_toArray, getElem_cons_zero, getElem_cons_succ, setIfInBounds_toArray, set_cons_zero, set_cons_succ]
  refine wpAnyH_done (by kernel_rfl) ?_ _
  have hF := HF0.out.trans' hHeld
  have hc1 := (HCC.out _ hHeld).1
  rcases hkf with ⟨rfl, hk, hp⟩ | ⟨rfl, hp⟩
  · obtain ⟨hf1, hf2, hf3⟩ := HIT.out k hk hp
    obtain ⟨g, rfl, hg⟩ := HCE.out k hk
    obtain ⟨hg1, hg2⟩ := hg _ hHeld
    have E1 := Lib.hid hf1
    have E2 := Lib.hid hf2
    have E3 := Lib.hid hf3
    clear hf1 hf2 hf3 hp hg
    go_wp2_with fail
    go_ret2
    exact ⟨hF, .inl ⟨k, hk, E1.out, E2.out, E3.out, rfl⟩⟩
  · have hmi := HMI.out hp
    have hcn := HCON.out _ hHeld
    have HFC : Hid (findC (im l) i s = if (l.any fun q => q.2.1.idx == i) = true then codeNoSub else codeNoObject) := by
      unfold Hid findC
      rw [hmi]
      have ha : ((im l).any fun x => x.1.idx == i) = l.any fun q => q.2.1.idx == i := by simp [List.any_map, Function.comp_def]
      rw [ha]
      rfl
    have HN := Lib.hid hmi
    have HCN := Lib.hid hcn
    clear hcn hmi hp
    cases hany : l.any fun q => q.2.1.idx == i
    · rw [hany] at HCN HFC
      clear hany
      go_wp2_with (go_at_call 80; refine HCN.out.mono ?_; rintro e w5 ⟨hF5, rfl⟩)
      go_ret2
      exact ⟨hF.trans' hF5, .inr ⟨HN.out, by rw [HFC.out]; decide, by rw [HFC.out]; rfl⟩⟩
    · rw [hany] at HCN HFC
      clear hany
      go_wp2_with (go_at_call 80; refine HCN.out.mono ?_; rintro e w5 ⟨hF5, rfl⟩)
      go_ret2
      exact ⟨hF.trans' hF5, .inr ⟨HN.out, by rw [HFC.out]; decide, by rw [HFC.out]; rfl⟩⟩
end Go.Proofs.YtemjdmgfilbfaaaGreat
namespace Go.Proofs.YtemjdmgfilbfaaaGreat
open Go.RowKit
set_option linter.unusedVariables false

def getD2 (d : List Im) (i s : Int) : Va × Int :=
  match findD d i s with
  | none => (.zero, 4)
  | some k => match d[k]? with
    | none => (.zero, 4)
    | some x => (x.2, 0)
theorem valV_zero : valV Va.zero = .agg #[.int .i64 0, .int .u64 0, .string ⟨#[]⟩] := rfl


set_option maxRecDepth 100000 in
set_option maxHeartbeats 2000000 in
theorem odGet_any (b : Nat) (l : List (Nat × Im)) (i s : Int) (w : World) (h : DAt w b l) (hd : DOk (im l)) (hs : 0 ≤ s ∧ s ≤ 255) :
    Calls Tryz.prog 44 #[ptr b, .int .u16 i, .int .u8 s] w fun e w' => e = .returned (.tuple #[valV (getD2 (im l) i s).1, .int .i64 (getD2 (im l) i s).2]) ∧ Frm (fun _ => False) w w' := by
  have HFD := Lib.hid (fun W hF => odFind_any b l i s W (h.grow hF) hd hs)
  have HD := Lib.hid h
  clear h hd hs
  unfold ptr at HFD
  unfold ptr
  go_enter Tryz.func44, Tryz.ntmps44
  go_wp2_with fail
  refine (HFD.out _ (by (repeat' (first | (with_reducible exact Frm.refl _ _) | (with_reducible assumption) | (with_reducible refine Frm.alloc ?_ _) | (with_reducible refine Frm.drew ?_) | (with_reducible refine Frm.drewN ?_ _) | (with_reducible refine Frm.set1 ?_ _) | (with_reducible refine Frm.setCell ?_ ?_ _) | (exact fun h => absurd h (Nat.lt_irrefl _)) | (intro hlt; simp [World.size_alloc, One] at hlt ⊢; omega))))).mono ?_
  rintro e w1 ⟨hF1, hf⟩
  have k0 := hF1.heap (heap_new w _) (fun h => h)
  have z0 : w1.cell? ⟨w.heap.size, 0, none⟩ = some (.int .i64 0) := cell_at k0
  have z1 : w1.cell? ⟨w.heap.size, 1, none⟩ = some (.int .u64 0) := cell_at k0
  have z2 : w1.cell? ⟨w.heap.size, 2, none⟩ = some (.string ⟨#[]⟩) := cell_at k0
  have f0 := frees k0
  have l0 := lt_of_block k0
  have K0 := Lib.hid k0
  have HF : Hid (Frm (fun _ => False) w w1) := Frm.trans' (b := _) (by (repeat' (first | (with_reducible exact Frm.refl _ _) | (with_reducible assumption) | (with_reducible refine Frm.alloc ?_ _) | (with_reducible refine Frm.drew ?_) | (with_reducible refine Frm.drewN ?_ _) | (with_reducible refine Frm.set1 ?_ _) | (with_reducible refine Frm.setCell ?_ ?_ _) | (exact fun h => absurd h (Nat.lt_irrefl _)) | (intro hlt; simp [World.size_alloc, One] at hlt ⊢; omega)))) hF1
  clear hF1 k0 HFD
  rcases hf with ⟨k, hk, hfd, -, -, rfl⟩ | ⟨hfd, hne, rfl⟩
  · have E : Hid (getD2 (im l) i s = (l[k].2.2, 0)) := by
      unfold Hid getD2
      rw [hfd]
      simp [hk]
    have hi := HF.out.heap (HD.out.el _ (List.getElem_mem hk)) (fun h => h)
    generalize l[k].1 = p at *
    generalize l[k].2 = x at *
    clear hfd
    have y0 : w1.cell? ⟨p, 14, none⟩ = some (.int .i64 x.2.ty) := cell_at hi
    have y1 : w1.cell? ⟨p, 15, none⟩ = some (.int .u64 x.2.n) := cell_at hi
    have y2 : w1.cell? ⟨p, 16, none⟩ = some (.string (strB2 x.2.b)) := cell_at hi
    clear hi
    go_wp2_with fail
    refine bodyPost_ret (ret_v2 Tryz.results44 _ _ _ _ _ _ rfl (store3 K0.out)) rfl ⟨?_, ?_⟩
    · rw [E.out]; rfl
    · have hf : Frm (fun _ => False) w w1 := HF.out
      (repeat' (first | (with_reducible exact Frm.refl _ _) | (with_reducible assumption) | (with_reducible refine Frm.alloc ?_ _) | (with_reducible refine Frm.drew ?_) | (with_reducible refine Frm.drewN ?_ _) | (with_reducible refine Frm.set1 ?_ _) | (with_reducible refine Frm.setCell ?_ ?_ _) | (exact fun h => absurd h (Nat.lt_irrefl _)) | (intro hlt; simp [World.size_alloc, One] at hlt ⊢; omega)))
  · have E : Hid (getD2 (im l) i s = (.zero, 4)) := by
      unfold Hid getD2
      rw [hfd]
    have hb : (findC (im l) i s != 0) = true := by simpa using hne
    generalize findC (im l) i s = c at *
    clear hfd hne
    go_wp2_with fail
    refine bodyPost_ret (ret_v2 Tryz.results44 _ _ _ _ _ _ rfl (store3 K0.out)) rfl ⟨?_, ?_⟩
    · rw [E.out]; rfl
    · have hf : Frm (fun _ => False) w w1 := HF.out
      (repeat' (first | (with_reducible exact Frm.refl _ _) | (with_reducible assumption) | (with_reducible refine Frm.alloc ?_ _) | (with_reducible refine Frm.drew ?_) | (with_reducible refine Frm.drewN ?_ _) | (with_reducible refine Frm.set1 ?_ _) | (with_reducible refine Frm.setCell ?_ ?_ _) | (exact fun h => absurd h (Nat.lt_irrefl _)) | (intro hlt; simp [World.size_alloc, One] at hlt ⊢; omega)))

def ReadP (d : List Im) (i s : Int) (w : World) (e : Ending) (w' : World) : Prop := ∃ v, e = .returned (.tuple #[v, .int .u32 (readD d i s).2]) ∧ Fresh8 w.heap.size w' v (readD d i s).1 ∧ Frm (fun _ => False) w w'

set_option maxRecDepth 100000 in
set_option maxHeartbeats 2000000 in
theorem odRead_any (b : Nat) (l : List (Nat × Im)) (i s : Int) (w : World) (h : DAt w b l) (hd : DOk (im l)) (hs : 0 ≤ s ∧ s ≤ 255) :
    Calls Tryz.prog 51 #[ptr b, .int .u16 i, .int .u8 s] w (ReadP (im l) i s w) := by
  have HFD := Lib.hid (fun W hF => odFind_any b l i s W (h.grow hF) hd hs)
  have HD := Lib.hid h
  have HOK := Lib.hid hd
  clear h hd hs
  unfold ptr at HFD
  unfold ptr
  go_enter Tryz.func51, Tryz.ntmps51
  go_wp2_with fail
  refine (HFD.out _ (Frm.refl _ _)).mono ?_
  rintro e w1 ⟨hF1, hf⟩
  have HF := Lib.hid hF1
  clear hF1 HFD
  unfold ReadP
  rcases hf with ⟨k, hk, hfd, -, -, rfl⟩ | ⟨hfd, hne, rfl⟩
  · have hm := List.getElem_mem hk
    have E : Hid (readD (im l) i s = if l[k].2.1.acc = 1 then ([], codeNoRead) else ((encV l[k].2.2).1, 0)) := by
      unfold Hid readD
      rw [hfd]
      simp [hk]
    have hi := HF.out.heap (HD.out.el _ hm) (fun h => h)
    have HEN := Lib.hid (fun W => tyEnc_any l[k].2.2 W (HOK.out.ok _ (List.mem_map.2 ⟨_, hm, rfl⟩)).2)
    generalize l[k].1 = p at *
    generalize l[k].2 = x at *
    clear hfd hm
    have y0 : w1.cell? ⟨p, 14, none⟩ = some (.int .i64 x.2.ty) := cell_at hi
    have y1 : w1.cell? ⟨p, 15, none⟩ = some (.int .u64 x.2.n) := cell_at hi
    have y2 : w1.cell? ⟨p, 16, none⟩ = some (.string (strB2 x.2.b)) := cell_at hi
    have y3 : w1.cell? ⟨p, 2, none⟩ = some (.int .i64 x.1.acc) := cell_at hi
    clear hi
    unfold EncP valV at HEN
    generalize (encV x.2).2 = ec at *
    by_cases ha : x.1.acc = 1
    · have E2 : Hid (readD (im l) i s = ([], codeNoRead)) := by unfold Hid; rw [E.out, if_pos ha]
      have hb : (x.1.acc == 1) = true := by simpa using ha
      clear E ha
      go_wp2_with fail
      go_ret2
      exact ⟨_, by rw [E2.out]; rfl, by rw [E2.out]; exact Fresh8.nil _ _, HF.out⟩
    · have E2 : Hid (readD (im l) i s = ((encV x.2).1, 0)) := by unfold Hid; rw [E.out, if_neg ha]
      have hb : (x.1.acc == 1) = false := by simpa using ha
      clear E ha
      go_wp2_with fail
      refine (HEN.out _).mono ?_
      rintro e w2 ⟨sv, rfl, hfr, hF2⟩
      have HFR := Lib.hid hfr
      go_wp2_with fail
      go_ret2
      exact ⟨_, by rw [E2.out]; rfl, by rw [E2.out]; exact HFR.out.base HF.out.size, HF.out.trans' hF2⟩
  · have E : Hid (readD (im l) i s = ([], findC (im l) i s)) := by
      unfold Hid readD
      rw [hfd]
    have hb : (findC (im l) i s != 0) = true := by simpa using hne
    generalize findC (im l) i s = c at *
    clear hfd hne
    go_wp2_with fail
    go_ret2
    exact ⟨_, by rw [E.out]; rfl, by rw [E.out]; exact Fresh8.nil _ _, HF.out⟩
end Go.Proofs.YtemjdmgfilbfaaaGreat
