/-
  The search among the items of a dictionary.
-/
import Derived.Test.YtemjdmgfilbfaaaOdH
namespace Go.Proofs.Ytemjdmgfilbfaaa
open Go.RowKit
set_option linter.unusedVariables false

/-- Entries in order, and their values. -/
structure DOk (d : List Im) : Prop where
  srt : d.Pairwise fun a b => plE a.1 < plE b.1
  ok : ∀ x ∈ d, x.1.ok ∧ x.2.ok
  len : d.length ≤ 1024
abbrev im (l : List (Nat × Im)) : List Im := l.map (·.2)

set_option maxRecDepth 100000 in
set_option maxHeartbeats 2000000 in
theorem odFind1_any (p : Nat) (x : Im) (i s : Int) (w : World) (hx : ItAt w p x) : Calls Try.prog 83 #[ptr p, plV i s] w fun e w' => e = .returned (.int .i64 (ordP x.1.idx x.1.sub i s)) ∧ Frm (fun _ => False) w w' := by
  have H1 := Lib.hid (fun W => odAt_any x.1 W)
  have H3 := Lib.hid (fun W => odOrder_any x.1.idx x.1.sub i s W)
  obtain ⟨⟨i', s', ac, mp, lm, ⟨at', an, ab⟩, ⟨bt, bn, bb⟩, ⟨dt, dn, db⟩⟩, vx⟩ := x
  unfold ItAt cellsI cellsE at hx
  unfold valE at H1
  unfold plV at H1 H3
  unfold ptr
  simp only at *
  generalize ordP i' s' i s = r at *
  generalize strB2 ab = ab at *
  generalize strB2 bb = bb at *
  generalize strB2 db = db at *
  have hc : ∀ W, Frm (fun _ => False) (w.alloc (.cells #[.int .u16 i, .int .u8 s] 86)) W → (W.cell? ⟨p, 0, none⟩ = some (.int .u16 i') ∧ W.cell? ⟨p, 1, none⟩ = some (.int .u8 s') ∧ W.cell? ⟨p, 2, none⟩ = some (.int .i64 ac) ∧ W.cell? ⟨p, 3, none⟩ = some (.bool mp) ∧ W.cell? ⟨p, 4, none⟩ = some (.bool lm) ∧ W.cell? ⟨p, 5, none⟩ = some (.int .i64 at') ∧ W.cell? ⟨p, 6, none⟩ = some (.int .u64 an) ∧ W.cell? ⟨p, 7, none⟩ = some (.string ab) ∧ W.cell? ⟨p, 8, none⟩ = some (.int .i64 bt) ∧ W.cell? ⟨p, 9, none⟩ = some (.int .u64 bn) ∧ W.cell? ⟨p, 10, none⟩ = some (.string bb) ∧ W.cell? ⟨p, 11, none⟩ = some (.int .i64 dt) ∧ W.cell? ⟨p, 12, none⟩ = some (.int .u64 dn) ∧ W.cell? ⟨p, 13, none⟩ = some (.string db)) ∧
      W.cell? ⟨w.heap.size, 0, none⟩ = some (.int .u16 i) ∧ W.cell? ⟨w.heap.size, 1, none⟩ = some (.int .u8 s) := fun W hF => by
    have kx := hF.heap (heap_alloc_old hx) (fun h => h)
    have ky := hF.heap (heap_new w _) (fun h => h)
    exact ⟨⟨cell_at kx, cell_at kx, cell_at kx, cell_at kx, cell_at kx, cell_at kx, cell_at kx, cell_at kx, cell_at kx, cell_at kx, cell_at kx, cell_at kx, cell_at kx, cell_at kx⟩, cell_at ky, cell_at ky⟩
  have HCC := Lib.hid hc
  clear hx hc
  go_enter Try.func83, Try.ntmps83
  go_wp2_with fail
  refine wp_region_held_drew (S := fun W => Frm (fun _ => False) _ W) (by kernel_rfl) ((Frm.refl _ _).drew) (fun hHeld => ?_)
  refine wpAnyH_take (i := 0) (v := ?_) rfl (by kernel_rfl) (by kernel_rfl) (by kernel_rfl) (fun _ _ _ h => h) (Or.inl ⟨by rfl, ?_⟩) (by assumption) ?_
  rotate_left
  · intro wq hSq
    have hq := HCC.out wq hSq
    go_split_ands
    go_simp
    try with_reducible rfl
  try simp only [Act.put, List.getElem_toArray, List.getElem_cons_zero, List.getElem_cons_succ, List.setIfInBounds_toArray, List.set_cons_zero, List.set_cons_succ]
  refine wpAnyH_take (i := 1) (v := ?_) rfl (by kernel_rfl) (by kernel_rfl) (by kernel_rfl) (fun _ _ _ h => h) (Or.inl ⟨by rfl, ?_⟩) (by assumption) ?_
  rotate_left
  · intro wq hSq
    have hq := HCC.out wq hSq
    go_split_ands
    go_simp
    try with_reducible rfl
  try simp only [Act.put, List.getElem_toArray, List.getElem_cons_zero, List.getElem_cons_succ, List.setIfInBounds_toArray, List.set_cons_zero, List.set_cons_succ]
  refine wpAnyH_take (i := 2) (v := ?_) rfl (by kernel_rfl) (by kernel_rfl) (by kernel_rfl) (fun _ _ _ h => h) (Or.inl ⟨by rfl, ?_⟩) (by assumption) ?_
  rotate_left
  · intro wq hSq
    have hq := HCC.out wq hSq
    go_split_ands
    go_simp
    try with_reducible rfl
  try simp only [Act.put, List.getElem_toArray, List.getElem_cons_zero, List.getElem_cons_succ, List.setIfInBounds_toArray, List.set_cons_zero, List.set_cons_succ]
  refine wpAnyH_take (i := 3) (v := ?_) rfl (by kernel_rfl) (by kernel_rfl) (by kernel_rfl) (fun _ _ _ h => h) (Or.inl ⟨by rfl, ?_⟩) (by assumption) ?_
  rotate_left
  · intro wq hSq
    have hq := HCC.out wq hSq
    go_split_ands
    go_simp
    try with_reducible rfl
  try simp only [Act.put, List.getElem_toArray, List.getElem_cons_zero, List.getElem_cons_succ, List.setIfInBounds_toArray, List.set_cons_zero, List.set_cons_succ]
  refine wpAnyH_take (i := 5) (v := ?_) rfl (by kernel_rfl) (by kernel_rfl) (by kernel_rfl) (fun _ _ _ h => h) (Or.inl ⟨by rfl, ?_⟩) (by assumption) ?_
  rotate_left
  · intro wq hSq
    have hq := HCC.out wq hSq
    go_split_ands
    go_simp
    try with_reducible rfl
  try simp only [Act.put, List.getElem_toArray, List.getElem_cons_zero, List.getElem_cons_succ, List.setIfInBounds_toArray, List.set_cons_zero, List.set_cons_succ]
  refine wpAnyH_ready (rs := [4]) (by kernel_rfl) (by simp) ?_
  refine AllReadyH.cons rfl (fun K hK => ?_) AllReadyH.nil
  try simp only [List.getElem_toArray, List.getElem_cons_zero, List.getElem_cons_succ]
  go_simp
  refine (H1.out _).mono ?_
  rintro e w1 ⟨rfl, hF1⟩
  go_wp2_with fail
  refine hK.out _ _ (hHeld.trans' hF1) (fun hHeld => ?_)
  clear hK K
  try simp only [Act.put, List.setIfInBounds_toArray, List.set_cons_zero, List.set_cons_succ]
  refine wpAnyH_ready (rs := [6]) (by kernel_rfl) (by simp) ?_
  refine AllReadyH.cons rfl (fun K hK => ?_) AllReadyH.nil
  try simp only [List.getElem_toArray, List.getElem_cons_zero, List.getElem_cons_succ]
  go_simp
  refine (H3.out _).mono ?_
  rintro e w2 ⟨rfl, hF2⟩
  go_wp2_with fail
  refine hK.out _ _ (hHeld.trans' hF2) (fun hHeld => ?_)
  clear hK K
  try simp only [Act.put, List.setIfInBounds_toArray, List.set_cons_zero, List.set_cons_succ]
  refine wpAnyH_take (i := 7) (v := ?_) rfl (by kernel_rfl) (by kernel_rfl) (by kernel_rfl) (fun _ _ _ h => h) (Or.inl ⟨by rfl, ?_⟩) (by assumption) ?_
  rotate_left
  · intro wq hSq
    have hq := HCC.out wq hSq
    go_split_ands
    go_simp
    try with_reducible rfl
  try simp only [Act.put, List.getElem_toArray, List.getElem_cons_zero, List.getElem_cons_succ, List.setIfInBounds_toArray, List.set_cons_zero, List.set_cons_succ]
  refine wpAnyH_done (by kernel_rfl) ?_ _
  go_wp2_with fail
  go_ret
  exact ⟨rfl, Frm.trans' (b := _) (by (repeat' (first | (with_reducible exact Frm.refl _ _) | (with_reducible assumption) | (with_reducible refine Frm.alloc ?_ _) | (with_reducible refine Frm.drew ?_) | (with_reducible refine Frm.drewN ?_ _) | (with_reducible refine Frm.set1 ?_ _) | (with_reducible refine Frm.setCell ?_ ?_ _) | (exact fun h => absurd h (Nat.lt_irrefl _)) | (intro hlt; simp [World.size_alloc, One] at hlt ⊢; omega)))) hHeld⟩

theorem plI_eq (q : Nat × Im) : plI q = q.2.1.idx * 256 + q.2.1.sub := rfl

set_option maxRecDepth 100000 in
set_option maxHeartbeats 4000000 in
theorem odBin_any (v : Value) (l : List (Nat × Im)) (b : Nat) (i s : Int) (w : World) (h : w.ownsRow b 81 1 v l.length (l.map fun q => ptr q.1)) (hit : ∀ q ∈ l, ItAt w q.1 q.2) (hok : DOk (im l)) (hs : 0 ≤ s ∧ s ≤ 255) :
    Calls Try.prog 82 #[v, plV i s, .func (.func 83) #[] #[]] w fun e w' => Frm (fun _ => False) w w' ∧ ∃ (k : Nat) (f : Bool), e = .returned (.tuple #[.int .i64 k, .bool f]) ∧
      ((f = true ∧ ∃ hk : k < l.length, plI l[k] = i * 256 + s) ∨ (f = false ∧ ∀ q ∈ l, plI q ≠ i * 256 + s)) := by
  obtain ⟨A, cap, rfl, h1, h2, h3⟩ := row_open h
  have hlen : l.length ≤ 1024 := by have := hok.len; simpa using this
  have hmono : ∀ (a c : Nat) (ha : a < l.length) (hc : c < l.length), a ≤ c → plI l[a] ≤ plI l[c] := fun a c ha hc hac => by
    rcases Nat.lt_or_eq_of_le hac with hlt | rfl
    · have := List.pairwise_iff_getElem.1 hok.srt a c (by simpa using ha) (by simpa using hc) hlt
      simp only [List.getElem_map] at this
      exact Int.le_of_lt this
    · exact Int.le_refl _
  have hcmp : ∀ (k : Nat) (hk : k < l.length) (W : World), Frm (fun _ => False) w W → Calls Try.prog 83 #[ptr l[k].1, plV i s] W fun e w' => e = .returned (.int .i64 (cmpI (plI l[k]) (i * 256 + s))) ∧ Frm (fun _ => False) W w' := fun k hk W hF => by
    have hm := List.getElem_mem hk
    have ho := (hok.ok l[k].2 (List.mem_map.2 ⟨_, hm, rfl⟩)).1
    have := odFind1_any l[k].1 l[k].2 i s W ((hit _ hm).frm hF (fun h => h))
    rw [ordP_eq ⟨ho.2.2.1, ho.2.2.2.1⟩ hs] at this
    exact this
  have hcell : ∀ (k : Nat) (hk : k < l.length), ∃ g, A = some ⟨g, 0, none⟩ ∧ w.cell? ⟨g, k, none⟩ = some (ptr l[k].1) ∧ g < w.heap.size := fun k hk => by
    obtain ⟨g, e, _, ⟨cur, hc⟩, _, hcc⟩ := h3 (by omega)
    exact ⟨g, e, by rw [hcc k (by omega)]; simp [hk], lt_of_block hc⟩
  have HM := Lib.hid hmono
  have HCM := Lib.hid hcmp
  have HCE := Lib.hid hcell
  clear h hit hok hs h1 h2 h3 hmono hcmp hcell
  unfold plV ptr at HCM
  unfold ptr at HCE
  unfold plV
  generalize i * 256 + s = p at *
  go_enter Try.func82, Try.ntmps82
  go_wp2_with fail
  go_loopw [9, 10, 11] (fun a c _ wr => ∃ lo hi : Nat, a = .int .i64 lo ∧ c = .int .i64 hi ∧ lo ≤ hi ∧ hi ≤ l.length ∧ (∀ (t : Nat) (ht : t < l.length), t < lo → plI l[t] < p) ∧ (∀ (t : Nat) (ht : t < l.length), hi ≤ t → p ≤ plI l[t]) ∧ Frm (fun _ => False) (w.alloc (.cells #[.int .u16 i, .int .u8 s] 86)) wr) (fun a c _ _ => (intOf c).toNat - (intOf a).toNat)
  case atStart => exact ⟨0, l.length, rfl, rfl, by omega, by omega, fun t ht h => by omega, fun t ht h => by omega, Frm.refl _ _⟩
  case round =>
    obtain ⟨lo, hi, rfl, rfl, hlh, hhl, hA, hB, hF⟩ := hrel
    have HFR := Lib.hid hF
    have HLO := Lib.hid hA
    have HHI := Lib.hid hB
    clear hA hB hF
    by_cases hlt : lo < hi
    · go_upto_region 5 with fail
      obtain ⟨m, hm, hm1, hm2⟩ : ∃ m : Nat, ((lo : Int) + hi) / 2 = m ∧ lo ≤ m ∧ m < hi := ⟨(lo + hi) / 2, by omega, by omega, by omega⟩
      rw [hm]
      have hml : m < l.length := by omega
      have HBND := Lib.hid hm
      obtain ⟨g, rfl, hcl, hg⟩ := HCE.out m hml
      have HQ := Lib.hid (HCM.out m hml)
      have hc : ∀ W, Frm (fun _ => False) (w.alloc (.cells #[.int .u16 i, .int .u8 s] 86)) W → W.cell? ⟨g, m, none⟩ = some (.pointer (some ⟨l[m].1, 0, none⟩)) ∧ W.cell? ⟨w.heap.size, 0, none⟩ = some (.int .u16 i) ∧ W.cell? ⟨w.heap.size, 1, none⟩ = some (.int .u8 s) := fun W hF => by
        have ky := hF.heap (heap_new w _) (fun h => h)
        exact ⟨hF.cell (cell_alloc_old hcl) (fun h => h), cell_at ky, cell_at ky⟩
      have HCC := Lib.hid hc
      have HP1 : Hid (plI l[m] < p → ∀ (t : Nat) (ht : t < l.length), t < m + 1 → plI l[t] < p) := fun h t ht h2 => Int.lt_of_le_of_lt (HM.out t m ht hml (by omega)) h
      have HP2 : Hid (p ≤ plI l[m] → ∀ (t : Nat) (ht : t < l.length), m ≤ t → p ≤ plI l[t]) := fun h t ht h2 => Int.le_trans h (HM.out m t hml ht h2)
      have hfin : cmpI (plI l[m]) p < 0 ↔ plI l[m] < p := cmpI_neg
      have HFI := Lib.hid hfin
      generalize l[m].1 = pm at *
      generalize plI l[m] = zm at *
      generalize cmpI zm p = cz at *
      have HFR2 := HFR.out
      clear hm hc hcl hfin
      refine wp_region_held_drew (S := fun W => Frm (fun _ => False) _ W) (by kernel_rfl) (HFR2.drew) (fun hHeld => ?_)
      refine wpAnyH_take (i := 0) (v := ?_) rfl (by kernel_rfl) (by kernel_rfl) (by kernel_rfl) (fun _ _ _ h => h) (Or.inl ⟨by rfl, ?_⟩) (by assumption) ?_
      rotate_left
      · intro wq hSq
        have hq := HCC.out wq hSq
        go_split_ands
        go_simp
        try with_reducible rfl
      try simp only [Act.put, List.getElem_toArray, List.getElem_cons_zero, List.getElem_cons_succ, List.setIfInBounds_toArray, List.set_cons_zero, List.set_cons_succ]
      refine wpAnyH_take (i := 1) (v := ?_) rfl (by kernel_rfl) (by kernel_rfl) (by kernel_rfl) (fun _ _ _ h => h) (Or.inl ⟨by rfl, ?_⟩) (by assumption) ?_
      rotate_left
      · intro wq hSq
        have hq := HCC.out wq hSq
        go_split_ands
        go_simp
        try with_reducible rfl
      try simp only [Act.put, List.getElem_toArray, List.getElem_cons_zero, List.getElem_cons_succ, List.setIfInBounds_toArray, List.set_cons_zero, List.set_cons_succ]
      refine wpAnyH_take (i := 2) (v := ?_) rfl (by kernel_rfl) (by kernel_rfl) (by kernel_rfl) (fun _ _ _ h => h) (Or.inl ⟨by rfl, ?_⟩) (by assumption) ?_
      rotate_left
      · intro wq hSq
        have hq := HCC.out wq hSq
        go_split_ands
        go_simp
        try with_reducible rfl
      try simp only [Act.put, List.getElem_toArray, List.getElem_cons_zero, List.getElem_cons_succ, List.setIfInBounds_toArray, List.set_cons_zero, List.set_cons_succ]
      refine wpAnyH_take (i := 3) (v := ?_) rfl (by kernel_rfl) (by kernel_rfl) (by kernel_rfl) (fun _ _ _ h => h) (Or.inl ⟨by rfl, ?_⟩) (by assumption) ?_
      rotate_left
      · intro wq hSq
        have hq := HCC.out wq hSq
        go_split_ands
        go_simp
        try with_reducible rfl
      try simp only [Act.put, List.getElem_toArray, List.getElem_cons_zero, List.getElem_cons_succ, List.setIfInBounds_toArray, List.set_cons_zero, List.set_cons_succ]
      refine wpAnyH_take (i := 4) (v := ?_) rfl (by kernel_rfl) (by kernel_rfl) (by kernel_rfl) (fun _ _ _ h => h) (Or.inl ⟨by rfl, ?_⟩) (by assumption) ?_
      rotate_left
      · intro wq hSq
        have hq := HCC.out wq hSq
        go_split_ands
        go_simp
        try with_reducible rfl
      try simp only [Act.put, List.getElem_toArray, List.getElem_cons_zero, List.getElem_cons_succ, List.setIfInBounds_toArray, List.set_cons_zero, List.set_cons_succ]
      refine wpAnyH_take (i := 5) (v := ?_) rfl (by kernel_rfl) (by kernel_rfl) (by kernel_rfl) (fun _ _ _ h => h) (Or.inl ⟨by rfl, ?_⟩) (by assumption) ?_
      rotate_left
      · intro wq hSq
        have hq := HCC.out wq hSq
        go_split_ands
        go_simp
        try with_reducible rfl
      try simp only [Act.put, List.getElem_toArray, List.getElem_cons_zero, List.getElem_cons_succ, List.setIfInBounds_toArray, List.set_cons_zero, List.set_cons_succ]
      refine wpAnyH_ready (rs := [6]) (by kernel_rfl) (by simp) ?_
      refine AllReadyH.cons rfl (fun K hK => ?_) AllReadyH.nil
      try simp only [List.getElem_toArray, List.getElem_cons_zero, List.getElem_cons_succ]
      go_simp
      refine (HQ.out _ (Frm.trans' (b := _) (by (repeat' (first | (with_reducible exact Frm.refl _ _) | (with_reducible assumption) | (with_reducible refine Frm.alloc ?_ _) | (with_reducible refine Frm.drew ?_) | (with_reducible refine Frm.drewN ?_ _) | (with_reducible refine Frm.set1 ?_ _) | (with_reducible refine Frm.setCell ?_ ?_ _) | (exact fun h => absurd h (Nat.lt_irrefl _)) | (intro hlt; simp [World.size_alloc, One] at hlt ⊢; omega)))) hHeld)).mono ?_
      rintro e w2 ⟨rfl, hF2⟩
      go_wp2_with fail
      refine hK.out _ _ (hHeld.trans' hF2) (fun hHeld => ?_)
      clear hK K
      try simp only [Act.put, List.setIfInBounds_toArray, List.set_cons_zero, List.set_cons_succ]
      refine wpAnyH_take (i := 7) (v := ?_) rfl (by kernel_rfl) (by kernel_rfl) (by kernel_rfl) (fun _ _ _ h => h) (Or.inl ⟨by rfl, ?_⟩) (by assumption) ?_
      rotate_left
      · intro wq hSq
        have hq := HCC.out wq hSq
        go_split_ands
        go_simp
        try with_reducible rfl
      try simp only [Act.put, List.getElem_toArray, List.getElem_cons_zero, List.getElem_cons_succ, List.setIfInBounds_toArray, List.set_cons_zero, List.set_cons_succ]
      refine wpAnyH_done (by kernel_rfl) ?_ _
      by_cases hz : cz < 0
      · have E := Lib.hid (HP1.out (HFI.out.1 hz))
        have hz2 : decide (cz < 0) = true := decide_eq_true hz
        go_wp2_with fail
        go_roundw
        case rel => exact ⟨m + 1, hi, by go_num, rfl, by omega, hhl, E.out, HHI.out, hHeld⟩
        case measure => simp [intOf]; omega
      · have E := Lib.hid (HP2.out (Int.not_lt.1 (fun h => hz (HFI.out.2 h))))
        have hz2 : decide (cz < 0) = false := decide_eq_false hz
        go_wp2_with fail
        go_roundw
        case rel => exact ⟨lo, m, rfl, rfl, by omega, by omega, HLO.out, E.out, hHeld⟩
        case measure => simp [intOf]; omega
    · go_upto_region 8 with fail
      have HFR2 := HFR.out
      obtain rfl : lo = hi := by omega
      by_cases hml : lo < l.length
      · obtain ⟨g, rfl, hcl, hg⟩ := HCE.out lo hml
        have HQ := Lib.hid (HCM.out lo hml)
        have hc : ∀ W, Frm (fun _ => False) (w.alloc (.cells #[.int .u16 i, .int .u8 s] 86)) W → W.cell? ⟨g, lo, none⟩ = some (.pointer (some ⟨l[lo].1, 0, none⟩)) ∧ W.cell? ⟨w.heap.size, 0, none⟩ = some (.int .u16 i) ∧ W.cell? ⟨w.heap.size, 1, none⟩ = some (.int .u8 s) := fun W hF => by
          have ky := hF.heap (heap_new w _) (fun h => h)
          exact ⟨hF.cell (cell_alloc_old hcl) (fun h => h), cell_at ky, cell_at ky⟩
        have HCC := Lib.hid hc
        have HZ : Hid (∀ e, (decide (cmpI (plI l[lo]) p = 0)) = e → ((e = true ∧ ∃ hk : lo < l.length, plI l[lo] = p) ∨ (e = false ∧ ∀ q ∈ l, plI q ≠ p))) := fun e he => by
          have hge := HHI.out lo hml (Nat.le_refl _)
          by_cases hz : plI l[lo] = p
          · exact .inl ⟨by rw [← he]; simp [cmpI, hz], hml, hz⟩
          · refine .inr ⟨by rw [← he]; simp [cmpI]; split <;> simp <;> omega, fun q hq e2 => ?_⟩
            obtain ⟨t, ht, rfl⟩ := List.getElem_of_mem hq
            rcases Nat.lt_or_ge t lo with h1 | h1
            · have := HLO.out t ht h1; omega
            · have := HM.out lo t hml ht h1; omega
        generalize l[lo].1 = pm at *
        generalize cmpI (plI l[lo]) p = cz at *
        clear hc hcl
        refine wp_region_held_drew (S := fun W => Frm (fun _ => False) _ W) (by kernel_rfl) (HFR2.drew) (fun hHeld => ?_)
        refine wpAnyH_take (i := 0) (v := ?_) rfl (by kernel_rfl) (by kernel_rfl) (by kernel_rfl) (fun _ _ _ h => h) (Or.inl ⟨by rfl, ?_⟩) (by assumption) ?_
        rotate_left
        · intro wq hSq
          have hq := HCC.out wq hSq
          go_split_ands
          go_simp
          try with_reducible rfl
        try simp only [Act.put, List.getElem_toArray, List.getElem_cons_zero, List.getElem_cons_succ, List.setIfInBounds_toArray, List.set_cons_zero, List.set_cons_succ]
        refine wpAnyH_take (i := 1) (v := ?_) rfl (by kernel_rfl) (by kernel_rfl) (by kernel_rfl) (fun _ _ _ h => h) (Or.inl ⟨by rfl, ?_⟩) (by assumption) ?_
        rotate_left
        · intro wq hSq
          have hq := HCC.out wq hSq
          go_split_ands
          go_simp
          try with_reducible rfl
        try simp only [Act.put, List.getElem_toArray, List.getElem_cons_zero, List.getElem_cons_succ, List.setIfInBounds_toArray, List.set_cons_zero, List.set_cons_succ]
        refine wpAnyH_take (i := 2) (v := ?_) rfl (by kernel_rfl) (by kernel_rfl) (by kernel_rfl) (fun _ _ _ h => h) (Or.inl ⟨by rfl, ?_⟩) (by assumption) ?_
        rotate_left
        · intro wq hSq
          have hq := HCC.out wq hSq
          go_split_ands
          go_simp
          try with_reducible rfl
        try simp only [Act.put, List.getElem_toArray, List.getElem_cons_zero, List.getElem_cons_succ, List.setIfInBounds_toArray, List.set_cons_zero, List.set_cons_succ]
        refine wpAnyH_take (i := 3) (v := ?_) rfl (by kernel_rfl) (by kernel_rfl) (by kernel_rfl) (fun _ _ _ h => h) (Or.inl ⟨by rfl, ?_⟩) (by assumption) ?_
        rotate_left
        · intro wq hSq
          have hq := HCC.out wq hSq
          go_split_ands
          go_simp
          try with_reducible rfl
        try simp only [Act.put, List.getElem_toArray, List.getElem_cons_zero, List.getElem_cons_succ, List.setIfInBounds_toArray, List.set_cons_zero, List.set_cons_succ]
        refine wpAnyH_take (i := 4) (v := ?_) rfl (by kernel_rfl) (by kernel_rfl) (by kernel_rfl) (fun _ _ _ h => h) (Or.inl ⟨by rfl, ?_⟩) (by assumption) ?_
        rotate_left
        · intro wq hSq
          have hq := HCC.out wq hSq
          go_split_ands
          go_simp
          try with_reducible rfl
        try simp only [Act.put, List.getElem_toArray, List.getElem_cons_zero, List.getElem_cons_succ, List.setIfInBounds_toArray, List.set_cons_zero, List.set_cons_succ]
        refine wpAnyH_take (i := 5) (v := ?_) rfl (by kernel_rfl) (by kernel_rfl) (by kernel_rfl) (fun _ _ _ h => h) (Or.inl ⟨by rfl, ?_⟩) (by assumption) ?_
        rotate_left
        · intro wq hSq
          have hq := HCC.out wq hSq
          go_split_ands
          go_simp
          try with_reducible rfl
        try simp only [Act.put, List.getElem_toArray, List.getElem_cons_zero, List.getElem_cons_succ, List.setIfInBounds_toArray, List.set_cons_zero, List.set_cons_succ]
        refine wpAnyH_take (i := 6) (v := ?_) rfl (by kernel_rfl) (by kernel_rfl) (by kernel_rfl) (fun _ _ _ h => h) (Or.inl ⟨by rfl, ?_⟩) (by assumption) ?_
        rotate_left
        · intro wq hSq
          have hq := HCC.out wq hSq
          go_split_ands
          go_simp
          try with_reducible rfl
        try simp only [Act.put, List.getElem_toArray, List.getElem_cons_zero, List.getElem_cons_succ, List.setIfInBounds_toArray, List.set_cons_zero, List.set_cons_succ]
        refine wpAnyH_take (i := 7) (v := ?_) rfl (by kernel_rfl) (by kernel_rfl) (by kernel_rfl) (fun _ _ _ h => h) (Or.inl ⟨by rfl, ?_⟩) (by assumption) ?_
        rotate_left
        · intro wq hSq
          have hq := HCC.out wq hSq
          go_split_ands
          go_simp
          try with_reducible rfl
        try simp only [Act.put, List.getElem_toArray, List.getElem_cons_zero, List.getElem_cons_succ, List.setIfInBounds_toArray, List.set_cons_zero, List.set_cons_succ]
        refine wpAnyH_take (i := 8) (v := ?_) rfl (by kernel_rfl) (by kernel_rfl) (by kernel_rfl) (fun _ _ _ h => h) (Or.inl ⟨by rfl, ?_⟩) (by assumption) ?_
        rotate_left
        · intro wq hSq
          have hq := HCC.out wq hSq
          go_split_ands
          go_simp
          try with_reducible rfl
        try simp only [Act.put, List.getElem_toArray, List.getElem_cons_zero, List.getElem_cons_succ, List.setIfInBounds_toArray, List.set_cons_zero, List.set_cons_succ]
        refine wpAnyH_take (i := 9) (v := ?_) rfl (by kernel_rfl) (by kernel_rfl) (by kernel_rfl) (fun _ _ _ h => h) (Or.inl ⟨by rfl, ?_⟩) (by assumption) ?_
        rotate_left
        · intro wq hSq
          have hq := HCC.out wq hSq
          go_split_ands
          go_simp
          try with_reducible rfl
        try simp only [Act.put, List.getElem_toArray, List.getElem_cons_zero, List.getElem_cons_succ, List.setIfInBounds_toArray, List.set_cons_zero, List.set_cons_succ]
        refine wpAnyH_take (i := 10) (v := ?_) rfl (by kernel_rfl) (by kernel_rfl) (by kernel_rfl) (fun _ _ _ h => h) (Or.inl ⟨by rfl, ?_⟩) (by assumption) ?_
        rotate_left
        · intro wq hSq
          have hq := HCC.out wq hSq
          go_split_ands
          go_simp
          try with_reducible rfl
        try simp only [Act.put, List.getElem_toArray, List.getElem_cons_zero, List.getElem_cons_succ, List.setIfInBounds_toArray, List.set_cons_zero, List.set_cons_succ]
        refine wpAnyH_ready (rs := [11]) (by kernel_rfl) (by simp) ?_
        refine AllReadyH.cons rfl (fun K hK => ?_) AllReadyH.nil
        try simp only [List.getElem_toArray, List.getElem_cons_zero, List.getElem_cons_succ]
        go_simp
        refine (HQ.out _ (Frm.trans' (b := _) (by (repeat' (first | (with_reducible exact Frm.refl _ _) | (with_reducible assumption) | (with_reducible refine Frm.alloc ?_ _) | (with_reducible refine Frm.drew ?_) | (with_reducible refine Frm.drewN ?_ _) | (with_reducible refine Frm.set1 ?_ _) | (with_reducible refine Frm.setCell ?_ ?_ _) | (exact fun h => absurd h (Nat.lt_irrefl _)) | (intro hlt; simp [World.size_alloc, One] at hlt ⊢; omega)))) hHeld)).mono ?_
        rintro e w2 ⟨rfl, hF2⟩
        go_wp2_with fail
        refine hK.out _ _ (hHeld.trans' hF2) (fun hHeld => ?_)
        clear hK K
        try simp only [Act.put, List.setIfInBounds_toArray, List.set_cons_zero, List.set_cons_succ]
        refine wpAnyH_take (i := 12) (v := ?_) rfl (by kernel_rfl) (by kernel_rfl) (by kernel_rfl) (fun _ _ _ h => h) (Or.inl ⟨by rfl, ?_⟩) (by assumption) ?_
        rotate_left
        · intro wq hSq
          have hq := HCC.out wq hSq
          go_split_ands
          go_simp
          try with_reducible rfl
        try simp only [Act.put, List.getElem_toArray, List.getElem_cons_zero, List.getElem_cons_succ, List.setIfInBounds_toArray, List.set_cons_zero, List.set_cons_succ]
        refine wpAnyH_take (i := 13) (v := ?_) rfl (by kernel_rfl) (by kernel_rfl) (by kernel_rfl) (fun _ _ _ h => h) (Or.inl ⟨by rfl, ?_⟩) (by assumption) ?_
        rotate_left
        · intro wq hSq
          have hq := HCC.out wq hSq
          go_split_ands
          go_simp
          try with_reducible rfl
        try simp only [Act.put, List.getElem_toArray, List.getElem_cons_zero, List.getElem_cons_succ, List.setIfInBounds_toArray, List.set_cons_zero, List.set_cons_succ]
        refine wpAnyH_take (i := 14) (v := ?_) rfl (by kernel_rfl) (by kernel_rfl) (by kernel_rfl) (fun _ _ _ h => h) (Or.inl ⟨by rfl, ?_⟩) (by assumption) ?_
        rotate_left
        · intro wq hSq
          have hq := HCC.out wq hSq
          go_split_ands
          go_simp
          try with_reducible rfl
        try simp only [Act.put, List.getElem_toArray, List.getElem_cons_zero, List.getElem_cons_succ, List.setIfInBounds_toArray, List.set_cons_zero, List.set_cons_succ]
        refine wpAnyH_take (i := 15) (v := ?_) rfl (by kernel_rfl) (by kernel_rfl) (by kernel_rfl) (fun _ _ _ h => h) (Or.inl ⟨by rfl, ?_⟩) (by assumption) ?_
        rotate_left
        · intro wq hSq
          have hq := HCC.out wq hSq
          go_split_ands
          go_simp
          try with_reducible rfl
        try simp only [Act.put, List.getElem_toArray, List.getElem_cons_zero, List.getElem_cons_succ, List.setIfInBounds_toArray, List.set_cons_zero, List.set_cons_succ]
        refine wpAnyH_done (by kernel_rfl) ?_ _
        go_wp2_with fail
        go_ret2
        exact ⟨Frm.trans' (b := _) (by (repeat' (first | (with_reducible exact Frm.refl _ _) | (with_reducible assumption) | (with_reducible refine Frm.alloc ?_ _) | (with_reducible refine Frm.drew ?_) | (with_reducible refine Frm.drewN ?_ _) | (with_reducible refine Frm.set1 ?_ _) | (with_reducible refine Frm.setCell ?_ ?_ _) | (exact fun h => absurd h (Nat.lt_irrefl _)) | (intro hlt; simp [World.size_alloc, One] at hlt ⊢; omega)))) hHeld, lo, _, rfl, HZ.out _ rfl⟩
      · have HZ : Hid (∀ q ∈ l, plI q ≠ p) := fun q hq e2 => by
          obtain ⟨t, ht, rfl⟩ := List.getElem_of_mem hq
          have := HLO.out t ht (by omega)
          omega
        have htr : ∀ W : World, Frm (fun _ => False) (w.alloc (.cells #[.int .u16 i, .int .u8 s] 86)) W → True := fun _ _ => trivial
        have HCC := Lib.hid htr
        clear htr
        refine wp_region_held_drew (S := fun W => Frm (fun _ => False) _ W) (by kernel_rfl) (HFR2.drew) (fun hHeld => ?_)
        refine wpAnyH_take (i := 0) (v := ?_) rfl (by kernel_rfl) (by kernel_rfl) (by kernel_rfl) (fun _ _ _ h => h) (Or.inl ⟨by rfl, ?_⟩) (by assumption) ?_
        rotate_left
        · intro wq hSq
          have hq := HCC.out wq hSq
          go_split_ands
          go_simp
          try with_reducible rfl
        try simp only [Act.put, List.getElem_toArray, List.getElem_cons_zero, List.getElem_cons_succ, List.setIfInBounds_toArray, List.set_cons_zero, List.set_cons_succ]
        refine wpAnyH_take (i := 1) (v := ?_) rfl (by kernel_rfl) (by kernel_rfl) (by kernel_rfl) (fun _ _ _ h => h) (Or.inl ⟨by rfl, ?_⟩) (by assumption) ?_
        rotate_left
        · intro wq hSq
          have hq := HCC.out wq hSq
          go_split_ands
          go_simp
          try with_reducible rfl
        try simp only [Act.put, List.getElem_toArray, List.getElem_cons_zero, List.getElem_cons_succ, List.setIfInBounds_toArray, List.set_cons_zero, List.set_cons_succ]
        refine wpAnyH_take (i := 2) (v := ?_) rfl (by kernel_rfl) (by kernel_rfl) (by kernel_rfl) (fun _ _ _ h => h) (Or.inl ⟨by rfl, ?_⟩) (by assumption) ?_
        rotate_left
        · intro wq hSq
          have hq := HCC.out wq hSq
          go_split_ands
          go_simp
          try with_reducible rfl
        try simp only [Act.put, List.getElem_toArray, List.getElem_cons_zero, List.getElem_cons_succ, List.setIfInBounds_toArray, List.set_cons_zero, List.set_cons_succ]
        refine wpAnyH_take (i := 3) (v := ?_) rfl (by kernel_rfl) (by kernel_rfl) (by kernel_rfl) (fun _ _ _ h => h) (Or.inl ⟨by rfl, ?_⟩) (by assumption) ?_
        rotate_left
        · intro wq hSq
          have hq := HCC.out wq hSq
          go_split_ands
          go_simp
          try with_reducible rfl
        try simp only [Act.put, List.getElem_toArray, List.getElem_cons_zero, List.getElem_cons_succ, List.setIfInBounds_toArray, List.set_cons_zero, List.set_cons_succ]
        refine wpAnyH_take (i := 4) (v := ?_) rfl (by kernel_rfl) (by kernel_rfl) (by kernel_rfl) (fun _ _ _ h => h) (Or.inl ⟨by rfl, ?_⟩) (by assumption) ?_
        rotate_left
        · intro wq hSq
          have hq := HCC.out wq hSq
          go_split_ands
          go_simp
          try with_reducible rfl
        try simp only [Act.put, List.getElem_toArray, List.getElem_cons_zero, List.getElem_cons_succ, List.setIfInBounds_toArray, List.set_cons_zero, List.set_cons_succ]
        refine wpAnyH_take (i := 5) (v := undef) rfl (by kernel_rfl) (by kernel_rfl) (by kernel_rfl) (fun _ _ _ h => h) (Or.inr ⟨by rfl, rfl⟩) (by assumption) ?_
        try simp only [Act.put, List.getElem_toArray, List.getElem_cons_zero, List.getElem_cons_succ, List.setIfInBounds_toArray, List.set_cons_zero, List.set_cons_succ]
        refine wpAnyH_take (i := 6) (v := undef) rfl (by kernel_rfl) (by kernel_rfl) (by kernel_rfl) (fun _ _ _ h => h) (Or.inr ⟨by rfl, rfl⟩) (by assumption) ?_
        try simp only [Act.put, List.getElem_toArray, List.getElem_cons_zero, List.getElem_cons_succ, List.setIfInBounds_toArray, List.set_cons_zero, List.set_cons_succ]
        refine wpAnyH_take (i := 7) (v := undef) rfl (by kernel_rfl) (by kernel_rfl) (by kernel_rfl) (fun _ _ _ h => h) (Or.inr ⟨by rfl, rfl⟩) (by assumption) ?_
        try simp only [Act.put, List.getElem_toArray, List.getElem_cons_zero, List.getElem_cons_succ, List.setIfInBounds_toArray, List.set_cons_zero, List.set_cons_succ]
        refine wpAnyH_take (i := 8) (v := undef) rfl (by kernel_rfl) (by kernel_rfl) (by kernel_rfl) (fun _ _ _ h => h) (Or.inr ⟨by rfl, rfl⟩) (by assumption) ?_
        try simp only [Act.put, List.getElem_toArray, List.getElem_cons_zero, List.getElem_cons_succ, List.setIfInBounds_toArray, List.set_cons_zero, List.set_cons_succ]
        refine wpAnyH_take (i := 9) (v := undef) rfl (by kernel_rfl) (by kernel_rfl) (by kernel_rfl) (fun _ _ _ h => h) (Or.inr ⟨by rfl, rfl⟩) (by assumption) ?_
        try simp only [Act.put, List.getElem_toArray, List.getElem_cons_zero, List.getElem_cons_succ, List.setIfInBounds_toArray, List.set_cons_zero, List.set_cons_succ]
        refine wpAnyH_take (i := 10) (v := undef) rfl (by kernel_rfl) (by kernel_rfl) (by kernel_rfl) (fun _ _ _ h => h) (Or.inr ⟨by rfl, rfl⟩) (by assumption) ?_
        try simp only [Act.put, List.getElem_toArray, List.getElem_cons_zero, List.getElem_cons_succ, List.setIfInBounds_toArray, List.set_cons_zero, List.set_cons_succ]
        refine wpAnyH_take (i := 11) (v := undef) rfl (by kernel_rfl) (by kernel_rfl) (by kernel_rfl) (fun _ _ _ h => h) (Or.inr ⟨by rfl, rfl⟩) (by assumption) ?_
        try simp only [Act.put, List.getElem_toArray, List.getElem_cons_zero, List.getElem_cons_succ, List.setIfInBounds_toArray, List.set_cons_zero, List.set_cons_succ]
        refine wpAnyH_take (i := 12) (v := undef) rfl (by kernel_rfl) (by kernel_rfl) (by kernel_rfl) (fun _ _ _ h => h) (Or.inr ⟨by rfl, rfl⟩) (by assumption) ?_
        try simp only [Act.put, List.getElem_toArray, List.getElem_cons_zero, List.getElem_cons_succ, List.setIfInBounds_toArray, List.set_cons_zero, List.set_cons_succ]
        refine wpAnyH_take (i := 13) (v := ?_) rfl (by kernel_rfl) (by kernel_rfl) (by kernel_rfl) (fun _ _ _ h => h) (Or.inl ⟨by rfl, ?_⟩) (by assumption) ?_
        rotate_left
        · intro wq hSq
          have hq := HCC.out wq hSq
          go_split_ands
          go_simp
          try with_reducible rfl
        try simp only [Act.put, List.getElem_toArray, List.getElem_cons_zero, List.getElem_cons_succ, List.setIfInBounds_toArray, List.set_cons_zero, List.set_cons_succ]
        refine wpAnyH_take (i := 14) (v := ?_) rfl (by kernel_rfl) (by kernel_rfl) (by kernel_rfl) (fun _ _ _ h => h) (Or.inl ⟨by rfl, ?_⟩) (by assumption) ?_
        rotate_left
        · intro wq hSq
          have hq := HCC.out wq hSq
          go_split_ands
          go_simp
          try with_reducible rfl
        try simp only [Act.put, List.getElem_toArray, List.getElem_cons_zero, List.getElem_cons_succ, List.setIfInBounds_toArray, List.set_cons_zero, List.set_cons_succ]
        refine wpAnyH_take (i := 15) (v := ?_) rfl (by kernel_rfl) (by kernel_rfl) (by kernel_rfl) (fun _ _ _ h => h) (Or.inl ⟨by rfl, ?_⟩) (by assumption) ?_
        rotate_left
        · intro wq hSq
          have hq := HCC.out wq hSq
          go_split_ands
          go_simp
          try with_reducible rfl
        try simp only [Act.put, List.getElem_toArray, List.getElem_cons_zero, List.getElem_cons_succ, List.setIfInBounds_toArray, List.set_cons_zero, List.set_cons_succ]
        refine wpAnyH_done (by kernel_rfl) ?_ _
        go_wp2_with fail
        go_ret2
        exact ⟨Frm.trans' (b := _) (by (repeat' (first | (with_reducible exact Frm.refl _ _) | (with_reducible assumption) | (with_reducible refine Frm.alloc ?_ _) | (with_reducible refine Frm.drew ?_) | (with_reducible refine Frm.drewN ?_ _) | (with_reducible refine Frm.set1 ?_ _) | (with_reducible refine Frm.setCell ?_ ?_ _) | (exact fun h => absurd h (Nat.lt_irrefl _)) | (intro hlt; simp [World.size_alloc, One] at hlt ⊢; omega)))) hHeld, lo, false, rfl, .inr ⟨rfl, HZ.out⟩⟩
end Go.Proofs.Ytemjdmgfilbfaaa
