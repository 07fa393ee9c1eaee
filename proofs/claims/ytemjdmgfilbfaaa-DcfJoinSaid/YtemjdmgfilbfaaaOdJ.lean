/-
  find.
-/
import Derived.Test.YtemjdmgfilbfaaaOdI
namespace Go.Proofs.Ytemjdmgfilbfaaa
open Go.RowKit
set_option linter.unusedVariables false

theorem odFind2_any (p gi : Nat) (x i : Int) (w : World) (hx : w.cell? ⟨p, 0, none⟩ = some (.int .u16 x)) (hi : w.cell? ⟨gi, 0, none⟩ = some (.int .u16 i)) :
    Calls Try.prog 85 #[ptr p, ptr gi] w fun e w' => e = .returned (.bool (x == i)) ∧ Frm (fun _ => False) w w' := by
  unfold ptr
  have hc : ∀ W, Frm (fun _ => False) w W → W.cell? ⟨p, 0, none⟩ = some (.int .u16 x) ∧ W.cell? ⟨gi, 0, none⟩ = some (.int .u16 i) := fun W hF => ⟨hF.cell hx (fun h => h), hF.cell hi (fun h => h)⟩
  have HCC := Lib.hid hc
  clear hx hi hc
  go_enter Try.func85, Try.ntmps85
  go_wp2_with fail
  refine wp_region_held_drew (S := fun W => Frm (fun _ => False) _ W) (by kernel_rfl) ((Frm.refl _ _).drew) (fun hHeld => ?_)
  refine wpAnyH_take (i := 0) (v := ?_) rfl (by kernel_rfl) (by kernel_rfl) (by kernel_rfl) (fun _ _ _ h => h) (Or.inl ⟨by rfl, ?_⟩) (by assumption) ?_
  rotate_left
  · intro wq hSq
    have hq := HCC.out wq hSq
    go_split_ands
    go_simp
    try with_reducible rfl
  try simp only [Act.put, List.getElem_toArray, List.getElem_cons_zero, List.getElem_cons_succ, List.setIfInBounds_toArray, List.set_cons_zero, List.set_cons_succ]
  refine wpAnyH_take (i := 1) (v := ?_) rfl (by kernel_rfl) (by kernel_rfl) (by kernel_rfl) (fun _ _ _ h => h) (Or.inl ⟨by rfl, ?_⟩) (by assumption) ?_
  rotate_left
  · intro wq hSq
    have hq := HCC.out wq hSq
    go_split_ands
    go_simp
    try with_reducible rfl
  try simp only [Act.put, List.getElem_toArray, List.getElem_cons_zero, List.getElem_cons_succ, List.setIfInBounds_toArray, List.set_cons_zero, List.set_cons_succ]
  refine wpAnyH_take (i := 2) (v := ?_) rfl (by kernel_rfl) (by kernel_rfl) (by kernel_rfl) (fun _ _ _ h => h) (Or.inl ⟨by rfl, ?_⟩) (by assumption) ?_
  rotate_left
  · intro wq hSq
    have hq := HCC.out wq hSq
    go_split_ands
    go_simp
    try with_reducible rfl
  try simp only [Act.put, List.getElem_toArray, List.getElem_cons_zero, List.getElem_cons_succ, List.setIfInBounds_toArray, List.set_cons_zero, List.set_cons_succ]
  refine wpAnyH_take (i := 3) (v := ?_) rfl (by kernel_rfl) (by kernel_rfl) (by kernel_rfl) (fun _ _ _ h => h) (Or.inl ⟨by rfl, ?_⟩) (by assumption) ?_
  rotate_left
  · intro wq hSq
    have hq := HCC.out wq hSq
    go_split_ands
    go_simp
    try with_reducible rfl
  try simp only [Act.put, List.getElem_toArray, List.getElem_cons_zero, List.getElem_cons_succ, List.setIfInBounds_toArray, List.set_cons_zero, List.set_cons_succ]
  refine wpAnyH_take (i := 4) (v := ?_) rfl (by kernel_rfl) (by kernel_rfl) (by kernel_rfl) (fun _ _ _ h => h) (Or.inl ⟨by rfl, ?_⟩) (by assumption) ?_
  rotate_left
  · intro wq hSq
    have hq := HCC.out wq hSq
    go_split_ands
    go_simp
    try with_reducible rfl
  try simp only [Act.put, List.getElem_toArray, List.getElem_cons_zero, List.getElem_cons_succ, List.setIfInBounds_toArray, List.set_cons_zero, List.set_cons_succ]
  refine wpAnyH_take (i := 5) (v := ?_) rfl (by kernel_rfl) (by kernel_rfl) (by kernel_rfl) (fun _ _ _ h => h) (Or.inl ⟨by rfl, ?_⟩) (by assumption) ?_
  rotate_left
  · intro wq hSq
    have hq := HCC.out wq hSq
    go_split_ands
    go_simp
    try with_reducible rfl
  try simp only [Act.put, List.getElem_toArray, List.getElem_cons_zero, List.getElem_cons_succ, List.setIfInBounds_toArray, List.set_cons_zero, List.set_cons_succ]
  refine wpAnyH_take (i := 6) (v := ?_) rfl (by kernel_rfl) (by kernel_rfl) (by kernel_rfl) (fun _ _ _ h => h) (Or.inl ⟨by rfl, ?_⟩) (by assumption) ?_
  rotate_left
  · intro wq hSq
    have hq := HCC.out wq hSq
    go_split_ands
    go_simp
    try with_reducible rfl
  try simp only [Act.put, List.getElem_toArray, List.getElem_cons_zero, List.getElem_cons_succ, List.setIfInBounds_toArray, List.set_cons_zero, List.set_cons_succ]
  refine wpAnyH_take (i := 7) (v := ?_) rfl (by kernel_rfl) (by kernel_rfl) (by kernel_rfl) (fun _ _ _ h => h) (Or.inl ⟨by rfl, ?_⟩) (by assumption) ?_
  rotate_left
  · intro wq hSq
    have hq := HCC.out wq hSq
    go_split_ands
    go_simp
    try with_reducible rfl
  try simp only [Act.put, List.getElem_toArray, List.getElem_cons_zero, List.getElem_cons_succ, List.setIfInBounds_toArray, List.set_cons_zero, List.set_cons_succ]
  refine wpAnyH_done (by kernel_rfl) ?_ _
  go_wp2_with fail
  go_ret
  exact ⟨rfl, hHeld⟩

set_option maxRecDepth 100000 in
set_option maxHeartbeats 2000000 in
theorem odIdx_any (v : Value) (l : List (Nat × Im)) (b gi : Nat) (i : Int) (w : World) (h : w.ownsRow b 81 1 v l.length (l.map fun q => ptr q.1)) (hit : ∀ q ∈ l, ItAt w q.1 q.2) (hl : l.length ≤ 1024) (hgi : w.cell? ⟨gi, 0, none⟩ = some (.int .u16 i)) :
    Calls Try.prog 115 #[v, .func (.func 85) #[] #[ptr gi]] w fun e w' => Frm (fun _ => False) w w' ∧ ∃ r : Int, e = .returned (.int .i64 r) ∧ decide (0 ≤ r) = l.any fun q => q.2.1.idx == i := by
  obtain ⟨A, cap, rfl, h1, h2, h3⟩ := row_open h
  have hcell : ∀ (k : Nat) (hk : k < l.length), ∃ g, A = some ⟨g, 0, none⟩ ∧ w.cell? ⟨g, k, none⟩ = some (ptr l[k].1) ∧ g < w.heap.size ∧ w.cell? ⟨l[k].1, 0, none⟩ = some (.int .u16 l[k].2.1.idx) := fun k hk => by
    obtain ⟨g, e, _, ⟨cur, hc⟩, _, hcc⟩ := h3 (by omega)
    exact ⟨g, e, by rw [hcc k (by omega)]; simp [hk], lt_of_block hc, cell_at (hit _ (List.getElem_mem hk))⟩
  have HCE := Lib.hid hcell
  clear h hit h1 h2 h3 hcell
  unfold ptr at HCE
  unfold ptr
  go_enter Try.func115, Try.ntmps115
  go_wp2_with fail
  go_loopw [5, 8] (fun _ c wr => ∃ k : Nat, c = .int .i64 k ∧ k ≤ l.length ∧ (∀ (t : Nat) (ht : t < l.length), t < k → l[t].2.1.idx ≠ i) ∧ Frm (fun _ => False) w wr) (fun _ c _ => l.length - (intOf c).toNat)
  case atStart => exact ⟨0, rfl, by omega, fun t ht h => by omega, Frm.refl _ _⟩
  case round =>
    obtain ⟨k, rfl, hk, hno, hF⟩ := hrel
    have HNO := Lib.hid hno
    have HF := Lib.hid hF
    clear hno hF
    by_cases hlt : k < l.length
    · obtain ⟨g, rfl, c1, hg, c2⟩ := HCE.out k hlt
      have HY : Hid (l[k].2.1.idx = i → (l.any fun q => q.2.1.idx == i) = true) := fun h => List.any_eq_true.2 ⟨_, List.getElem_mem hlt, by simpa using h⟩
      have HN2 : Hid (l[k].2.1.idx ≠ i → ∀ (t : Nat) (ht : t < l.length), t < k + 1 → l[t].2.1.idx ≠ i) := fun h t ht h2 => by
        rcases Nat.lt_or_eq_of_le (Nat.le_of_lt_succ h2) with h3 | rfl
        · exact HNO.out t ht h3
        · exact h
      generalize l[k].1 = pk at *
      generalize l[k].2.1.idx = x at *
      have c1' := HF.out.cell c1 (fun h => h)
      have HQ := Lib.hid (odFind2_any pk gi x i wr (HF.out.cell c2 (fun h => h)) (HF.out.cell hgi (fun h => h)))
      unfold ptr at HQ
      have hg' := Nat.lt_of_lt_of_le hg HF.out.size
      clear c1 c2 hgi
      go_wp2_with (go_at_call 85; refine HQ.out.mono ?_; rintro e w5 ⟨rfl, hF5⟩)
      · have hyes : (x == i) = true := by assumption
        go_ret
        refine ⟨HF.out.trans' hF5, _, rfl, ?_⟩
        rw [HY.out (by simpa using hyes)]
        simp
      · have hn : (x == i) = false := by assumption
        go_roundw
        case rel => exact ⟨k + 1, by go_num, by omega, HN2.out (by simpa using hn), HF.out.trans' hF5⟩
        case measure => simp [intOf]; omega
    · have hkn : k = l.length := by omega
      subst hkn
      go_wp2_with fail
      go_ret
      refine ⟨HF.out, _, rfl, ?_⟩
      have : (l.any fun q => q.2.1.idx == i) = false := by
        rw [List.any_eq_false]
        intro q hq
        obtain ⟨t, ht, rfl⟩ := List.getElem_of_mem hq
        simpa using HNO.out t ht ht
      rw [this]
      rfl

theorem odCont_any (v : Value) (l : List (Nat × Im)) (b gi : Nat) (i : Int) (w : World) (h : w.ownsRow b 81 1 v l.length (l.map fun q => ptr q.1)) (hit : ∀ q ∈ l, ItAt w q.1 q.2) (hl : l.length ≤ 1024) (hgi : w.cell? ⟨gi, 0, none⟩ = some (.int .u16 i)) :
    Calls Try.prog 84 #[v, .func (.func 85) #[] #[ptr gi]] w fun e w' => Frm (fun _ => False) w w' ∧ e = .returned (.bool (l.any fun q => q.2.1.idx == i)) := by
  have H := Lib.hid (odIdx_any v l b gi i w h hit hl hgi)
  clear h hit hl hgi
  go_enter Try.func84, Try.ntmps84
  go_wp2_with (go_at_call 115; refine H.out.mono ?_; rintro e w5 ⟨hF5, r, rfl, hr⟩)
  go_ret
  exact ⟨hF5, by rw [← hr]; rfl⟩

theorem find_hit {d : List Im} (hd : DOk d) {i s : Int} (hs : 0 ≤ s ∧ s ≤ 255) {k : Nat} (hk : k < d.length) (h : plE d[k].1 = i * 256 + s) : findD d i s = some k ∧ d[k].1.idx = i ∧ d[k].1.sub = s := by
  have ho := (hd.ok _ (List.getElem_mem hk)).1
  have e : d[k].1.idx = i ∧ d[k].1.sub = s := by
    unfold plE at h
    have := ho.2.2.1; have := ho.2.2.2.1
    omega
  refine ⟨?_, e⟩
  unfold findD
  rw [List.findIdx?_eq_some_iff_getElem]
  refine ⟨hk, by simp [isAt, e.1, e.2], fun j hj => ?_⟩
  have hlt := List.pairwise_iff_getElem.1 hd.srt j k (by omega) hk hj
  intro hm
  simp only [isAt, Bool.and_eq_true, beq_iff_eq] at hm
  unfold plE at hlt
  rw [hm.1, hm.2, e.1, e.2] at hlt
  omega
theorem find_miss {d : List Im} {i s : Int} (h : ∀ x ∈ d, plE x.1 ≠ i * 256 + s) : findD d i s = none := by
  unfold findD
  rw [List.findIdx?_eq_none_iff]
  intro x hx
  have := h x hx
  unfold plE at this
  cases hb : isAt i s x
  · rfl
  · simp only [isAt, Bool.and_eq_true, beq_iff_eq] at hb
    rw [hb.1, hb.2] at this
    exact absurd rfl this
def FindP (l : List (Nat × Im)) (i s : Int) (e : Ending) : Prop :=
  (∃ (k : Nat) (hk : k < l.length), findD (im l) i s = some k ∧ l[k].2.1.idx = i ∧ l[k].2.1.sub = s ∧ e = .returned (.tuple #[ptr l[k].1, .int .u32 0])) ∨
  (findD (im l) i s = none ∧ findC (im l) i s ≠ 0 ∧ e = .returned (.tuple #[.pointer none, .int .u32 (findC (im l) i s)]))

set_option maxRecDepth 100000 in
set_option maxHeartbeats 4000000 in
theorem odFind_any (b : Nat) (l : List (Nat × Im)) (i s : Int) (w : World) (h : DAt w b l) (hd : DOk (im l)) (hs : 0 ≤ s ∧ s ≤ 255) :
    Calls Try.prog 45 #[ptr b, .int .u16 i, .int .u8 s] w fun e w' => Frm (fun _ => False) w w' ∧ FindP l i s e := by
  obtain ⟨v, hO, hr⟩ := h.row
  have hlen : l.length ≤ 1024 := by have := hd.len; simpa using this
  obtain ⟨w0, hw0⟩ : ∃ w0, w0 = (w.alloc (.cells #[.int .u16 i] 32)).alloc (.cells #[.int .u16 i, .int .u8 s] 86) := ⟨_, rfl⟩
  have hF0 : Frm (fun _ => False) w w0 := by rw [hw0]; (repeat' (first | (with_reducible exact Frm.refl _ _) | (with_reducible assumption) | (with_reducible refine Frm.alloc ?_ _) | (with_reducible refine Frm.drew ?_) | (with_reducible refine Frm.drewN ?_ _) | (with_reducible refine Frm.set1 ?_ _) | (with_reducible refine Frm.setCell ?_ ?_ _) | (exact fun h => absurd h (Nat.lt_irrefl _)) | (intro hlt; simp [World.size_alloc, One] at hlt ⊢; omega)))
  have hbin : ∀ W, Frm (fun _ => False) w0 W → _ := fun W hF => odBin_any v l b i s W ((hF0.trans' hF).row hr (fun _ _ h => h)) (fun q hq => (h.el q hq).frm (hF0.trans' hF) (fun h => h)) hd hs
  have k0 : w0.cell? ⟨w.heap.size, 0, none⟩ = some (.int .u16 i) := by rw [hw0]; go_simp
  have k1 : w0.cell? ⟨w.heap.size + 1, 0, none⟩ = some (.int .u16 i) := by rw [hw0]; go_simp
  have k2 : w0.cell? ⟨w.heap.size + 1, 1, none⟩ = some (.int .u8 s) := by rw [hw0]; go_simp
  have hcon : ∀ W, Frm (fun _ => False) w0 W → _ := fun W hF => odCont_any v l b w.heap.size i W ((hF0.trans' hF).row hr (fun _ _ h => h)) (fun q hq => (h.el q hq).frm (hF0.trans' hF) (fun h => h)) hlen (hF.cell k0 (fun h => h))
  have hc : ∀ W, Frm (fun _ => False) w0 W → W.cell? ⟨b, 0, none⟩ = some v ∧ W.cell? ⟨w.heap.size + 1, 0, none⟩ = some (.int .u16 i) ∧ W.cell? ⟨w.heap.size + 1, 1, none⟩ = some (.int .u8 s) := fun W hF => ⟨cell_at ((hF0.trans' hF).heap hO (fun h => h)), hF.cell k1 (fun h => h), hF.cell k2 (fun h => h)⟩
  have hhit : ∀ (k : Nat) (hk : k < l.length), plI l[k] = i * 256 + s → findD (im l) i s = some k ∧ l[k].2.1.idx = i ∧ l[k].2.1.sub = s := fun k hk e => by
    have := find_hit hd hs (k := k) (by simpa using hk) (by simpa [plI] using e)
    simpa using this
  have hmiss : (∀ q ∈ l, plI q ≠ i * 256 + s) → findD (im l) i s = none := fun hh => find_miss fun x hx => by
    obtain ⟨q, hq, rfl⟩ := List.mem_map.1 hx
    exact hh q hq
  obtain ⟨A, cap, rfl, h1, h2, h3⟩ := row_open hr
  have hcell : ∀ (k : Nat) (hk : k < l.length), ∃ g, A = some ⟨g, 0, none⟩ ∧ ∀ W, Frm (fun _ => False) w0 W → W.cell? ⟨g, k, none⟩ = some (ptr l[k].1) ∧ g < W.heap.size := fun k hk => by
    obtain ⟨g, e, _, ⟨cur, hcc⟩, _, hcx⟩ := h3 (by omega)
    exact ⟨g, e, fun W hF => ⟨(hF0.trans' hF).cell (by rw [hcx k (by omega)]; simp [hk]) (fun h => h), Nat.lt_of_lt_of_le (lt_of_block hcc) (hF0.trans' hF).size⟩⟩
  have HBIN := Lib.hid hbin
  have HCON := Lib.hid hcon
  have HCC := Lib.hid hc
  have HIT := Lib.hid hhit
  have HMI := Lib.hid hmiss
  have HCE := Lib.hid hcell
  have HF0 := Lib.hid hF0
  clear h hd hs hO hr hF0 hbin k0 k1 k2 hcon hc hhit hmiss hcell h1 h2 h3
  unfold ptr
  unfold ptr at HCON HCE
  go_enter Try.func45, Try.ntmps45
  go_upto_region 2 with fail
  rw [← hw0]
  clear hw0
  refine wp_region_held_drew (S := fun W => Frm (fun _ => False) w0 W) (by kernel_rfl) ((Frm.refl _ _).drew) (fun hHeld => ?_)
  refine wpAnyH_take (i := 0) (v := ?_) rfl (by kernel_rfl) (by kernel_rfl) (by kernel_rfl) (fun _ _ _ h => h) (Or.inl ⟨by rfl, ?_⟩) (by assumption) ?_
  rotate_left
  · intro wq hSq
    have hq := HCC.out wq hSq
    go_split_ands
    go_simp
    try with_reducible rfl
  try simp only [Act.put, List.getElem_toArray, List.getElem_cons_zero, List.getElem_cons_succ, List.setIfInBounds_toArray, List.set_cons_zero, List.set_cons_succ]
  refine wpAnyH_take (i := 1) (v := ?_) rfl (by kernel_rfl) (by kernel_rfl) (by kernel_rfl) (fun _ _ _ h => h) (Or.inl ⟨by rfl, ?_⟩) (by assumption) ?_
  rotate_left
  · intro wq hSq
    have hq := HCC.out wq hSq
    go_split_ands
    go_simp
    try with_reducible rfl
  try simp only [Act.put, List.getElem_toArray, List.getElem_cons_zero, List.getElem_cons_succ, List.setIfInBounds_toArray, List.set_cons_zero, List.set_cons_succ]
  refine wpAnyH_take (i := 2) (v := ?_) rfl (by kernel_rfl) (by kernel_rfl) (by kernel_rfl) (fun _ _ _ h => h) (Or.inl ⟨by rfl, ?_⟩) (by assumption) ?_
  rotate_left
  · intro wq hSq
    have hq := HCC.out wq hSq
    go_split_ands
    go_simp
    try with_reducible rfl
  try simp only [Act.put, List.getElem_toArray, List.getElem_cons_zero, List.getElem_cons_succ, List.setIfInBounds_toArray, List.set_cons_zero, List.set_cons_succ]
  refine wpAnyH_take (i := 3) (v := ?_) rfl (by kernel_rfl) (by kernel_rfl) (by kernel_rfl) (fun _ _ _ h => h) (Or.inl ⟨by rfl, ?_⟩) (by assumption) ?_
  rotate_left
  · intro wq hSq
    have hq := HCC.out wq hSq
    go_split_ands
    go_simp
    try with_reducible rfl
  try simp only [Act.put, List.getElem_toArray, List.getElem_cons_zero, List.getElem_cons_succ, List.setIfInBounds_toArray, List.set_cons_zero, List.set_cons_succ]
  refine wpAnyH_take (i := 4) (v := ?_) rfl (by kernel_rfl) (by kernel_rfl) (by kernel_rfl) (fun _ _ _ h => h) (Or.inl ⟨by rfl, ?_⟩) (by assumption) ?_
  rotate_left
  · intro wq hSq
    have hq := HCC.out wq hSq
    go_split_ands
    go_simp
    try with_reducible rfl
  try simp only [Act.put, List.getElem_toArray, List.getElem_cons_zero, List.getElem_cons_succ, List.setIfInBounds_toArray, List.set_cons_zero, List.set_cons_succ]
  refine wpAnyH_ready (rs := [5]) (by kernel_rfl) (by simp) ?_
  refine AllReadyH.cons rfl (fun K hK => ?_) AllReadyH.nil
  try simp only [List.getElem_toArray, List.getElem_cons_zero, List.getElem_cons_succ]
  go_simp
  refine (HBIN.out _ hHeld).mono ?_
  rintro e w2 ⟨hF2, k, f, rfl, hkf⟩
  go_wp2_with fail
  refine hK.out _ _ (hHeld.trans' hF2) (fun hHeld => ?_)
  clear hK K
  try simp only [Act.put, List.setIfInBounds_toArray, List.set_cons_zero, List.set_cons_succ]
  refine wpAnyH_take (i := 6) (v := ?_) rfl (by kernel_rfl) (by kernel_rfl) (by kernel_rfl) (fun _ _ _ h => h) (Or.inl ⟨by rfl, ?_⟩) (by assumption) ?_
  rotate_left
  · intro wq hSq
    have hq := HCC.out wq hSq
    go_split_ands
    go_simp
    try with_reducible rfl
  try simp only [Act.put, List.getElem_toArray, List.getElem_cons_zero, List.getElem_cons_succ, List.setIfInBounds_toArray, List.set_cons_zero, List.set_cons_succ]
  refine wpAnyH_take (i := 7) (v := ?_) rfl (by kernel_rfl) (by kernel_rfl) (by kernel_rfl) (fun _ _ _ h => h) (Or.inl ⟨by rfl, ?_⟩) (by assumption) ?_
  rotate_left
  · intro wq hSq
    have hq := HCC.out wq hSq
    go_split_ands
    go_simp
    try with_reducible rfl
  try simp only [Act.put, List.getElem_toArray, List.getElem_cons_zero, List.getElem_cons_succ, List.setIfInBounds_toArray, List.set_cons_zero, List.set_cons_succ]
  refine wpAnyH_take (i := 8) (v := ?_) rfl (by kernel_rfl) (by kernel_rfl) (by kernel_rfl) (fun _ _ _ h => h) (Or.inl ⟨by rfl, ?_⟩) (by assumption) ?_
  rotate_left
  · intro wq hSq
    have hq := HCC.out wq hSq
    go_split_ands
    go_simp
    try with_reducible rfl
  try simp only [Act.put, List.getElem_toArray, List.getElem_cons_zero, List.getElem_cons_succ, List.setIfInBounds_toArray, List.set_cons_zero, List.set_cons_succ]
  refine wpAnyH_take (i := 9) (v := ?_) rfl (by kernel_rfl) (by kernel_rfl) (by kernel_rfl) (fun _ _ _ h => h) (Or.inl ⟨by rfl, ?_⟩) (by assumption) ?_
  rotate_left
  · intro wq hSq
    have hq := HCC.out wq hSq
    go_split_ands
    go_simp
    try with_reducible rfl
  try simp only [Act.put, List.getElem_toArray, List.getElem_cons_zero, List.getElem_cons_succ, List.setIfInBounds_toArray, List.set_cons_zero, List.set_cons_succ]
  refine wpAnyH_take (i := 10) (v := ?_) rfl (by kernel_rfl) (by kernel_rfl) (by kernel_rfl) (fun _ _ _ h => h) (Or.inl ⟨by rfl, ?_⟩) (by assumption) ?_
  rotate_left
  · intro wq hSq
    have hq := HCC.out wq hSq
    go_split_ands
    go_simp
    try with_reducible rfl
  try simp only [Act.put, List.getElem_toArray, List.getElem_cons_zero, List.getElem_cons_succ, List.setIfInBounds_toArray, List.set_cons_zero, List.set_cons_succ]
  refine wpAnyH_done (by kernel_rfl) ?_ _
  have hF := HF0.out.trans' hHeld
  have hc1 := (HCC.out _ hHeld).1
  rcases hkf with ⟨rfl, hk, hp⟩ | ⟨rfl, hp⟩
  · obtain ⟨hf1, hf2, hf3⟩ := HIT.out k hk hp
    obtain ⟨g, rfl, hg⟩ := HCE.out k hk
    obtain ⟨hg1, hg2⟩ := hg _ hHeld
    have E1 := Lib.hid hf1
    have E2 := Lib.hid hf2
    have E3 := Lib.hid hf3
    clear hf1 hf2 hf3 hp hg
    go_wp2_with fail
    go_ret2
    exact ⟨hF, .inl ⟨k, hk, E1.out, E2.out, E3.out, rfl⟩⟩
  · have hmi := HMI.out hp
    have hcn := HCON.out _ hHeld
    have HFC : Hid (findC (im l) i s = if (l.any fun q => q.2.1.idx == i) = true then codeNoSub else codeNoObject) := by
      unfold Hid findC
      rw [hmi]
      have ha : ((im l).any fun x => x.1.idx == i) = l.any fun q => q.2.1.idx == i := by simp [List.any_map, Function.comp_def]
      rw [ha]
      rfl
    have HN := Lib.hid hmi
    have HCN := Lib.hid hcn
    clear hcn hmi hp
    cases hany : l.any fun q => q.2.1.idx == i
    · rw [hany] at HCN HFC
      clear hany
      go_wp2_with (go_at_call 84; refine HCN.out.mono ?_; rintro e w5 ⟨hF5, rfl⟩)
      go_ret2
      exact ⟨hF.trans' hF5, .inr ⟨HN.out, by rw [HFC.out]; decide, by rw [HFC.out]; rfl⟩⟩
    · rw [hany] at HCN HFC
      clear hany
      go_wp2_with (go_at_call 84; refine HCN.out.mono ?_; rintro e w5 ⟨hF5, rfl⟩)
      go_ret2
      exact ⟨hF.trans' hF5, .inr ⟨HN.out, by rw [HFC.out]; decide, by rw [HFC.out]; rfl⟩⟩
end Go.Proofs.Ytemjdmgfilbfaaa
