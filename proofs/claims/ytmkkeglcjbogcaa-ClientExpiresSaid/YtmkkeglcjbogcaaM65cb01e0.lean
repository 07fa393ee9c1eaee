/-
  One call of the statement: Write. One call of the statement, of whatever kind; what lives. ClientExpires: the law.
-/
import Derived.Test.YtmkkeglcjbogcaaM5f1085c2
set_option linter.unusedVariables false
set_option linter.unusedSimpArgs false
namespace Go.Proofs.Ytmkkeglcjbogcaa
open Go.RowKit
open List (getElem_toArray getElem_cons_zero getElem_cons_succ setIfInBounds_toArray set_cons_zero set_cons_succ)
set_option linter.unusedVariables false
set_option linter.unusedSimpArgs false

theorem wp_clone {P : Program} {o : Oper} {a : Act} {K : Act → World → Prop} {Q : Exit → Act → World → Prop} {w : World} {t e : TypeId} {size bytes B : Nat} (E : El P t e size bytes) (s x : Operand)
    (ho : o.op = .call { callee := .builtin .append, args := #[s, x], argTypes := #[t, t] }) {v : Value} {m c : Nat} {A : Option Addr} {news : List Value} (hs : a.eval s = v) (hx : a.eval x = .slice A m c)
    (hown : w.ownsRow B e size v 0 []) (hl : news.length = m * size) (hnews : 0 < m → NewsOf w A news) (h1 : ∀ u ∈ news, u.oneCell' = true)
    (h63 : m ≤ maxLen) (hbytes : m * bytes ≤ 140737488355328) (hbase : B ≤ w.heap.size)
    (h : ∀ A' cap w', w'.ownsRow B e size (.slice A' m cap) m news → Frm (fun k => v.ownBlock = some k) w w' → K (a.put o.dst (.slice A' m cap)) w') : o.wp P a w K Q :=
  wp_app_src E s x ho hs hx hown hl hnews h1 (by omega) (by rw [Nat.zero_add]; exact hbytes) hbase fun A' cap w' h2 h3 => by
    rw [Nat.zero_add, List.nil_append] at h2
    rw [Nat.zero_add]
    exact h A' cap w' h2 h3
def DjCut (M : Nat → Prop) (c : Nat) (s2 : Cl) (wa : World) (pv xv : Value) (wx : World) : Prop := ∃ g f2 x, pv = .pointer (some ⟨g, 0, none⟩) ∧ xv = .int .i64 x ∧ wx.heap[g]? = some (.cells (F8.c f2) 73 (0, 0)) ∧ wa.heap.size ≤ g ∧ ClPost M wa c s2 wx
theorem ClPost.fresh {M : Nat → Prop} {w w1 w2 : World} {c t : Nat} {s : Cl} (h1 : ClPost M w c s w1) (h0 : ∀ k, M k → k < w.heap.size) (hF : Frm (One t) w1 w2) (ht : ∀ M', ClHas M' w1 c s → (∀ k, M' k → M k ∨ w.heap.size ≤ k) → ¬ M' t) (htw : w.heap.size ≤ t) : ClPost M w c s w2 := by
  obtain ⟨M', h3, h4, h5⟩ := h1
  exact ⟨M', h3.frm hF (fun k hk h => ht M' h3 h5 (by rw [← show k = t from h]; exact hk)), h4.trans hF (fun i hi h => by have h : i = t := h; omega), h5⟩
theorem ClPost.grow {M : Nat → Prop} {w w1 w2 : World} {c : Nat} {s : Cl} (h1 : ClPost M w c s w1) (hF : Frm (fun _ => False) w1 w2) : ClPost M w c s w2 := by
  obtain ⟨M', h3, h4, h5⟩ := h1
  exact ⟨M', h3.grow hF, h4.trans hF (fun i hi h => h.elim), h5⟩
theorem ClPost.front {M : Nat → Prop} {w w0 w1 : World} {c : Nat} {s : Cl} (hF : Frm (fun _ => False) w w0) (h1 : ClPost M w0 c s w1) : ClPost M w c s w1 := by
  obtain ⟨M', h3, h4, h5⟩ := h1
  exact ⟨M', h3, (hF.mono (fun _ _ h => h.elim)).trans h4 (fun i hi h => h), fun k hk => (h5 k hk).imp id (fun h => Nat.le_trans hF.size h)⟩
theorem BytesAt.frm0 {S : Nat → Prop} {w w' : World} {v : Value} {bs : List UInt8} (h : BytesAt w v bs) (hF : Frm S w w') (hS : 0 < bs.length → ∀ k, v.ownBlock = some k → ¬ S k) : BytesAt w' v bs := by
  by_cases h0 : 0 < bs.length
  · exact h.frm hF (hS h0)
  · obtain ⟨A, cap, rfl, h1, h2, _⟩ := h
    exact ⟨A, cap, rfl, h1, h2, fun h => absurd h h0⟩
set_option maxRecDepth 100000 in
set_option maxHeartbeats 4000000 in
theorem cdoes_write (M : Nat → Prop) (c d : Nat) (s : Cl) (kind i q : Int) (Ab : Option Addr) (cb : Nat) (bs : List UInt8) (f : F8) (w : World) (h : ClHas M w c s) (hd : w.heap[d]? = some (.cells rzero 72 (0, 0))) (hdM : ¬ M d)
    (hi : (0 ≤ i ∧ i ≤ 65535) ∧ 0 ≤ q ∧ q ≤ 255) (hB : BytesAt w (.slice Ab bs.length cb) bs) (hBM : 0 < bs.length → ∀ k, (Value.slice Ab bs.length cb).ownBlock = some k → ¬ M k ∧ k ≠ d) (hbl : bs.length ≤ 140737488351232) (hk : kind = 0) : Calls Try.prog 32 #[ptr c, ptr d, .agg (actC kind i q (.slice Ab bs.length cb) f)] w (DoesP M c d w) := by
  have H := Lib.hid h
  have HLT := Lib.hid h.2.2.1
  have HD := Lib.hid hd
  have HDM := Lib.hid hdM
  have hdl := lt_of_block hd
  have ha : (w.alloc (.cells (actC kind i q (.slice Ab bs.length cb) f) 75 (0, 0))).heap[w.heap.size]? = some (.cells (actC kind i q (.slice Ab bs.length cb) f) 75 (0, 0)) := heap_new w _
  have hF0 : Frm (fun _ => False) w (w.alloc (.cells (actC kind i q (.slice Ab bs.length cb) f) 75 (0, 0))) := (Frm.refl _ _).alloc _
  obtain ⟨wa, hwa⟩ : ∃ wa, wa = w.alloc (.cells (actC kind i q (.slice Ab bs.length cb) f) 75 (0, 0)) := ⟨_, rfl⟩
  rw [← hwa] at ha hF0
  have HA := Lib.hid ha
  have HF0 := Lib.hid hF0
  have HWA := Lib.hid hwa
  have has := lt_of_block ha
  have HIQ := Lib.hid hi
  clear h hd hdM ha hF0 hwa hi
  have HKN := Lib.hid hk
  obtain ⟨csc, HCL⟩ : ∃ cs, Hid (w.heap[c]? = some (.cells cs 143 (0, 0))) := by obtain ⟨_, _, _, vb, vr, hc, _⟩ := H.out; exact ⟨_, hc⟩
  have HB := Lib.hid hB
  have HBM := Lib.hid hBM
  have HBL := Lib.hid hbl
  obtain ⟨r, hr⟩ : ∃ r, r = s.write i q bs := ⟨_, rfl⟩
  have HWR := Lib.hid (fun W A cap (hF : Frm (fun _ => False) wa W) (hO : Own8 0 W (.slice A bs.length cap) bs) (hc : ∀ k, (Value.slice A bs.length cap).ownBlock = some k → k ≠ c) => cwrite_any M c s i q (.slice A bs.length cap) bs W (H.out.grow (HF0.out.trans' hF)) HIQ.out.1 HIQ.out.2 (BytesAt.of_row hO) hc)
  unfold WrPost at HWR
  rw [← hr] at HWR
  obtain ⟨s2, f2, b2⟩ := r
  unfold ptr F8.v at *
  simp only at HWR
  have HLN : Hid ((bs.map encB).length = bs.length * 1) := by unfold Hid; simp
  have HN := Lib.hid (hB.news rfl)
  clear hr hk hB hBM hbl
  go_enter Try.func32, Try.ntmps32
  go_upto_region 1 with fail
  rw [← HWA.out]
  have k0 : wa.cell? ⟨w.heap.size, 0, none⟩ = some (.int .i64 0) := by rw [← HKN.out]; exact cell_at HA.out
  go_upto_region 3 with fail
  have HCC := Lib.hid (fun W (h : Frm M wa W) => (⟨h.cell (p := ⟨w.heap.size, 1, none⟩) (cell_at HA.out) (fun h => Nat.lt_irrefl _ (HLT.out _ h)), h.cell (p := ⟨w.heap.size, 2, none⟩) (cell_at HA.out) (fun h => Nat.lt_irrefl _ (HLT.out _ h)), h.cell (p := ⟨w.heap.size, 3, none⟩) (cell_at HA.out) (fun h => Nat.lt_irrefl _ (HLT.out _ h))⟩ : _ ∧ _ ∧ _))
  have HTR := Lib.hid (fun W (h : Frm M wa W) => trivial)
  go_cut [7, 8] (fun pv xv wx => DjCut M c s2 wa pv xv wx)
  case first =>
    refine wp_region_held_drew (S := (fun W => Frm M wa W)) (by kernel_rfl) ((Frm.refl _ _).drew) (fun hHeld => ?_)
    refine wpAnyH_take (i := 0) (v := ?_) rfl (by kernel_rfl) (by kernel_rfl) (by kernel_rfl) (fun _ _ _ h => h) (Or.inl ⟨by rfl, ?_⟩) (by assumption) ?_; rotate_left; · (intro wq hSq; have hq := HCC.out wq hSq; go_split_ands; go_simp; (try with_reducible rfl))
    try simp only [Act.put, getElem_toArray, getElem_cons_zero, getElem_cons_succ, setIfInBounds_toArray, set_cons_zero, set_cons_succ]
    refine wpAnyH_take (i := 1) (v := ?_) rfl (by kernel_rfl) (by kernel_rfl) (by kernel_rfl) (fun _ _ _ h => h) (Or.inl ⟨by rfl, ?_⟩) (by assumption) ?_; rotate_left; · (intro wq hSq; have hq := HCC.out wq hSq; go_split_ands; go_simp; (try with_reducible rfl))
    try simp only [Act.put, getElem_toArray, getElem_cons_zero, getElem_cons_succ, setIfInBounds_toArray, set_cons_zero, set_cons_succ]
    refine wpAnyH_take (i := 2) (v := ?_) rfl (by kernel_rfl) (by kernel_rfl) (by kernel_rfl) (fun _ _ _ h => h) (Or.inl ⟨by rfl, ?_⟩) (by assumption) ?_; rotate_left; · (intro wq hSq; have hq := HCC.out wq hSq; go_split_ands; go_simp; (try with_reducible rfl))
    try simp only [Act.put, getElem_toArray, getElem_cons_zero, getElem_cons_succ, setIfInBounds_toArray, set_cons_zero, set_cons_succ]
    refine wpAnyH_take (i := 3) (v := ?_) rfl (by kernel_rfl) (by kernel_rfl) (by kernel_rfl) (fun _ _ _ h => h) (Or.inl ⟨by rfl, ?_⟩) (by assumption) ?_; rotate_left; · (intro wq hSq; have hq := HCC.out wq hSq; go_split_ands; go_simp; (try with_reducible rfl))
    try simp only [Act.put, getElem_toArray, getElem_cons_zero, getElem_cons_succ, setIfInBounds_toArray, set_cons_zero, set_cons_succ]
    refine wpAnyH_take (i := 4) (v := ?_) rfl (by kernel_rfl) (by kernel_rfl) (by kernel_rfl) (fun _ _ _ h => h) (Or.inl ⟨by rfl, ?_⟩) (by assumption) ?_; rotate_left; · (intro wq hSq; have hq := HCC.out wq hSq; go_split_ands; go_simp; (try with_reducible rfl))
    try simp only [Act.put, getElem_toArray, getElem_cons_zero, getElem_cons_succ, setIfInBounds_toArray, set_cons_zero, set_cons_succ]
    refine wpAnyH_take (i := 6) (v := ?_) rfl (by kernel_rfl) (by kernel_rfl) (by kernel_rfl) (fun _ _ _ h => h) (Or.inl ⟨by rfl, ?_⟩) (by assumption) ?_; rotate_left; · (intro wq hSq; have hq := HCC.out wq hSq; go_split_ands; go_simp; (try with_reducible rfl))
    try simp only [Act.put, getElem_toArray, getElem_cons_zero, getElem_cons_succ, setIfInBounds_toArray, set_cons_zero, set_cons_succ]
    refine wpAnyH_take (i := 7) (v := ?_) rfl (by kernel_rfl) (by kernel_rfl) (by kernel_rfl) (fun _ _ _ h => h) (Or.inl ⟨by rfl, ?_⟩) (by assumption) ?_; rotate_left; · (intro wq hSq; have hq := HCC.out wq hSq; go_split_ands; go_simp; (try with_reducible rfl))
    try simp only [Act.put, getElem_toArray, getElem_cons_zero, getElem_cons_succ, setIfInBounds_toArray, set_cons_zero, set_cons_succ]
    refine wpAnyH_ready (rs := [5, 13]) (by kernel_rfl) (by simp) ?_
    refine AllReadyH.cons rfl (fun K hK => ?_) (AllReadyH.cons rfl (fun K hK => ?_) AllReadyH.nil)
    · skip
      have hempty := empty_row wa.drew 5 1 0 (Nat.zero_le _)
      try simp only [getElem_toArray, getElem_cons_zero, getElem_cons_succ]
      go_simp
      refine hK.out _ _ (hHeld.alloc _) (fun hHeld => ?_)
      clear hK K
      try simp only [Act.put, setIfInBounds_toArray, set_cons_zero, set_cons_succ]
      have hF5 : Frm (fun _ => False) wa (wa.drew.alloc (.cells #[] 5)) := by (repeat' (first | (with_reducible exact Frm.refl _ _) | (with_reducible assumption) | (with_reducible refine Frm.alloc ?_ _) | (with_reducible refine Frm.drew ?_) | (with_reducible refine Frm.drewN ?_ _) | (with_reducible refine Frm.set1 ?_ _) | (with_reducible refine Frm.setCell ?_ ?_ _) | (exact fun h => absurd h (Nat.lt_irrefl _)) | (intro hlt; simp [World.size_alloc, One] at hlt ⊢; omega)))
      refine wpAnyH_ready (rs := [8, 13]) (by kernel_rfl) (by simp) ?_
      refine AllReadyH.cons rfl (fun K hK => ?_) (AllReadyH.cons rfl (fun K hK => ?_) AllReadyH.nil)
      · skip
        try simp only [getElem_toArray, getElem_cons_zero, getElem_cons_succ]
        refine wp_clone el_u8 (.tmp 39) (.tmp 41) rfl rfl rfl hempty HLN.out (fun h0 => by have := NewsOf.grow (HN.out h0) (HF0.out.trans' hF5); exact this) (oneB' _) (by unfold maxLen; have := HBL.out; omega) (by have := HBL.out; omega) (Nat.zero_le _) ?_
        intro A3 cap3 w3 hO3 hF3
        have hF3w : Frm (fun _ => False) wa w3 := (hF5).trans hF3 (fun i hi h => by cases h; simp at hi <;> omega)
        refine hK.out _ _ (hF3w.mono (fun _ _ h => h.elim)) (fun hHeld => ?_)
        clear hK K
        try simp only [Act.put, setIfInBounds_toArray, set_cons_zero, set_cons_succ]
        refine wpAnyH_ready (rs := [9, 13]) (by kernel_rfl) (by simp) ?_
        refine AllReadyH.cons rfl (fun K hK => ?_) (AllReadyH.cons rfl (fun K hK => ?_) AllReadyH.nil)
        · skip
          try simp only [getElem_toArray, getElem_cons_zero, getElem_cons_succ]
          go_simp
          refine (HWR.out w3 _ _ hF3w hO3 (fun k hk => by obtain ⟨_, cur, hcu⟩ := row_block hO3 hk; exact block_ne hcu ((hF3w).heap (HF0.out.heap HCL.out (fun h => h)) (fun h => h)) (by decide))).mono ?_
          rintro e w4 ⟨rfl, hp4⟩
          have hFp := ClPost.front hF3w hp4
          have hFh : Frm M wa w4 := by obtain ⟨_, _, h, _⟩ := hFp; exact h
          go_wp2_with fail
          refine hK.out _ _ hFh (fun hHeld => ?_)
          clear hK K
          try simp only [Act.put, setIfInBounds_toArray, set_cons_zero, set_cons_succ]
          refine wpAnyH_take (i := 10) (v := ?_) rfl (by kernel_rfl) (by kernel_rfl) (by kernel_rfl) (fun _ _ _ h => h) (Or.inl ⟨by rfl, ?_⟩) (by assumption) ?_; rotate_left; · (intro wq hSq; have hq := HTR.out wq hSq; go_split_ands; go_simp; (try with_reducible rfl))
          try simp only [Act.put, getElem_toArray, getElem_cons_zero, getElem_cons_succ, setIfInBounds_toArray, set_cons_zero, set_cons_succ]
          refine wpAnyH_take (i := 11) (v := ?_) rfl (by kernel_rfl) (by kernel_rfl) (by kernel_rfl) (fun _ _ _ h => h) (Or.inl ⟨by rfl, ?_⟩) (by assumption) ?_; rotate_left; · (intro wq hSq; have hq := HTR.out wq hSq; go_split_ands; go_simp; (try with_reducible rfl))
          try simp only [Act.put, getElem_toArray, getElem_cons_zero, getElem_cons_succ, setIfInBounds_toArray, set_cons_zero, set_cons_succ]
          refine wpAnyH_take (i := 12) (v := ?_) rfl (by kernel_rfl) (by kernel_rfl) (by kernel_rfl) (fun _ _ _ h => h) (Or.inl ⟨by rfl, ?_⟩) (by assumption) ?_; rotate_left; · (intro wq hSq; have hq := HTR.out wq hSq; go_split_ands; go_simp; (try with_reducible rfl))
          try simp only [Act.put, getElem_toArray, getElem_cons_zero, getElem_cons_succ, setIfInBounds_toArray, set_cons_zero, set_cons_succ]
          refine wpAnyH_ready (rs := [13]) (by kernel_rfl) (by simp) ?_
          refine AllReadyH.cons rfl (fun K hK => ?_) AllReadyH.nil
          try simp only [getElem_toArray, getElem_cons_zero, getElem_cons_succ]
          go_simp
          refine hK.out _ _ (hHeld.alloc _) (fun hHeld => ?_)
          clear hK K
          try simp only [Act.put, setIfInBounds_toArray, set_cons_zero, set_cons_succ]
          refine wpAnyH_ready (rs := [14]) (by kernel_rfl) (by simp) ?_
          refine AllReadyH.cons rfl (fun K hK => ?_) AllReadyH.nil
          refine wp_store_whole 73 (.tmp 7) (.tmp 44) rfl w4.heap.size f2.c rfl rfl 73 _ (heap_new w4 _) info_f8 rfl (F8.one _) ?_
          intro w2 hw2 hF2
          have hF24 : Frm (fun _ => False) w4 w2 := ((Frm.refl _ _).alloc _).trans hF2 (fun i hi h => by simp only [One] at h; omega)
          have hPc := hFp.grow hF24
          have hgs : wa.heap.size ≤ w4.heap.size := hFh.size
          have hFe : Frm M wa w2 := by obtain ⟨_, _, h, _⟩ := hPc; exact h
          refine hK.out _ _ hFe (fun hHeld => ?_)
          clear hK K
          try simp only [Act.put, setIfInBounds_toArray, set_cons_zero, set_cons_succ]
          refine wpAnyH_take (i := 15) (v := ?_) rfl (by kernel_rfl) (by kernel_rfl) (by kernel_rfl) (fun _ _ _ h => h) (Or.inl ⟨by rfl, ?_⟩) (by assumption) ?_; rotate_left; · (intro wq hSq; have hq := HTR.out wq hSq; go_split_ands; go_simp; (try with_reducible rfl))
          try simp only [Act.put, getElem_toArray, getElem_cons_zero, getElem_cons_succ, setIfInBounds_toArray, set_cons_zero, set_cons_succ]
          refine wpAnyH_done (by kernel_rfl) ?_ _
          clear hHeld
          go_wp2_with fail
          go_meet
          exact ⟨_, f2, b2, rfl, rfl, hw2, hgs, hPc⟩
        · skip
          try simp only [getElem_toArray, getElem_cons_zero, getElem_cons_succ]
          go_simp
          refine hK.out _ _ (hHeld.alloc _) (fun hHeld => ?_)
          clear hK K
          try simp only [Act.put, setIfInBounds_toArray, set_cons_zero, set_cons_succ]
          have hF3a : Frm (fun _ => False) wa (w3.alloc (.cells #[.int .u8 0, .int .u8 0, .int .u8 0, .int .u8 0, .int .u8 0, .int .u8 0, .int .u8 0, .int .u8 0] 73 (0, 0))) := hF3w.alloc _
          have hO3a : Own8 0 (w3.alloc (.cells #[.int .u8 0, .int .u8 0, .int .u8 0, .int .u8 0, .int .u8 0, .int .u8 0, .int .u8 0, .int .u8 0] 73 (0, 0))) (.slice A3 bs.length cap3) bs := ((Frm.refl (fun _ => False) w3).alloc _).row hO3 (fun _ _ h => h)
          refine wpAnyH_ready (rs := [9]) (by kernel_rfl) (by simp) ?_
          refine AllReadyH.cons rfl (fun K hK => ?_) AllReadyH.nil
          try simp only [getElem_toArray, getElem_cons_zero, getElem_cons_succ]
          go_simp
          refine (HWR.out (w3.alloc _) _ _ hF3a hO3a (fun k hk => by obtain ⟨_, cur, hcu⟩ := row_block hO3a hk; exact block_ne hcu ((hF3a).heap (HF0.out.heap HCL.out (fun h => h)) (fun h => h)) (by decide))).mono ?_
          rintro e w4 ⟨rfl, hp4⟩
          have hFp := ClPost.front hF3a hp4
          have hFh : Frm M wa w4 := by obtain ⟨_, _, h, _⟩ := hFp; exact h
          go_wp2_with fail
          refine hK.out _ _ hFh (fun hHeld => ?_)
          clear hK K
          try simp only [Act.put, setIfInBounds_toArray, set_cons_zero, set_cons_succ]
          have hgz : wa.heap.size ≤ w3.heap.size := hF3w.size
          have hg4 := hp4.keep (fun h => by have := HLT.out _ h; omega) (heap_new w3 _)
          refine wpAnyH_take (i := 10) (v := ?_) rfl (by kernel_rfl) (by kernel_rfl) (by kernel_rfl) (fun _ _ _ h => h) (Or.inl ⟨by rfl, ?_⟩) (by assumption) ?_; rotate_left; · (intro wq hSq; have hq := HTR.out wq hSq; go_split_ands; go_simp; (try with_reducible rfl))
          try simp only [Act.put, getElem_toArray, getElem_cons_zero, getElem_cons_succ, setIfInBounds_toArray, set_cons_zero, set_cons_succ]
          refine wpAnyH_take (i := 11) (v := ?_) rfl (by kernel_rfl) (by kernel_rfl) (by kernel_rfl) (fun _ _ _ h => h) (Or.inl ⟨by rfl, ?_⟩) (by assumption) ?_; rotate_left; · (intro wq hSq; have hq := HTR.out wq hSq; go_split_ands; go_simp; (try with_reducible rfl))
          try simp only [Act.put, getElem_toArray, getElem_cons_zero, getElem_cons_succ, setIfInBounds_toArray, set_cons_zero, set_cons_succ]
          refine wpAnyH_take (i := 12) (v := ?_) rfl (by kernel_rfl) (by kernel_rfl) (by kernel_rfl) (fun _ _ _ h => h) (Or.inl ⟨by rfl, ?_⟩) (by assumption) ?_; rotate_left; · (intro wq hSq; have hq := HTR.out wq hSq; go_split_ands; go_simp; (try with_reducible rfl))
          try simp only [Act.put, getElem_toArray, getElem_cons_zero, getElem_cons_succ, setIfInBounds_toArray, set_cons_zero, set_cons_succ]
          refine wpAnyH_ready (rs := [14]) (by kernel_rfl) (by simp) ?_
          refine AllReadyH.cons rfl (fun K hK => ?_) AllReadyH.nil
          refine wp_store_whole 73 (.tmp 7) (.tmp 44) rfl w3.heap.size f2.c rfl rfl 73 _ hg4 info_f8 rfl (F8.one _) ?_
          intro w2 hw2 hF2
          have hPc : ClPost M wa c s2 w2 := ClPost.outer (fun k hk => Nat.lt_of_lt_of_le (HLT.out k hk) HF0.out.size) hF3a hp4 ⟨hgz, (by simp)⟩ hF2
          have hFe : Frm M wa w2 := by obtain ⟨_, _, h, _⟩ := hPc; exact h
          refine hK.out _ _ hFe (fun hHeld => ?_)
          clear hK K
          try simp only [Act.put, setIfInBounds_toArray, set_cons_zero, set_cons_succ]
          refine wpAnyH_take (i := 15) (v := ?_) rfl (by kernel_rfl) (by kernel_rfl) (by kernel_rfl) (fun _ _ _ h => h) (Or.inl ⟨by rfl, ?_⟩) (by assumption) ?_; rotate_left; · (intro wq hSq; have hq := HTR.out wq hSq; go_split_ands; go_simp; (try with_reducible rfl))
          try simp only [Act.put, getElem_toArray, getElem_cons_zero, getElem_cons_succ, setIfInBounds_toArray, set_cons_zero, set_cons_succ]
          refine wpAnyH_done (by kernel_rfl) ?_ _
          clear hHeld
          go_wp2_with fail
          go_meet
          exact ⟨_, f2, b2, rfl, rfl, hw2, hgz, hPc⟩
      · skip
        try simp only [getElem_toArray, getElem_cons_zero, getElem_cons_succ]
        go_simp
        refine hK.out _ _ (hHeld.alloc _) (fun hHeld => ?_)
        clear hK K
        try simp only [Act.put, setIfInBounds_toArray, set_cons_zero, set_cons_succ]
        have hF5a : Frm (fun _ => False) wa ((wa.drew.alloc (.cells #[] 5)).alloc (.cells #[.int .u8 0, .int .u8 0, .int .u8 0, .int .u8 0, .int .u8 0, .int .u8 0, .int .u8 0, .int .u8 0] 73 (0, 0))) := hF5.alloc _
        have hemptya := ((Frm.refl (fun _ => False) (wa.drew.alloc (.cells #[] 5))).alloc (.cells #[.int .u8 0, .int .u8 0, .int .u8 0, .int .u8 0, .int .u8 0, .int .u8 0, .int .u8 0, .int .u8 0] 73 (0, 0))).row hempty (fun _ _ h => h)
        refine wpAnyH_ready (rs := [8]) (by kernel_rfl) (by simp) ?_
        refine AllReadyH.cons rfl (fun K hK => ?_) AllReadyH.nil
        try simp only [getElem_toArray, getElem_cons_zero, getElem_cons_succ]
        refine wp_clone el_u8 (.tmp 39) (.tmp 41) rfl rfl rfl hemptya HLN.out (fun h0 => by have := NewsOf.grow (HN.out h0) (HF0.out.trans' hF5a); exact this) (oneB' _) (by unfold maxLen; have := HBL.out; omega) (by have := HBL.out; omega) (Nat.zero_le _) ?_
        intro A3 cap3 w3 hO3 hF3
        have hF3w : Frm (fun _ => False) wa w3 := (hF5a).trans hF3 (fun i hi h => by cases h; simp at hi <;> omega)
        refine hK.out _ _ (hF3w.mono (fun _ _ h => h.elim)) (fun hHeld => ?_)
        clear hK K
        try simp only [Act.put, setIfInBounds_toArray, set_cons_zero, set_cons_succ]
        have hg3 : w3.heap[wa.heap.size + 1]? = some (.cells #[.int .u8 0, .int .u8 0, .int .u8 0, .int .u8 0, .int .u8 0, .int .u8 0, .int .u8 0, .int .u8 0] 73 (0, 0)) := hF3.heap (heap_new_at (by simp)) (fun h => by have h : (some wa.heap.size : Option Nat) = some (wa.heap.size + 1) := h; simp at h)
        refine wpAnyH_ready (rs := [9]) (by kernel_rfl) (by simp) ?_
        refine AllReadyH.cons rfl (fun K hK => ?_) AllReadyH.nil
        try simp only [getElem_toArray, getElem_cons_zero, getElem_cons_succ]
        go_simp
        refine (HWR.out w3 _ _ hF3w hO3 (fun k hk => by obtain ⟨_, cur, hcu⟩ := row_block hO3 hk; exact block_ne hcu ((hF3w).heap (HF0.out.heap HCL.out (fun h => h)) (fun h => h)) (by decide))).mono ?_
        rintro e w4 ⟨rfl, hp4⟩
        have hFp := ClPost.front hF3w hp4
        have hFh : Frm M wa w4 := by obtain ⟨_, _, h, _⟩ := hFp; exact h
        go_wp2_with fail
        refine hK.out _ _ hFh (fun hHeld => ?_)
        clear hK K
        try simp only [Act.put, setIfInBounds_toArray, set_cons_zero, set_cons_succ]
        have hgz : wa.heap.size ≤ wa.heap.size + 1 := by omega
        have hg4 := hp4.keep (fun h => by have := HLT.out _ h; omega) hg3
        refine wpAnyH_take (i := 10) (v := ?_) rfl (by kernel_rfl) (by kernel_rfl) (by kernel_rfl) (fun _ _ _ h => h) (Or.inl ⟨by rfl, ?_⟩) (by assumption) ?_; rotate_left; · (intro wq hSq; have hq := HTR.out wq hSq; go_split_ands; go_simp; (try with_reducible rfl))
        try simp only [Act.put, getElem_toArray, getElem_cons_zero, getElem_cons_succ, setIfInBounds_toArray, set_cons_zero, set_cons_succ]
        refine wpAnyH_take (i := 11) (v := ?_) rfl (by kernel_rfl) (by kernel_rfl) (by kernel_rfl) (fun _ _ _ h => h) (Or.inl ⟨by rfl, ?_⟩) (by assumption) ?_; rotate_left; · (intro wq hSq; have hq := HTR.out wq hSq; go_split_ands; go_simp; (try with_reducible rfl))
        try simp only [Act.put, getElem_toArray, getElem_cons_zero, getElem_cons_succ, setIfInBounds_toArray, set_cons_zero, set_cons_succ]
        refine wpAnyH_take (i := 12) (v := ?_) rfl (by kernel_rfl) (by kernel_rfl) (by kernel_rfl) (fun _ _ _ h => h) (Or.inl ⟨by rfl, ?_⟩) (by assumption) ?_; rotate_left; · (intro wq hSq; have hq := HTR.out wq hSq; go_split_ands; go_simp; (try with_reducible rfl))
        try simp only [Act.put, getElem_toArray, getElem_cons_zero, getElem_cons_succ, setIfInBounds_toArray, set_cons_zero, set_cons_succ]
        refine wpAnyH_ready (rs := [14]) (by kernel_rfl) (by simp) ?_
        refine AllReadyH.cons rfl (fun K hK => ?_) AllReadyH.nil
        refine wp_store_whole 73 (.tmp 7) (.tmp 44) rfl (wa.heap.size + 1) f2.c rfl rfl 73 _ hg4 info_f8 rfl (F8.one _) ?_
        intro w2 hw2 hF2
        have hPc : ClPost M wa c s2 w2 := ClPost.outer (fun k hk => Nat.lt_of_lt_of_le (HLT.out k hk) HF0.out.size) hF3w hp4 ⟨hgz, (lt_of_block hg3)⟩ hF2
        have hFe : Frm M wa w2 := by obtain ⟨_, _, h, _⟩ := hPc; exact h
        refine hK.out _ _ hFe (fun hHeld => ?_)
        clear hK K
        try simp only [Act.put, setIfInBounds_toArray, set_cons_zero, set_cons_succ]
        refine wpAnyH_take (i := 15) (v := ?_) rfl (by kernel_rfl) (by kernel_rfl) (by kernel_rfl) (fun _ _ _ h => h) (Or.inl ⟨by rfl, ?_⟩) (by assumption) ?_; rotate_left; · (intro wq hSq; have hq := HTR.out wq hSq; go_split_ands; go_simp; (try with_reducible rfl))
        try simp only [Act.put, getElem_toArray, getElem_cons_zero, getElem_cons_succ, setIfInBounds_toArray, set_cons_zero, set_cons_succ]
        refine wpAnyH_done (by kernel_rfl) ?_ _
        clear hHeld
        go_wp2_with fail
        go_meet
        exact ⟨_, f2, b2, rfl, rfl, hw2, hgz, hPc⟩
    · skip
      try simp only [getElem_toArray, getElem_cons_zero, getElem_cons_succ]
      go_simp
      refine hK.out _ _ (hHeld.alloc _) (fun hHeld => ?_)
      clear hK K
      try simp only [Act.put, setIfInBounds_toArray, set_cons_zero, set_cons_succ]
      have hF5a : Frm (fun _ => False) wa (wa.drew.alloc (.cells #[.int .u8 0, .int .u8 0, .int .u8 0, .int .u8 0, .int .u8 0, .int .u8 0, .int .u8 0, .int .u8 0] 73 (0, 0))) := by (repeat' (first | (with_reducible exact Frm.refl _ _) | (with_reducible assumption) | (with_reducible refine Frm.alloc ?_ _) | (with_reducible refine Frm.drew ?_) | (with_reducible refine Frm.drewN ?_ _) | (with_reducible refine Frm.set1 ?_ _) | (with_reducible refine Frm.setCell ?_ ?_ _) | (exact fun h => absurd h (Nat.lt_irrefl _)) | (intro hlt; simp [World.size_alloc, One] at hlt ⊢; omega)))
      refine wpAnyH_ready (rs := [5]) (by kernel_rfl) (by simp) ?_
      refine AllReadyH.cons rfl (fun K hK => ?_) AllReadyH.nil
      have hempty := empty_row (wa.drew.alloc (.cells #[.int .u8 0, .int .u8 0, .int .u8 0, .int .u8 0, .int .u8 0, .int .u8 0, .int .u8 0, .int .u8 0] 73 (0, 0))) 5 1 0 (Nat.zero_le _)
      rw [show (wa.drew.alloc (.cells #[.int .u8 0, .int .u8 0, .int .u8 0, .int .u8 0, .int .u8 0, .int .u8 0, .int .u8 0, .int .u8 0] 73 (0, 0))).heap.size = wa.heap.size + 1 by simp] at hempty
      try simp only [getElem_toArray, getElem_cons_zero, getElem_cons_succ]
      go_simp
      refine hK.out _ _ (hHeld.alloc _) (fun hHeld => ?_)
      clear hK K
      try simp only [Act.put, setIfInBounds_toArray, set_cons_zero, set_cons_succ]
      have hF5b := hF5a.alloc (.cells #[] 5)
      refine wpAnyH_ready (rs := [8]) (by kernel_rfl) (by simp) ?_
      refine AllReadyH.cons rfl (fun K hK => ?_) AllReadyH.nil
      try simp only [getElem_toArray, getElem_cons_zero, getElem_cons_succ]
      refine wp_clone el_u8 (.tmp 39) (.tmp 41) rfl rfl rfl hempty HLN.out (fun h0 => by have := NewsOf.grow (HN.out h0) (HF0.out.trans' hF5b); exact this) (oneB' _) (by unfold maxLen; have := HBL.out; omega) (by have := HBL.out; omega) (Nat.zero_le _) ?_
      intro A3 cap3 w3 hO3 hF3
      have hF3w : Frm (fun _ => False) wa w3 := (hF5b).trans hF3 (fun i hi h => by cases h; simp at hi <;> omega)
      refine hK.out _ _ (hF3w.mono (fun _ _ h => h.elim)) (fun hHeld => ?_)
      clear hK K
      try simp only [Act.put, setIfInBounds_toArray, set_cons_zero, set_cons_succ]
      have hg3 : w3.heap[wa.heap.size]? = some (.cells #[.int .u8 0, .int .u8 0, .int .u8 0, .int .u8 0, .int .u8 0, .int .u8 0, .int .u8 0, .int .u8 0] 73 (0, 0)) := hF3.heap (heap_alloc_old (heap_new wa.drew _)) (fun h => by have h : (some (wa.heap.size + 1) : Option Nat) = some wa.heap.size := h; simp at h)
      refine wpAnyH_ready (rs := [9]) (by kernel_rfl) (by simp) ?_
      refine AllReadyH.cons rfl (fun K hK => ?_) AllReadyH.nil
      try simp only [getElem_toArray, getElem_cons_zero, getElem_cons_succ]
      go_simp
      refine (HWR.out w3 _ _ hF3w hO3 (fun k hk => by obtain ⟨_, cur, hcu⟩ := row_block hO3 hk; exact block_ne hcu ((hF3w).heap (HF0.out.heap HCL.out (fun h => h)) (fun h => h)) (by decide))).mono ?_
      rintro e w4 ⟨rfl, hp4⟩
      have hFp := ClPost.front hF3w hp4
      have hFh : Frm M wa w4 := by obtain ⟨_, _, h, _⟩ := hFp; exact h
      go_wp2_with fail
      refine hK.out _ _ hFh (fun hHeld => ?_)
      clear hK K
      try simp only [Act.put, setIfInBounds_toArray, set_cons_zero, set_cons_succ]
      have hgz : wa.heap.size ≤ wa.heap.size := Nat.le_refl _
      have hg4 := hp4.keep (fun h => by have := HLT.out _ h; omega) hg3
      refine wpAnyH_take (i := 10) (v := ?_) rfl (by kernel_rfl) (by kernel_rfl) (by kernel_rfl) (fun _ _ _ h => h) (Or.inl ⟨by rfl, ?_⟩) (by assumption) ?_; rotate_left; · (intro wq hSq; have hq := HTR.out wq hSq; go_split_ands; go_simp; (try with_reducible rfl))
      try simp only [Act.put, getElem_toArray, getElem_cons_zero, getElem_cons_succ, setIfInBounds_toArray, set_cons_zero, set_cons_succ]
      refine wpAnyH_take (i := 11) (v := ?_) rfl (by kernel_rfl) (by kernel_rfl) (by kernel_rfl) (fun _ _ _ h => h) (Or.inl ⟨by rfl, ?_⟩) (by assumption) ?_; rotate_left; · (intro wq hSq; have hq := HTR.out wq hSq; go_split_ands; go_simp; (try with_reducible rfl))
      try simp only [Act.put, getElem_toArray, getElem_cons_zero, getElem_cons_succ, setIfInBounds_toArray, set_cons_zero, set_cons_succ]
      refine wpAnyH_take (i := 12) (v := ?_) rfl (by kernel_rfl) (by kernel_rfl) (by kernel_rfl) (fun _ _ _ h => h) (Or.inl ⟨by rfl, ?_⟩) (by assumption) ?_; rotate_left; · (intro wq hSq; have hq := HTR.out wq hSq; go_split_ands; go_simp; (try with_reducible rfl))
      try simp only [Act.put, getElem_toArray, getElem_cons_zero, getElem_cons_succ, setIfInBounds_toArray, set_cons_zero, set_cons_succ]
      refine wpAnyH_ready (rs := [14]) (by kernel_rfl) (by simp) ?_
      refine AllReadyH.cons rfl (fun K hK => ?_) AllReadyH.nil
      refine wp_store_whole 73 (.tmp 7) (.tmp 44) rfl wa.heap.size f2.c rfl rfl 73 _ hg4 info_f8 rfl (F8.one _) ?_
      intro w2 hw2 hF2
      have hPc : ClPost M wa c s2 w2 := ClPost.outer (fun k hk => Nat.lt_of_lt_of_le (HLT.out k hk) HF0.out.size) hF3w hp4 ⟨hgz, (lt_of_block hg3)⟩ hF2
      have hFe : Frm M wa w2 := by obtain ⟨_, _, h, _⟩ := hPc; exact h
      refine hK.out _ _ hFe (fun hHeld => ?_)
      clear hK K
      try simp only [Act.put, setIfInBounds_toArray, set_cons_zero, set_cons_succ]
      refine wpAnyH_take (i := 15) (v := ?_) rfl (by kernel_rfl) (by kernel_rfl) (by kernel_rfl) (fun _ _ _ h => h) (Or.inl ⟨by rfl, ?_⟩) (by assumption) ?_; rotate_left; · (intro wq hSq; have hq := HTR.out wq hSq; go_split_ands; go_simp; (try with_reducible rfl))
      try simp only [Act.put, getElem_toArray, getElem_cons_zero, getElem_cons_succ, setIfInBounds_toArray, set_cons_zero, set_cons_succ]
      refine wpAnyH_done (by kernel_rfl) ?_ _
      clear hHeld
      go_wp2_with fail
      go_meet
      exact ⟨_, f2, b2, rfl, rfl, hw2, hgz, hPc⟩
  case rest =>
    obtain ⟨g, f2', x2, rfl, rfl, hg, hge, hp⟩ := hcut
    have HP := Lib.hid hp
    have HG := Lib.hid hg
    have HPZ := Lib.hid (ClSome.outer HF0.out (ClSome.post (d := d) hp))
    have haz := hp.keep (fun h => Nat.lt_irrefl _ (HLT.out _ h)) HA.out
    have hdz := hp.keep HDM.out (HF0.out.heap HD.out (fun h => h))
    have hFm : Frm M wa wc := by obtain ⟨_, _, h, _⟩ := hp; exact h
    have hBz : BytesAt wc (.slice Ab bs.length cb) bs := (HB.out.grow HF0.out).frm0 hFm (fun h0 k hk => (HBM.out h0 k hk).1)
    have HAZ := Lib.hid haz
    have k1z : wc.cell? ⟨w.heap.size, 1, none⟩ = some (.int .u16 i) := cell_at haz
    have k2z : wc.cell? ⟨w.heap.size, 2, none⟩ = some (.int .u8 q) := cell_at haz
    have k3z : wc.cell? ⟨w.heap.size, 3, none⟩ = some (.slice Ab bs.length cb) := cell_at haz
    have HRR := Lib.hid (rcwrite_any d i q (.slice Ab bs.length cb) bs wc hdz HIQ.out.1 hBz (fun h0 k hk => (HBM.out h0 k hk).2))
    unfold RAny ptr at HRR
    have hdg : d ≠ g := by have := HF0.out.size; omega
    have hgl := lt_of_block hg
    clear hp hg haz hdz hFm hBz
    go_upto_region 5 with (first | (go_at_call 66; refine HRR.out.mono ?_; rintro e w3 ⟨⟨f3, x3, rfl⟩, hF3⟩; have HF3 := Lib.hid hF3; clear hF3; unfold F8.v) | (refine wpl_store_whole rfl 73 (.tmp 9) (.tmp 55) rfl w3.heap.size f3.c rfl rfl 73 _ (heap_new w3 _) info_f8 rfl (F8.one _) ?_; intro wy hwy hFy; have HW4 := Lib.hid hwy; have HF4 := Lib.hid hFy; clear hwy hFy))
    have hs3 := HF3.out.size
    have H11 := Lib.hid (HF4.out.heap (heap_alloc_old (HF3.out.heap HG.out (fun h => hdg h.symm))) (by simp only [One]; omega))
    obtain ⟨bq, hbq⟩ : ∃ bq, bq = f8eq f2' f3 := ⟨_, rfl⟩
    have heq : ∀ W, (binOp .eql 73 (.agg f2'.c) (.agg f3.c)).run Try.prog W = .ok (.bool bq) W := fun W => by rw [hbq]; exact run_eq_f8 f2' f3 W
    clear hbq
    have hfin : ClSome M w c d wy := HPZ.out.frm HDM.out hdl (((HF3.out.mono (fun _ _ h => .inl h) : Frm (fun k => k = d ∨ wc.heap.size ≤ k) wc w3).alloc _).trans HF4.out (fun i hi h => .inr (by simp only [One] at h; omega))) (fun k h => h)
    have HFIN := Lib.hid hfin
    clear hfin
    cases bq
    all_goals
      go_wp2_with (first | (refine wpList_load_row rfl 73 (.tmp 7) rfl g rfl 73 f2'.c (0, 0) _ H11.out Try.underlying73 rfl (by first | exact info_f8 | (rw [F8.size]; exact info_f8)) ?_) | (refine wpList_load_row rfl 73 (.tmp 9) rfl w3.heap.size rfl 73 f3.c (0, 0) _ HW4.out Try.underlying73 rfl (by first | exact info_f8 | (rw [F8.size]; exact info_f8)) ?_))
      go_ret
      exact ⟨⟨_, rfl⟩, HFIN.out⟩
end Go.Proofs.Ytmkkeglcjbogcaa
namespace Go.Proofs.Ytmkkeglcjbogcaa
open Go.RowKit
set_option linter.unusedVariables false
set_option linter.unusedSimpArgs false

theorem cdoes_any (M : Nat → Prop) (c d : Nat) (s : Cl) (kind i q : Int) (Ab : Option Addr) (cb : Nat) (bs : List UInt8) (f : F8) (w : World) (h : ClHas M w c s) (hd : w.heap[d]? = some (.cells rzero 72 (0, 0))) (hdM : ¬ M d)
    (hi : (0 ≤ i ∧ i ≤ 65535) ∧ 0 ≤ q ∧ q ≤ 255) (hB : BytesAt w (.slice Ab bs.length cb) bs) (hBM : 0 < bs.length → ∀ k, (Value.slice Ab bs.length cb).ownBlock = some k → ¬ M k ∧ k ≠ d) (hbl : bs.length ≤ 140737488351232) (hf : f.ok) : Calls Try.prog 32 #[ptr c, ptr d, .agg (actC kind i q (.slice Ab bs.length cb) f)] w (DoesP M c d w) := by
  by_cases h0 : kind = 0
  · exact cdoes_write M c d s kind i q Ab cb bs f w h hd hdM hi hB hBM hbl h0
  by_cases h1 : kind = 1
  · exact cdoes_read M c d s kind i q Ab cb bs f w h hd hdM hi h1
  by_cases h2 : kind = 2
  · exact cdoes_feed M c d s kind i q Ab cb bs f w h hd hdM hi hf h2
  by_cases h3 : kind = 3
  · exact cdoes_expire M c d s kind i q Ab cb bs f w h hd hdM hi h3
  by_cases h4 : kind = 4
  · exact cdoes_result M c d s kind i q Ab cb bs f w h hd hdM hi h4
  exact cdoes_none M c d s kind i q Ab cb bs f w h hd hdM hi ⟨h0, h1, h2, h3, h4⟩
def lvA : F8 := ⟨43, 0, 32, 1, 5, 0, 0, 0⟩
def lvQ : F8 := ⟨96, 0, 32, 1, 0, 0, 0, 0⟩
def lvS : Cl := ⟨1, 8192, 1, [5, 0], 0, false, 0, [], 0, false⟩
theorem lv_write : Cl.new.write 8192 1 [5, 0] = (lvS, lvA, 0) := by rfl
theorem lv_feed : lvS.feed lvQ = (Cl.ends [] 0, F8.zero, false) := by rfl
theorem lv_result : (Cl.ends [] 0).result = (⟨0, 0, 0, [], 0, false, 0, [], 0, false⟩, [], 0, true) := by rfl
theorem lvQ_ok : lvQ.ok := ⟨by constructor <;> decide, by constructor <;> decide, by constructor <;> decide, by constructor <;> decide, by constructor <;> decide, by constructor <;> decide, by constructor <;> decide, by constructor <;> decide⟩
theorem two_bytes (w : World) : BytesAt (w.alloc (.cells #[.int .u8 5, .int .u8 0] 5)) (.slice (some ⟨w.heap.size, 0, none⟩) 2 2) [5, 0] := by
  refine ⟨_, 2, rfl, Nat.le_refl _, by unfold maxLen; decide, fun _ => ⟨w.heap.size, 0, rfl, fun i hi => ?_⟩⟩
  rw [cell_at (heap_new w _)]
  match i, hi with
  | 0, _ => rfl
  | 1, _ => rfl
theorem run_load_f8 {W : World} {g : Nat} {f : F8} (h : W.heap[g]? = some (.cells f.c 73 (0, 0))) : (Instr.loadAt 73 (.pointer (some ⟨g, 0, none⟩))).run Try.prog W = .ok (.agg f.c) W :=
  run_loadAt_mid W g 0 73 f.c.toList _ (fun j v hv => by rw [cell_at h, Nat.zero_add]; simpa using hv) Try.underlying73 rfl info_f8
set_option maxRecDepth 100000 in
set_option maxHeartbeats 2000000 in
theorem clives_any (w : World) : Calls Try.prog 37 #[] w fun e w' => e = .returned (.bool true) ∧ Frm (fun _ => False) w w' := by
  go_enter Try.func37, Try.ntmps37
  go_wp2_with fail
  refine (cnew_any w).mono ?_
  rintro e w1 ⟨c, M, rfl, h1, hF1, hM1⟩
  have H1 := Lib.hid h1
  have HF1 := Lib.hid hF1
  have HM1 := Lib.hid hM1
  have hcl : c < w1.heap.size := h1.2.2.1 c h1.2.1
  have hwr := cwrite_any M c Cl.new 8192 1 (.slice (some ⟨w1.heap.size, 0, none⟩) 2 2) [5, 0] (w1.alloc (.cells #[.int .u8 5, .int .u8 0] 5)) (h1.grow ((Frm.refl _ _).alloc _)) (by decide) (by decide) (two_bytes w1) (fun k hk => by simp only [Value.ownBlock, Option.some.injEq] at hk; omega)
  unfold WrPost at hwr
  rw [lv_write] at hwr
  simp only at hwr
  have HWR := Lib.hid hwr
  have heq1 : ∀ W, (binOp .eql 73 (.agg lvA.c) (.agg #[.int .u8 43, .int .u8 0, .int .u8 32, .int .u8 1, .int .u8 5, .int .u8 0, .int .u8 0, .int .u8 0])).run Try.prog W = .ok (.bool true) W := fun W => run_eq_f8 lvA lvA W
  have heq2 : ∀ W, (binOp .eql 73 (.agg F8.zero.c) (.agg #[.int .u8 0, .int .u8 0, .int .u8 0, .int .u8 0, .int .u8 0, .int .u8 0, .int .u8 0, .int .u8 0])).run Try.prog W = .ok (.bool true) W := fun W => run_eq_f8 F8.zero F8.zero W
  unfold ptr F8.v at *
  clear h1 hF1 hM1 hwr
  go_upto_region 5 with (first | (go_at_call 36; refine HWR.out.mono ?_; rintro e w2 ⟨rfl, hp2⟩; have HP2 := Lib.hid hp2; clear hp2) | (refine wpl_store_whole rfl 73 (.tmp 2) (.tmp 16) rfl w2.heap.size lvA.c rfl rfl 73 _ (heap_new w2 _) info_f8 rfl (F8.one _) ?_; intro wz hwz hFz; have HW3 := Lib.hid hwz; have HF3 := Lib.hid hFz; clear hwz hFz))
  obtain ⟨M2, hq2, hfr2, hm2⟩ := HP2.out
  have hw23 : Frm (fun _ => False) w2 wz := ((Frm.refl _ _).alloc _).trans HF3.out (fun i hi h => by simp only [One] at h; omega)
  have hfd := cfeed_any M2 c lvS lvQ wz (hq2.grow hw23) lvQ_ok
  unfold FdPost at hfd
  rw [lv_feed] at hfd
  simp only at hfd
  unfold ptr F8.v at hfd
  have HFD := Lib.hid hfd
  have hnm : ¬ M2 w2.heap.size := fun h => Nat.lt_irrefl _ (hq2.2.2.1 _ h)
  have HNM := Lib.hid hnm
  have HFR2 := Lib.hid (hfr2.trans hw23 (fun i hi h => h.elim))
  have HM2 := Lib.hid hm2
  clear hq2 hfr2 hm2 hw23 hfd hnm
  go_upto_region 6 with (first | (go_at_call 69; refine HFD.out.mono ?_; rintro e w4 ⟨rfl, hp4⟩; have HP4 := Lib.hid hp4; clear hp4) | (refine wpl_store_whole rfl 73 (.tmp 4) (.tmp 22) rfl w4.heap.size F8.zero.c rfl rfl 73 _ (heap_new w4 _) info_f8 rfl (F8.one _) ?_; intro wy hwy hFy; have HWY := Lib.hid hwy; have HFY := Lib.hid hFy; clear hwy hFy))
  obtain ⟨M4, hq4, hfr4, hm4⟩ := HP4.out
  have hw45 : Frm (fun _ => False) w4 wy := ((Frm.refl _ _).alloc _).trans HFY.out (fun i hi h => by simp only [One] at h; omega)
  have hrs := cresult_any M4 c (Cl.ends [] 0) wy (hq4.grow hw45)
  unfold ResPost at hrs
  rw [lv_result] at hrs
  simp only at hrs
  unfold ptr at hrs
  have HRS := Lib.hid hrs
  have H2Y := Lib.hid (hw45.heap (HP4.out.keep HNM.out HW3.out) (fun h => h))
  have hwzs : w2.heap.size < wz.heap.size := lt_of_block HW3.out
  have hM42 : ¬ M4 w2.heap.size := fun h => (hm4 _ h).elim HNM.out (fun h => by omega)
  have hM44 : ¬ M4 w4.heap.size := fun h => Nat.lt_irrefl _ (hq4.2.2.1 _ h)
  have hsw1 := HF1.out.size
  have hM2w : ∀ k, M2 k → w.heap.size ≤ k := fun k hk => (HM2.out k hk).elim (fun h => HM1.out k h) (fun h => by simp at h; omega)
  have hwzw : w.heap.size ≤ wz.heap.size := by have := HFR2.out.size; simp at this; omega
  have hM4w : ∀ k, M4 k → w.heap.size ≤ k := fun k hk => (hm4 k hk).elim (fun h => hM2w k h) (fun h => by omega)
  have f2 : Frm (fun _ => False) w wz := (HF1.out.alloc _).trans HFR2.out (fun i hi h => by have := HM1.out i h; omega)
  have f4 : Frm (fun _ => False) w wy := (f2.trans hfr4 (fun i hi h => by have := hM2w i h; omega)).trans' hw45
  have HFY2 := Lib.hid f4
  have HM4W := Lib.hid hM4w
  have HM42 := Lib.hid hM42
  have HM44 := Lib.hid hM44
  clear hq4 hfr4 hm4 hw45 hrs hM42 hM44 hM2w hM4w f2 f4
  go_upto_region 7 with (go_at_call 35; refine HRS.out.mono ?_; rintro e w6 ⟨⟨v6, rfl, hB6, hM6⟩, hp6⟩; have HP6 := Lib.hid hp6; clear hp6 hB6 hM6)
  have H26 := Lib.hid (HP6.out.keep HM42.out H2Y.out)
  have H46 := Lib.hid (HP6.out.keep HM44.out HWY.out)
  have hfin : Frm (fun _ => False) w w6 := by
    obtain ⟨_, _, h, _⟩ := HP6.out
    exact HFY2.out.trans h (fun i hi h => by have := HM4W.out i h; omega)
  have HFIN := Lib.hid hfin
  clear hfin
  have heq3 : ∀ W, (binOp .eql 73 (.agg #[.int .u8 0, .int .u8 0, .int .u8 0, .int .u8 0, .int .u8 0, .int .u8 0, .int .u8 0, .int .u8 0]) (.agg #[.int .u8 0, .int .u8 0, .int .u8 0, .int .u8 0, .int .u8 0, .int .u8 0, .int .u8 0, .int .u8 0])).run Try.prog W = .ok (.bool true) W := fun W => run_eq_f8 F8.zero F8.zero W
  have z0 : w6.cell? ⟨w4.heap.size, 0, none⟩ = some (.int .u8 0) := cell_at H46.out
  have z1 : w6.cell? ⟨w4.heap.size, 1, none⟩ = some (.int .u8 0) := cell_at H46.out
  have z2 : w6.cell? ⟨w4.heap.size, 2, none⟩ = some (.int .u8 0) := cell_at H46.out
  have z3 : w6.cell? ⟨w4.heap.size, 3, none⟩ = some (.int .u8 0) := cell_at H46.out
  have z4 : w6.cell? ⟨w4.heap.size, 4, none⟩ = some (.int .u8 0) := cell_at H46.out
  have z5 : w6.cell? ⟨w4.heap.size, 5, none⟩ = some (.int .u8 0) := cell_at H46.out
  have z6 : w6.cell? ⟨w4.heap.size, 6, none⟩ = some (.int .u8 0) := cell_at H46.out
  have z7 : w6.cell? ⟨w4.heap.size, 7, none⟩ = some (.int .u8 0) := cell_at H46.out
  go_wp2_with (refine wpList_load_row rfl 73 (.tmp 2) rfl w2.heap.size rfl 73 lvA.c (0, 0) _ H26.out Try.underlying73 rfl (by first | exact info_f8 | (rw [F8.size]; exact info_f8)) ?_)
  go_ret
  exact ⟨rfl, HFIN.out⟩
end Go.Proofs.Ytmkkeglcjbogcaa
namespace Go.Proofs.Ytmkkeglcjbogcaa
open Go.RowKit
set_option linter.unusedVariables false
set_option linter.unusedSimpArgs false

/-- An act that was handed in: kind, index, sub, the slice's value, its bytes, a frame. -/
structure CA where
  (kind i q : Int) (v : Value) (b : List UInt8) (f : F8)
def encCA (x : CA) : List Value := (actC x.kind x.i x.q x.v x.f).toList
theorem encCA_len (x : CA) : (encCA x).length = 12 := rfl
def CA.good (W : World) (x : CA) : Prop := BytesAt W x.v x.b ∧ ((0 ≤ x.i ∧ x.i ≤ 65535) ∧ 0 ≤ x.q ∧ x.q ≤ 255) ∧ x.f.ok ∧ x.b.length ≤ 140737488351232
/-- The client in some state, its blocks new. -/
def ClNew (W wr : World) (c : Nat) : Prop := ∃ s M, ClHas M wr c s ∧ (∀ k, M k → W.heap.size ≤ k) ∧ Frm (fun _ => False) W wr
/-- The client in a state s, its blocks new. -/
def ClIs (W wr : World) (c : Nat) (s : Cl) : Prop := ∃ M, ClHas M wr c s ∧ (∀ k, M k → W.heap.size ≤ k) ∧ Frm (fun _ => False) W wr
theorem ClNew.step {W wr w3 wz : World} {c : Nat} {s s' : Cl} {M : Nat → Prop} (h : ClHas M wr c s) (hM : ∀ k, M k → W.heap.size ≤ k) (hF : Frm (fun _ => False) W wr) (hp : ClPost M wr c s' w3) (hz : Frm (fun _ => False) w3 wz) : ClIs W wz c s' := by
  obtain ⟨M', h3, h4, h5⟩ := hp
  have := hF.size
  exact ⟨M', h3.grow hz, fun k hk => (h5 k hk).elim (fun h => hM k h) (fun h => by omega), (hF.trans h4 (fun i hi h => by have := hM i h; omega)).trans' hz⟩
theorem lv_resT : (Cl.ends [] 84148224).result = (⟨0, 0, 0, [], 0, false, 0, [], 0, false⟩, [], 84148224, true) := by rfl
theorem result_waits (s : Cl) : s.result.1.waits = s.waits := by unfold Cl.result; cases s.has <;> rfl
theorem write_okC {s : Cl} {bs : List UInt8} (hw : s.waits = 0) (hb : bs.length ≤ 65536) : ∃ s7 f7, s.write 8192 1 bs = (s7, f7, 0) ∧ s7.busy = true := by
  unfold Cl.write
  rw [if_neg (by simpa using hw), if_neg (by omega)]
  by_cases h : 1 ≤ bs.length ∧ bs.length ≤ 4
  · rw [if_pos h]; exact ⟨_, _, rfl, rfl⟩
  · rw [if_neg h]; exact ⟨_, _, rfl, rfl⟩
set_option maxRecDepth 100000 in
set_option maxHeartbeats 4000000 in
theorem cexpires_any (v0 v1 : Value) (l : List CA) (bs : List UInt8) (W : World) (h0 : SlAt encCA 12 W v0 l) (hg : ∀ x ∈ l, x.good W) (h1 : BytesAt W v1 bs) (hb : bs.length ≤ 140737488351232) :
    Calls Try.prog 8 #[v0, v1] W fun e w' => e = .returned (.bool true) ∧ Frm (fun _ => False) W w' := by
  have HS0 := Lib.hid h0
  have HG := Lib.hid hg
  have HB := Lib.hid h1
  have HBL := Lib.hid hb
  obtain ⟨A, cap, rfl, hc1, hc2, hcell⟩ := h0
  have hm : l.length ≤ 9223372036854775807 := Nat.le_trans hc1 hc2
  obtain ⟨A1, cap1, rfl, hd1, hd2, _⟩ := bytes_cell h1
  have hm1 : bs.length ≤ 9223372036854775807 := Nat.le_trans hd1 hd2
  have HCI := Lib.hid hcell
  clear hg h1 hb hc1 hc2 hcell hd1 hd2
  go_enter Try.func8, Try.ntmps8
  go_wp2_with fail
  refine (cnew_any W).mono ?_
  rintro e w1 ⟨c, M, rfl, hh1, hF1, hM1⟩
  have HN1 : Hid (ClNew W w1 c) := ⟨_, M, hh1, hM1, hF1⟩
  unfold ptr
  clear hh1 hF1 hM1
  go_wp2_with fail
  go_loopw [6] (fun iv wr => ∃ k : Nat, k ≤ l.length ∧ iv = .int .i64 k ∧ ClNew W wr c) (fun iv _ => l.length - (intOf iv).toNat)
  case atStart => exact ⟨0, Nat.zero_le _, rfl, HN1.out⟩
  case round =>
    obtain ⟨k, hk, rfl, hN⟩ := hrel
    have HN := Lib.hid hN
    by_cases hlt : k < l.length
    · obtain ⟨s, M, hH, hMW, hFW⟩ := hN
      obtain ⟨g, off, rfl, hgl, hcc⟩ := HCI.out (by omega)
      have hgd := HG.out _ (List.getElem_mem hlt)
      have hrow := hcc k hlt
      have HKL0 : k + 1 ≤ l.length := hlt
      clear hcc
      generalize l[k] = x at *
      obtain ⟨kind, i, q, v, b, f⟩ := x
      obtain ⟨hBx, hiq, hfo, hbl⟩ := hgd
      simp only at hBx hiq hfo hbl
      obtain ⟨Ab, cb, rfl, _, _, hcb⟩ := bytes_cell hBx
      have hsz := hFW.size
      have HRW : Hid ((wr.alloc (.cells rzero 72 (0, 0))).rangeAt g (off + k * 12) (encCA ⟨kind, i, q, .slice Ab b.length cb, b, f⟩)) := fun j u hj => by
        have hj12 : j < 12 := by have := (List.getElem?_eq_some_iff.1 hj).1; rwa [encCA_len] at this
        have h9 := hrow j hj12
        rw [hj] at h9
        exact (hFW.alloc (.cells rzero 72 (0, 0))).cell h9 (fun h => h)
      have HDO := Lib.hid (cdoes_any M c wr.heap.size s kind i q Ab cb b f (wr.alloc (.cells rzero 72 (0, 0))) (hH.grow ((Frm.refl _ _).alloc _)) (heap_new wr _) (fun h => Nat.lt_irrefl _ (hH.2.2.1 _ h)) hiq (hBx.grow (hFW.alloc _)) (fun h0 kk hkk => by
        obtain ⟨g9, o9, rfl, hc9⟩ := hcb h0
        have hl9 := World.block_lt_of_cell? W _ (hc9 0 h0)
        have e9 : g9 = kk := by simpa [Value.ownBlock] using hkk
        simp only at hl9
        subst e9
        exact ⟨fun h => by have := hMW _ h; omega, by omega⟩) hbl hfo)
      have HMW := Lib.hid hMW
      have HFW := Lib.hid hFW
      have HKL : Hid (k + 1 ≤ l.length) := HKL0
      have hkl : (k : Int) < (l.length : Int) := by omega
      have hgw : g < wr.heap.size := by omega
      unfold ptr at HDO
      clear hrow hBx hiq hfo hbl hcb hH hMW hFW HKL0
      go_wp2_with (first | (refine wpList_load_mid rfl 75 (.tmp 29) rfl g (off + k * 12) rfl _ _ HRW.out Try.underlying75 rfl (by kernel_rfl) ?_) | (go_at_call 32; refine HDO.out.mono ?_; rintro e w7 ⟨⟨bb, rfl⟩, hs7⟩; have HS7 := Lib.hid hs7; clear hs7))
      go_roundw
      case rel =>
        refine ⟨k + 1, HKL.out, by go_num, ?_⟩
        obtain ⟨s', M', h3, h4, h5⟩ := HS7.out
        have hsz := HFW.out.size
        refine ⟨s', M', h3, fun kk hkk => ?_, (HFW.out.alloc _).trans h4 (fun i9 hi9 h => ?_)⟩
        · rcases h5 kk hkk with h | h
          · exact HMW.out kk h
          · simp at h; omega
        · rcases h with h | h
          · have := HMW.out i9 h; omega
          · omega
      case measure => have := HKL.out; simp [intOf]; omega
    · have hkn : k = l.length := by omega
      subst hkn
      obtain ⟨s, M, hH, hMW, hFW⟩ := hN
      have HH := Lib.hid hH
      have HMW := Lib.hid hMW
      have HFW := Lib.hid hFW
      have HBU := Lib.hid (cbusy_any M c s wr hH)
      have HEX := Lib.hid (cexpire_any M c s wr hH)
      unfold ExpPost at HEX
      unfold ptr at HBU HEX
      clear hH hMW hFW
      by_cases hw0 : s.waits = 0
      · have hb0 : s.busy = false := by unfold Cl.busy; simp [hw0]
        have he0 : s.expire = (s, F8.zero, false) := by unfold Cl.expire; rw [if_pos hw0]
        rw [hb0] at HBU
        rw [he0] at HEX
        simp only at HEX
        have HW0 := Lib.hid hw0
        clear hb0 he0 hw0
        obtain ⟨f2, hf2⟩ : ∃ f2, f2 = F8.zero := ⟨_, rfl⟩
        rw [← hf2] at HEX
        unfold F8.v at HEX
        clear hf2
        go_upto_region 10 with (first | (go_at_call 33; refine HBU.out.mono ?_; rintro e w2 ⟨rfl, rfl⟩) | (go_at_call 34; refine HEX.out.mono ?_; rintro e w3 ⟨rfl, hp3⟩; have HP3 := Lib.hid hp3; clear hp3) | (refine wpl_store_whole rfl 73 (.tmp 8) (.tmp 37) rfl w3.heap.size f2.c rfl rfl 73 _ (heap_new w3 _) info_f8 rfl (F8.one _) ?_; intro wz hwz hFz; have HW4 := Lib.hid hwz; have HF4 := Lib.hid hFz; clear hwz hFz))
        have hN4 := ClNew.step HH.out HMW.out HFW.out HP3.out (((Frm.refl _ _).alloc _).trans HF4.out (fun i hi h => by simp only [One] at h; omega) : Frm (fun _ => False) w3 wz)
        obtain ⟨s6, l6, c6, h6, hr6⟩ : ∃ s6 l6 c6 h6, s.result = (s6, l6, c6, h6) := ⟨_, _, _, _, rfl⟩
        have hw6 : s6.waits = 0 := by
          have := result_waits s
          rw [hr6] at this
          exact this.trans HW0.out
        have HR6 := Lib.hid hr6
        clear hr6
        obtain ⟨M4, hq4, hm4, hf4⟩ := hN4
        have hrs := cresult_any M4 c _ wz hq4
        unfold ResPost at hrs
        rw [HR6.out] at hrs
        simp only at hrs
        unfold ptr at hrs
        have HRS := Lib.hid hrs
        have HQ4 := Lib.hid hq4
        have HM4 := Lib.hid hm4
        have HF4W := Lib.hid hf4
        clear hq4 hm4 hf4 hrs
        go_upto_region 11 with (go_at_call 35; refine HRS.out.mono ?_; rintro e w6 ⟨⟨v6, rfl, hB6, hM6⟩, hp6⟩; have HP6 := Lib.hid hp6; clear hp6 hB6 hM6)
        obtain ⟨M6, hq6, hm6, hf6⟩ := ClNew.step HQ4.out HM4.out HF4W.out HP6.out (Frm.refl _ _)
        have hbu6 := cbusy_any M6 c s6 w6 hq6
        have hbz : s6.busy = false := by unfold Cl.busy; simp [hw6]
        rw [hbz] at hbu6
        unfold ptr at hbu6
        have HBU6 := Lib.hid hbu6
        have HQ6 := Lib.hid hq6
        have HM6 := Lib.hid hm6
        have HF6 := Lib.hid hf6
        have HW6 := Lib.hid hw6
        clear hbu6 hbz hq6 hm6 hf6 hw6
        go_upto_region 13 with (go_at_call 33; refine HBU6.out.mono ?_; rintro e w2 ⟨rfl, hw2q⟩; have hw2q := hw2q.symm; subst hw2q)
        have HEMP := Lib.hid (empty_row w6 5 1 0 (Nat.zero_le _))
        have HLN : Hid ((bs.map encB).length = bs.length * 1) := by unfold Hid; simp
        have HNW := Lib.hid (HB.out.news rfl)
        have hbm3 : bs.length ≤ maxLen := by unfold maxLen; have := HBL.out; omega
        have hbm4 : bs.length * 1 ≤ 140737488355328 := by have := HBL.out; omega
        have HON := Lib.hid (oneB' bs)
        have HWR := Lib.hid (fun W A3 cap3 (hF : Frm (fun _ => False) w6 W) (hO : Own8 0 W (.slice A3 bs.length cap3) bs) (hc : ∀ k, (Value.slice A3 bs.length cap3).ownBlock = some k → k ≠ c) => cwrite_any M6 c s6 8192 1 (.slice A3 bs.length cap3) bs W (HQ6.out.grow hF) (by decide) (by decide) (BytesAt.of_row hO) hc)
        unfold WrPost ptr at HWR
        obtain ⟨csc, HCL⟩ : ∃ cs, Hid (w6.heap[c]? = some (.cells cs 143 (0, 0))) := by obtain ⟨_, _, _, vb, vr, hc, _⟩ := HQ6.out; exact ⟨_, hc⟩
        by_cases hbig : 65536 < bs.length
        · have hwq : s6.write 8192 1 bs = (s6, F8.zero, 2) := by unfold Cl.write; rw [if_neg (by simpa using HW6.out), if_pos hbig]
          rw [hwq] at HWR
          simp only at HWR
          obtain ⟨f7, hf7⟩ : ∃ f7, f7 = F8.zero := ⟨_, rfl⟩
          rw [← hf7] at HWR
          have hgt : 65536 < (bs.length : Int) := by omega
          clear hwq hf7 hbig
          unfold F8.v at HWR
          go_upto_region 14 with (first | (at_builtin; refine wpl_clone rfl el_u8 _ _ rfl rfl rfl (B := 0) (news := bs.map encB) (Frm.row (S := fun _ => False) (by (repeat' (first | (with_reducible exact Frm.refl _ _) | (with_reducible assumption) | (with_reducible refine Frm.alloc ?_ _) | (with_reducible refine Frm.drew ?_) | (with_reducible refine Frm.drewN ?_ _) | (with_reducible refine Frm.set1 ?_ _) | (with_reducible refine Frm.setCell ?_ ?_ _) | (exact fun h => absurd h (Nat.lt_irrefl _)) | (intro hlt; simp [World.size_alloc, One] at hlt ⊢; omega)))) HEMP.out (fun _ _ h => h)) HLN.out (fun h0 => NewsOf.grow (HNW.out h0) (HF6.out.trans' (by (repeat' (first | (with_reducible exact Frm.refl _ _) | (with_reducible assumption) | (with_reducible refine Frm.alloc ?_ _) | (with_reducible refine Frm.drew ?_) | (with_reducible refine Frm.drewN ?_ _) | (with_reducible refine Frm.set1 ?_ _) | (with_reducible refine Frm.setCell ?_ ?_ _) | (exact fun h => absurd h (Nat.lt_irrefl _)) | (intro hlt; simp [World.size_alloc, One] at hlt ⊢; omega)))))) HON.out hbm3 hbm4 (Nat.zero_le _) ?_; intro A3 cap3 w7 hO7 hF7; have hF67 : Frm (fun _ => False) w6 w7 := (((Frm.refl _ _).alloc _).trans hF7 (fun i hi h => by cases h; exact absurd hi (Nat.lt_irrefl _))); have HW7 := Lib.hid (HWR.out w7 A3 cap3 hF67 hO7 (fun k hk => by obtain ⟨_, cur, hcu⟩ := row_block hO7 hk; exact block_ne hcu (hF67.heap HCL.out (fun h => h)) (by decide))); have HF67 := Lib.hid hF67; clear hO7 hF7 hF67) | (go_at_call 36; refine HW7.out.mono ?_; rintro e w8 ⟨rfl, hp8⟩; have HP8 := Lib.hid hp8; clear hp8) | (refine wpl_store_whole rfl 73 (.tmp 13) (.tmp 69) rfl w8.heap.size f7.c rfl rfl 73 _ (heap_new w8 _) info_f8 rfl (F8.one _) ?_; intro wz hwz hFz; have HW9 := Lib.hid hwz; have HF9 := Lib.hid hFz; clear hwz hFz))
          obtain ⟨M8, hq8, hm8, hf8⟩ := ClNew.step (HQ6.out.grow HF67.out) HM6.out (HF6.out.trans' HF67.out) HP8.out (((Frm.refl _ _).alloc _).trans HF9.out (fun i hi h => by simp only [One] at h; omega) : Frm (fun _ => False) w8 wz)
          have HF8 := Lib.hid hf8
          go_wp2_with (go_at_call 37; refine (clives_any _).mono ?_; rintro e w9 ⟨rfl, hF9⟩; have HF9 := Lib.hid hF9; clear hF9)
          go_ret
          exact ⟨rfl, HF8.out.trans' HF9.out⟩
        · obtain ⟨s7, f7, hwq, hbz7⟩ := write_okC (bs := bs) HW6.out (by omega)
          rw [hwq] at HWR
          simp only at HWR
          have hgt : ¬ 65536 < (bs.length : Int) := by omega
          have HBZ7 := Lib.hid hbz7
          clear hwq hbig hbz7
          unfold F8.v at HWR
          go_upto_region 14 with (first | (at_builtin; refine wpl_clone rfl el_u8 _ _ rfl rfl rfl (B := 0) (news := bs.map encB) (Frm.row (S := fun _ => False) (by (repeat' (first | (with_reducible exact Frm.refl _ _) | (with_reducible assumption) | (with_reducible refine Frm.alloc ?_ _) | (with_reducible refine Frm.drew ?_) | (with_reducible refine Frm.drewN ?_ _) | (with_reducible refine Frm.set1 ?_ _) | (with_reducible refine Frm.setCell ?_ ?_ _) | (exact fun h => absurd h (Nat.lt_irrefl _)) | (intro hlt; simp [World.size_alloc, One] at hlt ⊢; omega)))) HEMP.out (fun _ _ h => h)) HLN.out (fun h0 => NewsOf.grow (HNW.out h0) (HF6.out.trans' (by (repeat' (first | (with_reducible exact Frm.refl _ _) | (with_reducible assumption) | (with_reducible refine Frm.alloc ?_ _) | (with_reducible refine Frm.drew ?_) | (with_reducible refine Frm.drewN ?_ _) | (with_reducible refine Frm.set1 ?_ _) | (with_reducible refine Frm.setCell ?_ ?_ _) | (exact fun h => absurd h (Nat.lt_irrefl _)) | (intro hlt; simp [World.size_alloc, One] at hlt ⊢; omega)))))) HON.out hbm3 hbm4 (Nat.zero_le _) ?_; intro A3 cap3 w7 hO7 hF7; have hF67 : Frm (fun _ => False) w6 w7 := (((Frm.refl _ _).alloc _).trans hF7 (fun i hi h => by cases h; exact absurd hi (Nat.lt_irrefl _))); have HW7 := Lib.hid (HWR.out w7 A3 cap3 hF67 hO7 (fun k hk => by obtain ⟨_, cur, hcu⟩ := row_block hO7 hk; exact block_ne hcu (hF67.heap HCL.out (fun h => h)) (by decide))); have HF67 := Lib.hid hF67; clear hO7 hF7 hF67) | (go_at_call 36; refine HW7.out.mono ?_; rintro e w8 ⟨rfl, hp8⟩; have HP8 := Lib.hid hp8; clear hp8) | (refine wpl_store_whole rfl 73 (.tmp 13) (.tmp 69) rfl w8.heap.size f7.c rfl rfl 73 _ (heap_new w8 _) info_f8 rfl (F8.one _) ?_; intro wz hwz hFz; have HW9 := Lib.hid hwz; have HF9 := Lib.hid hFz; clear hwz hFz))
          obtain ⟨M8, hq8, hm8, hf8⟩ := ClNew.step (HQ6.out.grow HF67.out) HM6.out (HF6.out.trans' HF67.out) HP8.out (((Frm.refl _ _).alloc _).trans HF9.out (fun i hi h => by simp only [One] at h; omega) : Frm (fun _ => False) w8 wz)
          have HF8 := Lib.hid hf8
          have HBU8 := Lib.hid (cbusy_any M8 c s7 wz hq8)
          rw [HBZ7.out] at HBU8
          unfold ptr at HBU8
          go_wp2_with (first | (go_at_call 33; refine HBU8.out.mono ?_; rintro e w2 ⟨rfl, hw2q⟩; have hw2q := hw2q.symm; subst hw2q) | (go_at_call 37; refine (clives_any _).mono ?_; rintro e w9 ⟨rfl, hF9⟩; have HF9 := Lib.hid hF9; clear hF9))
          go_ret
          exact ⟨rfl, HF8.out.trans' HF9.out⟩
      · have hb0 : s.busy = true := by unfold Cl.busy; simp [hw0]
        have he0 : s.expire = (Cl.ends [] 84148224, fr8 128 s.idx s.sub 84148224, true) := by unfold Cl.expire; rw [if_neg hw0]; rfl
        rw [hb0] at HBU
        rw [he0] at HEX
        simp only at HEX
        generalize fr8 128 s.idx s.sub 84148224 = f2 at *
        unfold F8.v at HEX
        clear hb0 he0 hw0
        go_upto_region 10 with (first | (go_at_call 33; refine HBU.out.mono ?_; rintro e w2 ⟨rfl, rfl⟩) | (go_at_call 34; refine HEX.out.mono ?_; rintro e w3 ⟨rfl, hp3⟩; have HP3 := Lib.hid hp3; clear hp3) | (refine wpl_store_whole rfl 73 (.tmp 8) (.tmp 37) rfl w3.heap.size f2.c rfl rfl 73 _ (heap_new w3 _) info_f8 rfl (F8.one _) ?_; intro wz hwz hFz; have HW4 := Lib.hid hwz; have HF4 := Lib.hid hFz; clear hwz hFz))
        have hN4 := ClNew.step HH.out HMW.out HFW.out HP3.out (((Frm.refl _ _).alloc _).trans HF4.out (fun i hi h => by simp only [One] at h; omega) : Frm (fun _ => False) w3 wz)
        obtain ⟨M4, hq4, hm4, hf4⟩ := hN4
        have hrs := cresult_any M4 c _ wz hq4
        unfold ResPost at hrs
        rw [lv_resT] at hrs
        simp only at hrs
        unfold ptr at hrs
        have HRS := Lib.hid hrs
        have HQ4 := Lib.hid hq4
        have HM4 := Lib.hid hm4
        have HF4W := Lib.hid hf4
        clear hq4 hm4 hf4 hrs
        go_upto_region 11 with (go_at_call 35; refine HRS.out.mono ?_; rintro e w6 ⟨⟨v6, rfl, hB6, hM6⟩, hp6⟩; have HP6 := Lib.hid hp6; clear hp6 hB6 hM6)
        obtain ⟨M6, hq6, hm6, hf6⟩ := ClNew.step HQ4.out HM4.out HF4W.out HP6.out (Frm.refl _ _)
        obtain ⟨s6, hs6⟩ : ∃ s6 : Cl, s6 = ⟨0, 0, 0, [], 0, false, 0, [], 0, false⟩ := ⟨_, rfl⟩
        have hw6 : s6.waits = 0 := by rw [hs6]
        rw [← hs6] at hq6
        clear hs6
        have hbu6 := cbusy_any M6 c s6 w6 hq6
        have hbz : s6.busy = false := by unfold Cl.busy; simp [hw6]
        rw [hbz] at hbu6
        unfold ptr at hbu6
        have HBU6 := Lib.hid hbu6
        have HQ6 := Lib.hid hq6
        have HM6 := Lib.hid hm6
        have HF6 := Lib.hid hf6
        have HW6 := Lib.hid hw6
        clear hbu6 hbz hq6 hm6 hf6 hw6
        go_upto_region 13 with (go_at_call 33; refine HBU6.out.mono ?_; rintro e w2 ⟨rfl, hw2q⟩; have hw2q := hw2q.symm; subst hw2q)
        have HEMP := Lib.hid (empty_row w6 5 1 0 (Nat.zero_le _))
        have HLN : Hid ((bs.map encB).length = bs.length * 1) := by unfold Hid; simp
        have HNW := Lib.hid (HB.out.news rfl)
        have hbm3 : bs.length ≤ maxLen := by unfold maxLen; have := HBL.out; omega
        have hbm4 : bs.length * 1 ≤ 140737488355328 := by have := HBL.out; omega
        have HON := Lib.hid (oneB' bs)
        have HWR := Lib.hid (fun W A3 cap3 (hF : Frm (fun _ => False) w6 W) (hO : Own8 0 W (.slice A3 bs.length cap3) bs) (hc : ∀ k, (Value.slice A3 bs.length cap3).ownBlock = some k → k ≠ c) => cwrite_any M6 c s6 8192 1 (.slice A3 bs.length cap3) bs W (HQ6.out.grow hF) (by decide) (by decide) (BytesAt.of_row hO) hc)
        unfold WrPost ptr at HWR
        obtain ⟨csc, HCL⟩ : ∃ cs, Hid (w6.heap[c]? = some (.cells cs 143 (0, 0))) := by obtain ⟨_, _, _, vb, vr, hc, _⟩ := HQ6.out; exact ⟨_, hc⟩
        by_cases hbig : 65536 < bs.length
        · have hwq : s6.write 8192 1 bs = (s6, F8.zero, 2) := by unfold Cl.write; rw [if_neg (by simpa using HW6.out), if_pos hbig]
          rw [hwq] at HWR
          simp only at HWR
          obtain ⟨f7, hf7⟩ : ∃ f7, f7 = F8.zero := ⟨_, rfl⟩
          rw [← hf7] at HWR
          have hgt : 65536 < (bs.length : Int) := by omega
          clear hwq hf7 hbig
          unfold F8.v at HWR
          go_upto_region 14 with (first | (at_builtin; refine wpl_clone rfl el_u8 _ _ rfl rfl rfl (B := 0) (news := bs.map encB) (Frm.row (S := fun _ => False) (by (repeat' (first | (with_reducible exact Frm.refl _ _) | (with_reducible assumption) | (with_reducible refine Frm.alloc ?_ _) | (with_reducible refine Frm.drew ?_) | (with_reducible refine Frm.drewN ?_ _) | (with_reducible refine Frm.set1 ?_ _) | (with_reducible refine Frm.setCell ?_ ?_ _) | (exact fun h => absurd h (Nat.lt_irrefl _)) | (intro hlt; simp [World.size_alloc, One] at hlt ⊢; omega)))) HEMP.out (fun _ _ h => h)) HLN.out (fun h0 => NewsOf.grow (HNW.out h0) (HF6.out.trans' (by (repeat' (first | (with_reducible exact Frm.refl _ _) | (with_reducible assumption) | (with_reducible refine Frm.alloc ?_ _) | (with_reducible refine Frm.drew ?_) | (with_reducible refine Frm.drewN ?_ _) | (with_reducible refine Frm.set1 ?_ _) | (with_reducible refine Frm.setCell ?_ ?_ _) | (exact fun h => absurd h (Nat.lt_irrefl _)) | (intro hlt; simp [World.size_alloc, One] at hlt ⊢; omega)))))) HON.out hbm3 hbm4 (Nat.zero_le _) ?_; intro A3 cap3 w7 hO7 hF7; have hF67 : Frm (fun _ => False) w6 w7 := (((Frm.refl _ _).alloc _).trans hF7 (fun i hi h => by cases h; exact absurd hi (Nat.lt_irrefl _))); have HW7 := Lib.hid (HWR.out w7 A3 cap3 hF67 hO7 (fun k hk => by obtain ⟨_, cur, hcu⟩ := row_block hO7 hk; exact block_ne hcu (hF67.heap HCL.out (fun h => h)) (by decide))); have HF67 := Lib.hid hF67; clear hO7 hF7 hF67) | (go_at_call 36; refine HW7.out.mono ?_; rintro e w8 ⟨rfl, hp8⟩; have HP8 := Lib.hid hp8; clear hp8) | (refine wpl_store_whole rfl 73 (.tmp 13) (.tmp 69) rfl w8.heap.size f7.c rfl rfl 73 _ (heap_new w8 _) info_f8 rfl (F8.one _) ?_; intro wz hwz hFz; have HW9 := Lib.hid hwz; have HF9 := Lib.hid hFz; clear hwz hFz))
          obtain ⟨M8, hq8, hm8, hf8⟩ := ClNew.step (HQ6.out.grow HF67.out) HM6.out (HF6.out.trans' HF67.out) HP8.out (((Frm.refl _ _).alloc _).trans HF9.out (fun i hi h => by simp only [One] at h; omega) : Frm (fun _ => False) w8 wz)
          have HF8 := Lib.hid hf8
          go_wp2_with (go_at_call 37; refine (clives_any _).mono ?_; rintro e w9 ⟨rfl, hF9⟩; have HF9 := Lib.hid hF9; clear hF9)
          go_ret
          exact ⟨rfl, HF8.out.trans' HF9.out⟩
        · obtain ⟨s7, f7, hwq, hbz7⟩ := write_okC (bs := bs) HW6.out (by omega)
          rw [hwq] at HWR
          simp only at HWR
          have hgt : ¬ 65536 < (bs.length : Int) := by omega
          have HBZ7 := Lib.hid hbz7
          clear hwq hbig hbz7
          unfold F8.v at HWR
          go_upto_region 14 with (first | (at_builtin; refine wpl_clone rfl el_u8 _ _ rfl rfl rfl (B := 0) (news := bs.map encB) (Frm.row (S := fun _ => False) (by (repeat' (first | (with_reducible exact Frm.refl _ _) | (with_reducible assumption) | (with_reducible refine Frm.alloc ?_ _) | (with_reducible refine Frm.drew ?_) | (with_reducible refine Frm.drewN ?_ _) | (with_reducible refine Frm.set1 ?_ _) | (with_reducible refine Frm.setCell ?_ ?_ _) | (exact fun h => absurd h (Nat.lt_irrefl _)) | (intro hlt; simp [World.size_alloc, One] at hlt ⊢; omega)))) HEMP.out (fun _ _ h => h)) HLN.out (fun h0 => NewsOf.grow (HNW.out h0) (HF6.out.trans' (by (repeat' (first | (with_reducible exact Frm.refl _ _) | (with_reducible assumption) | (with_reducible refine Frm.alloc ?_ _) | (with_reducible refine Frm.drew ?_) | (with_reducible refine Frm.drewN ?_ _) | (with_reducible refine Frm.set1 ?_ _) | (with_reducible refine Frm.setCell ?_ ?_ _) | (exact fun h => absurd h (Nat.lt_irrefl _)) | (intro hlt; simp [World.size_alloc, One] at hlt ⊢; omega)))))) HON.out hbm3 hbm4 (Nat.zero_le _) ?_; intro A3 cap3 w7 hO7 hF7; have hF67 : Frm (fun _ => False) w6 w7 := (((Frm.refl _ _).alloc _).trans hF7 (fun i hi h => by cases h; exact absurd hi (Nat.lt_irrefl _))); have HW7 := Lib.hid (HWR.out w7 A3 cap3 hF67 hO7 (fun k hk => by obtain ⟨_, cur, hcu⟩ := row_block hO7 hk; exact block_ne hcu (hF67.heap HCL.out (fun h => h)) (by decide))); have HF67 := Lib.hid hF67; clear hO7 hF7 hF67) | (go_at_call 36; refine HW7.out.mono ?_; rintro e w8 ⟨rfl, hp8⟩; have HP8 := Lib.hid hp8; clear hp8) | (refine wpl_store_whole rfl 73 (.tmp 13) (.tmp 69) rfl w8.heap.size f7.c rfl rfl 73 _ (heap_new w8 _) info_f8 rfl (F8.one _) ?_; intro wz hwz hFz; have HW9 := Lib.hid hwz; have HF9 := Lib.hid hFz; clear hwz hFz))
          obtain ⟨M8, hq8, hm8, hf8⟩ := ClNew.step (HQ6.out.grow HF67.out) HM6.out (HF6.out.trans' HF67.out) HP8.out (((Frm.refl _ _).alloc _).trans HF9.out (fun i hi h => by simp only [One] at h; omega) : Frm (fun _ => False) w8 wz)
          have HF8 := Lib.hid hf8
          have HBU8 := Lib.hid (cbusy_any M8 c s7 wz hq8)
          rw [HBZ7.out] at HBU8
          unfold ptr at HBU8
          go_wp2_with (first | (go_at_call 33; refine HBU8.out.mono ?_; rintro e w2 ⟨rfl, hw2q⟩; have hw2q := hw2q.symm; subst hw2q) | (go_at_call 37; refine (clives_any _).mono ?_; rintro e w9 ⟨rfl, hF9⟩; have HF9 := Lib.hid hF9; clear hF9))
          go_ret
          exact ⟨rfl, HF8.out.trans' HF9.out⟩
end Go.Proofs.Ytmkkeglcjbogcaa
