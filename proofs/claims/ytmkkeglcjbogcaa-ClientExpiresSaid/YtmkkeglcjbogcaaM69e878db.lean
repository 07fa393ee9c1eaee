/-
  The client takes an answer: its place, a first answer to a read, a segment.
-/
import Derived.Test.YtmkkeglcjbogcaaMbff6bff6
import Derived.Test.YtmkkeglcjbogcaaMa641c309
set_option linter.unusedVariables false
set_option linter.unusedSimpArgs false
namespace Go.Proofs.Ytmkkeglcjbogcaa
open Go.RowKit
open List (getElem_toArray getElem_cons_zero getElem_cons_succ setIfInBounds_toArray set_cons_zero set_cons_succ)
set_option linter.unusedVariables false
set_option linter.unusedSimpArgs false

theorem le16_sumI (a b : Int) (a0 : 0 ≤ a) (a1 : a ≤ 255) (b0 : 0 ≤ b) (b1 : b ≤ 255) : bits BinOp.or IntKind.u16 a (b * 256) = a + 256 * b := by
  obtain ⟨n0, rfl⟩ := Int.eq_ofNat_of_zero_le a0
  obtain ⟨n1, rfl⟩ := Int.eq_ofNat_of_zero_le b0
  have e1 : ((n1 : Int) * 256) = ((n1 * 256 : Nat) : Int) := by omega
  rw [e1, u16_or_nat n0 (n1 * 256) (by omega) (by omega), or_mulI n0 n1 8 256 (by decide) (by omega)]
  omega
set_option maxRecDepth 100000 in
set_option maxHeartbeats 1000000 in
theorem chere_any (c : Nat) (s : Cl) (vb vr : Value) (f : F8) (w : World) (hc : w.heap[c]? = some (.cells (clC s vb vr) 143 (0, 0))) (hf : f.ok) :
    Calls Try.prog 98 #[ptr c, f.v] w fun e w' => e = .returned (.bool (decide (f.place = s.idx) && decide (f.a3 = s.sub))) ∧ Frm (fun _ => False) w w' := by
  have c1 : w.cell? ⟨c, 1, none⟩ = some (.int .u16 s.idx) := cell_at hc
  have c2 : w.cell? ⟨c, 2, none⟩ = some (.int .u8 s.sub) := cell_at hc
  have hcl := lt_of_block hc
  obtain ⟨a0, a1, a2, a3, a4, a5, a6, a7⟩ := f
  obtain ⟨_, ⟨h10, h11⟩, ⟨h20, h21⟩, _, _, _, _, _⟩ := hf
  unfold F8.v F8.c F8.place
  simp only at h10 h11 h20 h21 ⊢
  have hor := le16_sumI a1 a2 h10 h11 h20 h21
  have q1 : IntKind.u16.wrap a1 = a1 := IntWalk.u16_in _ (by omega)
  have q2 : IntKind.u16.wrap a2 = a2 := IntWalk.u16_in _ (by omega)
  have q3 : IntKind.u16.wrap (a2 * 256) = a2 * 256 := IntWalk.u16_in _ (by omega)
  generalize a1 + 256 * a2 = p at *
  generalize s.idx = idx at *
  generalize s.sub = sub at *
  obtain ⟨wa, hwa⟩ : ∃ wa, wa = w.alloc (.cells #[.int .u8 a0, .int .u8 a1, .int .u8 a2, .int .u8 a3, .int .u8 a4, .int .u8 a5, .int .u8 a6, .int .u8 a7] 73 (0, 0)) := ⟨_, rfl⟩
  have HA := Lib.hid (show (w.alloc (.cells #[.int .u8 a0, .int .u8 a1, .int .u8 a2, .int .u8 a3, .int .u8 a4, .int .u8 a5, .int .u8 a6, .int .u8 a7] 73 (0, 0))).heap[w.heap.size]? = _ from heap_new w _)
  have HCW := Lib.hid (fun W (h : Frm (fun _ => False) (w.alloc (.cells #[.int .u8 a0, .int .u8 a1, .int .u8 a2, .int .u8 a3, .int .u8 a4, .int .u8 a5, .int .u8 a6, .int .u8 a7] 73 (0, 0))) W) => (⟨h.cell (cell_alloc_old c1) (fun h => h), h.cell (cell_alloc_old c2) (fun h => h), h.cell (p := ⟨w.heap.size, 1, none⟩) (cell_at HA.out) (fun h => h), h.cell (p := ⟨w.heap.size, 2, none⟩) (cell_at HA.out) (fun h => h), h.cell (p := ⟨w.heap.size, 3, none⟩) (cell_at HA.out) (fun h => h)⟩ : _ ∧ _ ∧ _ ∧ _ ∧ _))
  have HF0 : Hid (Frm (fun _ => False) w (w.alloc (.cells #[.int .u8 a0, .int .u8 a1, .int .u8 a2, .int .u8 a3, .int .u8 a4, .int .u8 a5, .int .u8 a6, .int .u8 a7] 73 (0, 0)))) := (Frm.refl _ _).alloc _
  rw [← hwa] at HA HCW HF0
  have HWA := Lib.hid hwa
  unfold ptr
  clear hc c1 c2 hwa
  by_cases hp : p = idx
  · subst hp
    by_cases hq : a3 = sub
    · subst hq
      go_enter Try.func98, Try.ntmps98
      go_wp2
      rw [← HWA.out]
      refine wp_region_held_drew (S := fun W => Frm (fun _ => False) wa W) (by kernel_rfl) ((Frm.refl _ _).drew) (fun hHeld => ?_)
      refine wpAnyH_take (i := 0) (v := ?_) rfl (by kernel_rfl) (by kernel_rfl) (by kernel_rfl) (fun _ _ _ h => h) (Or.inl ⟨by rfl, ?_⟩) (by assumption) ?_; rotate_left; · (intro wq hSq; have hq := HCW.out wq hSq; go_split_ands; go_simp; (try with_reducible rfl))
      try simp only [Act.put, getElem_toArray, getElem_cons_zero, getElem_cons_succ, setIfInBounds_toArray, set_cons_zero, set_cons_succ]
      refine wpAnyH_take (i := 1) (v := ?_) rfl (by kernel_rfl) (by kernel_rfl) (by kernel_rfl) (fun _ _ _ h => h) (Or.inl ⟨by rfl, ?_⟩) (by assumption) ?_; rotate_left; · (intro wq hSq; have hq := HCW.out wq hSq; go_split_ands; go_simp; (try with_reducible rfl))
      try simp only [Act.put, getElem_toArray, getElem_cons_zero, getElem_cons_succ, setIfInBounds_toArray, set_cons_zero, set_cons_succ]
      refine wpAnyH_take (i := 2) (v := ?_) rfl (by kernel_rfl) (by kernel_rfl) (by kernel_rfl) (fun _ _ _ h => h) (Or.inl ⟨by rfl, ?_⟩) (by assumption) ?_; rotate_left; · (intro wq hSq; have hq := HCW.out wq hSq; go_split_ands; go_simp; (try with_reducible rfl))
      try simp only [Act.put, getElem_toArray, getElem_cons_zero, getElem_cons_succ, setIfInBounds_toArray, set_cons_zero, set_cons_succ]
      refine wpAnyH_take (i := 3) (v := ?_) rfl (by kernel_rfl) (by kernel_rfl) (by kernel_rfl) (fun _ _ _ h => h) (Or.inl ⟨by rfl, ?_⟩) (by assumption) ?_; rotate_left; · (intro wq hSq; have hq := HCW.out wq hSq; go_split_ands; go_simp; (try with_reducible rfl))
      try simp only [Act.put, getElem_toArray, getElem_cons_zero, getElem_cons_succ, setIfInBounds_toArray, set_cons_zero, set_cons_succ]
      refine wpAnyH_take (i := 4) (v := ?_) rfl (by kernel_rfl) (by kernel_rfl) (by kernel_rfl) (fun _ _ _ h => h) (Or.inl ⟨by rfl, ?_⟩) (by assumption) ?_; rotate_left; · (intro wq hSq; have hq := HCW.out wq hSq; go_split_ands; go_simp; (try with_reducible rfl))
      try simp only [Act.put, getElem_toArray, getElem_cons_zero, getElem_cons_succ, setIfInBounds_toArray, set_cons_zero, set_cons_succ]
      refine wpAnyH_take (i := 5) (v := ?_) rfl (by kernel_rfl) (by kernel_rfl) (by kernel_rfl) (fun _ _ _ h => h) (Or.inl ⟨by rfl, ?_⟩) (by assumption) ?_; rotate_left; · (intro wq hSq; have hq := HCW.out wq hSq; go_split_ands; go_simp; (try with_reducible rfl))
      try simp only [Act.put, getElem_toArray, getElem_cons_zero, getElem_cons_succ, setIfInBounds_toArray, set_cons_zero, set_cons_succ]
      refine wpAnyH_take (i := 6) (v := ?_) rfl (by kernel_rfl) (by kernel_rfl) (by kernel_rfl) (fun _ _ _ h => h) (Or.inl ⟨by rfl, ?_⟩) (by assumption) ?_; rotate_left; · (intro wq hSq; have hq := HCW.out wq hSq; go_split_ands; go_simp; (try with_reducible rfl))
      try simp only [Act.put, getElem_toArray, getElem_cons_zero, getElem_cons_succ, setIfInBounds_toArray, set_cons_zero, set_cons_succ]
      refine wpAnyH_take (i := 7) (v := ?_) rfl (by kernel_rfl) (by kernel_rfl) (by kernel_rfl) (fun _ _ _ h => h) (Or.inl ⟨by rfl, ?_⟩) (by assumption) ?_; rotate_left; · (intro wq hSq; have hq := HCW.out wq hSq; go_split_ands; go_simp; (try with_reducible rfl))
      try simp only [Act.put, getElem_toArray, getElem_cons_zero, getElem_cons_succ, setIfInBounds_toArray, set_cons_zero, set_cons_succ]
      refine wpAnyH_take (i := 8) (v := ?_) rfl (by kernel_rfl) (by kernel_rfl) (by kernel_rfl) (fun _ _ _ h => h) (Or.inl ⟨by rfl, ?_⟩) (by assumption) ?_; rotate_left; · (intro wq hSq; have hq := HCW.out wq hSq; go_split_ands; go_simp; (try with_reducible rfl))
      try simp only [Act.put, getElem_toArray, getElem_cons_zero, getElem_cons_succ, setIfInBounds_toArray, set_cons_zero, set_cons_succ]
      refine wpAnyH_take (i := 9) (v := ?_) rfl (by kernel_rfl) (by kernel_rfl) (by kernel_rfl) (fun _ _ _ h => h) (Or.inl ⟨by rfl, ?_⟩) (by assumption) ?_; rotate_left; · (intro wq hSq; have hq := HCW.out wq hSq; go_split_ands; go_simp; (try with_reducible rfl))
      try simp only [Act.put, getElem_toArray, getElem_cons_zero, getElem_cons_succ, setIfInBounds_toArray, set_cons_zero, set_cons_succ]
      refine wpAnyH_take (i := 10) (v := ?_) rfl (by kernel_rfl) (by kernel_rfl) (by kernel_rfl) (fun _ _ _ h => h) (Or.inl ⟨by rfl, ?_⟩) (by assumption) ?_; rotate_left; · (intro wq hSq; have hq := HCW.out wq hSq; go_split_ands; go_simp; (try with_reducible rfl))
      try simp only [Act.put, getElem_toArray, getElem_cons_zero, getElem_cons_succ, setIfInBounds_toArray, set_cons_zero, set_cons_succ]
      refine wpAnyH_take (i := 11) (v := ?_) rfl (by kernel_rfl) (by kernel_rfl) (by kernel_rfl) (fun _ _ _ h => h) (Or.inl ⟨by rfl, ?_⟩) (by assumption) ?_; rotate_left; · (intro wq hSq; have hq := HCW.out wq hSq; go_split_ands; go_simp; (try with_reducible rfl))
      try simp only [Act.put, getElem_toArray, getElem_cons_zero, getElem_cons_succ, setIfInBounds_toArray, set_cons_zero, set_cons_succ]
      refine wpAnyH_take (i := 12) (v := ?_) rfl (by kernel_rfl) (by kernel_rfl) (by kernel_rfl) (fun _ _ _ h => h) (Or.inl ⟨by rfl, ?_⟩) (by assumption) ?_; rotate_left; · (intro wq hSq; have hq := HCW.out wq hSq; go_split_ands; go_simp; (try with_reducible rfl))
      try simp only [Act.put, getElem_toArray, getElem_cons_zero, getElem_cons_succ, setIfInBounds_toArray, set_cons_zero, set_cons_succ]
      refine wpAnyH_take (i := 13) (v := ?_) rfl (by kernel_rfl) (by kernel_rfl) (by kernel_rfl) (fun _ _ _ h => h) (Or.inl ⟨by rfl, ?_⟩) (by assumption) ?_; rotate_left; · (intro wq hSq; have hq := HCW.out wq hSq; go_split_ands; go_simp; (try with_reducible rfl))
      try simp only [Act.put, getElem_toArray, getElem_cons_zero, getElem_cons_succ, setIfInBounds_toArray, set_cons_zero, set_cons_succ]
      refine wpAnyH_take (i := 14) (v := ?_) rfl (by kernel_rfl) (by kernel_rfl) (by kernel_rfl) (fun _ _ _ h => h) (Or.inl ⟨by rfl, ?_⟩) (by assumption) ?_; rotate_left; · (intro wq hSq; have hq := HCW.out wq hSq; go_split_ands; go_simp; (try with_reducible rfl))
      try simp only [Act.put, getElem_toArray, getElem_cons_zero, getElem_cons_succ, setIfInBounds_toArray, set_cons_zero, set_cons_succ]
      refine wpAnyH_take (i := 15) (v := ?_) rfl (by kernel_rfl) (by kernel_rfl) (by kernel_rfl) (fun _ _ _ h => h) (Or.inl ⟨by rfl, ?_⟩) (by assumption) ?_; rotate_left; · (intro wq hSq; have hq := HCW.out wq hSq; go_split_ands; go_simp; (try with_reducible rfl))
      try simp only [Act.put, getElem_toArray, getElem_cons_zero, getElem_cons_succ, setIfInBounds_toArray, set_cons_zero, set_cons_succ]
      refine wpAnyH_take (i := 16) (v := ?_) rfl (by kernel_rfl) (by kernel_rfl) (by kernel_rfl) (fun _ _ _ h => h) (Or.inl ⟨by rfl, ?_⟩) (by assumption) ?_; rotate_left; · (intro wq hSq; have hq := HCW.out wq hSq; go_split_ands; go_simp; (try with_reducible rfl))
      try simp only [Act.put, getElem_toArray, getElem_cons_zero, getElem_cons_succ, setIfInBounds_toArray, set_cons_zero, set_cons_succ]
      refine wpAnyH_take (i := 17) (v := ?_) rfl (by kernel_rfl) (by kernel_rfl) (by kernel_rfl) (fun _ _ _ h => h) (Or.inl ⟨by rfl, ?_⟩) (by assumption) ?_; rotate_left; · (intro wq hSq; have hq := HCW.out wq hSq; go_split_ands; go_simp; (try with_reducible rfl))
      try simp only [Act.put, getElem_toArray, getElem_cons_zero, getElem_cons_succ, setIfInBounds_toArray, set_cons_zero, set_cons_succ]
      refine wpAnyH_take (i := 18) (v := ?_) rfl (by kernel_rfl) (by kernel_rfl) (by kernel_rfl) (fun _ _ _ h => h) (Or.inl ⟨by rfl, ?_⟩) (by assumption) ?_; rotate_left; · (intro wq hSq; have hq := HCW.out wq hSq; go_split_ands; go_simp; (try with_reducible rfl))
      try simp only [Act.put, getElem_toArray, getElem_cons_zero, getElem_cons_succ, setIfInBounds_toArray, set_cons_zero, set_cons_succ]
      refine wpAnyH_take (i := 19) (v := ?_) rfl (by kernel_rfl) (by kernel_rfl) (by kernel_rfl) (fun _ _ _ h => h) (Or.inl ⟨by rfl, ?_⟩) (by assumption) ?_; rotate_left; · (intro wq hSq; have hq := HCW.out wq hSq; go_split_ands; go_simp; (try with_reducible rfl))
      try simp only [Act.put, getElem_toArray, getElem_cons_zero, getElem_cons_succ, setIfInBounds_toArray, set_cons_zero, set_cons_succ]
      refine wpAnyH_take (i := 20) (v := ?_) rfl (by kernel_rfl) (by kernel_rfl) (by kernel_rfl) (fun _ _ _ h => h) (Or.inl ⟨by rfl, ?_⟩) (by assumption) ?_; rotate_left; · (intro wq hSq; have hq := HCW.out wq hSq; go_split_ands; go_simp; (try with_reducible rfl))
      try simp only [Act.put, getElem_toArray, getElem_cons_zero, getElem_cons_succ, setIfInBounds_toArray, set_cons_zero, set_cons_succ]
      refine wpAnyH_take (i := 21) (v := ?_) rfl (by kernel_rfl) (by kernel_rfl) (by kernel_rfl) (fun _ _ _ h => h) (Or.inl ⟨by rfl, ?_⟩) (by assumption) ?_; rotate_left; · (intro wq hSq; have hq := HCW.out wq hSq; go_split_ands; go_simp; (try with_reducible rfl))
      try simp only [Act.put, getElem_toArray, getElem_cons_zero, getElem_cons_succ, setIfInBounds_toArray, set_cons_zero, set_cons_succ]
      refine wpAnyH_take (i := 22) (v := ?_) rfl (by kernel_rfl) (by kernel_rfl) (by kernel_rfl) (fun _ _ _ h => h) (Or.inl ⟨by rfl, ?_⟩) (by assumption) ?_; rotate_left; · (intro wq hSq; have hq := HCW.out wq hSq; go_split_ands; go_simp; (try with_reducible rfl))
      try simp only [Act.put, getElem_toArray, getElem_cons_zero, getElem_cons_succ, setIfInBounds_toArray, set_cons_zero, set_cons_succ]
      refine wpAnyH_done (by kernel_rfl) ?_ _
      go_wp2
      go_ret
      exact ⟨by simp, HF0.out.trans' hHeld⟩
    · have hb : (a3 == sub) = false := by simpa using hq
      have HQ := Lib.hid hq
      clear hq
      go_enter Try.func98, Try.ntmps98
      go_wp2
      rw [← HWA.out]
      refine wp_region_held_drew (S := fun W => Frm (fun _ => False) wa W) (by kernel_rfl) ((Frm.refl _ _).drew) (fun hHeld => ?_)
      refine wpAnyH_take (i := 0) (v := ?_) rfl (by kernel_rfl) (by kernel_rfl) (by kernel_rfl) (fun _ _ _ h => h) (Or.inl ⟨by rfl, ?_⟩) (by assumption) ?_; rotate_left; · (intro wq hSq; have hq := HCW.out wq hSq; go_split_ands; go_simp; (try with_reducible rfl))
      try simp only [Act.put, getElem_toArray, getElem_cons_zero, getElem_cons_succ, setIfInBounds_toArray, set_cons_zero, set_cons_succ]
      refine wpAnyH_take (i := 1) (v := ?_) rfl (by kernel_rfl) (by kernel_rfl) (by kernel_rfl) (fun _ _ _ h => h) (Or.inl ⟨by rfl, ?_⟩) (by assumption) ?_; rotate_left; · (intro wq hSq; have hq := HCW.out wq hSq; go_split_ands; go_simp; (try with_reducible rfl))
      try simp only [Act.put, getElem_toArray, getElem_cons_zero, getElem_cons_succ, setIfInBounds_toArray, set_cons_zero, set_cons_succ]
      refine wpAnyH_take (i := 2) (v := ?_) rfl (by kernel_rfl) (by kernel_rfl) (by kernel_rfl) (fun _ _ _ h => h) (Or.inl ⟨by rfl, ?_⟩) (by assumption) ?_; rotate_left; · (intro wq hSq; have hq := HCW.out wq hSq; go_split_ands; go_simp; (try with_reducible rfl))
      try simp only [Act.put, getElem_toArray, getElem_cons_zero, getElem_cons_succ, setIfInBounds_toArray, set_cons_zero, set_cons_succ]
      refine wpAnyH_take (i := 3) (v := ?_) rfl (by kernel_rfl) (by kernel_rfl) (by kernel_rfl) (fun _ _ _ h => h) (Or.inl ⟨by rfl, ?_⟩) (by assumption) ?_; rotate_left; · (intro wq hSq; have hq := HCW.out wq hSq; go_split_ands; go_simp; (try with_reducible rfl))
      try simp only [Act.put, getElem_toArray, getElem_cons_zero, getElem_cons_succ, setIfInBounds_toArray, set_cons_zero, set_cons_succ]
      refine wpAnyH_take (i := 4) (v := ?_) rfl (by kernel_rfl) (by kernel_rfl) (by kernel_rfl) (fun _ _ _ h => h) (Or.inl ⟨by rfl, ?_⟩) (by assumption) ?_; rotate_left; · (intro wq hSq; have hq := HCW.out wq hSq; go_split_ands; go_simp; (try with_reducible rfl))
      try simp only [Act.put, getElem_toArray, getElem_cons_zero, getElem_cons_succ, setIfInBounds_toArray, set_cons_zero, set_cons_succ]
      refine wpAnyH_take (i := 5) (v := ?_) rfl (by kernel_rfl) (by kernel_rfl) (by kernel_rfl) (fun _ _ _ h => h) (Or.inl ⟨by rfl, ?_⟩) (by assumption) ?_; rotate_left; · (intro wq hSq; have hq := HCW.out wq hSq; go_split_ands; go_simp; (try with_reducible rfl))
      try simp only [Act.put, getElem_toArray, getElem_cons_zero, getElem_cons_succ, setIfInBounds_toArray, set_cons_zero, set_cons_succ]
      refine wpAnyH_take (i := 6) (v := ?_) rfl (by kernel_rfl) (by kernel_rfl) (by kernel_rfl) (fun _ _ _ h => h) (Or.inl ⟨by rfl, ?_⟩) (by assumption) ?_; rotate_left; · (intro wq hSq; have hq := HCW.out wq hSq; go_split_ands; go_simp; (try with_reducible rfl))
      try simp only [Act.put, getElem_toArray, getElem_cons_zero, getElem_cons_succ, setIfInBounds_toArray, set_cons_zero, set_cons_succ]
      refine wpAnyH_take (i := 7) (v := ?_) rfl (by kernel_rfl) (by kernel_rfl) (by kernel_rfl) (fun _ _ _ h => h) (Or.inl ⟨by rfl, ?_⟩) (by assumption) ?_; rotate_left; · (intro wq hSq; have hq := HCW.out wq hSq; go_split_ands; go_simp; (try with_reducible rfl))
      try simp only [Act.put, getElem_toArray, getElem_cons_zero, getElem_cons_succ, setIfInBounds_toArray, set_cons_zero, set_cons_succ]
      refine wpAnyH_take (i := 8) (v := ?_) rfl (by kernel_rfl) (by kernel_rfl) (by kernel_rfl) (fun _ _ _ h => h) (Or.inl ⟨by rfl, ?_⟩) (by assumption) ?_; rotate_left; · (intro wq hSq; have hq := HCW.out wq hSq; go_split_ands; go_simp; (try with_reducible rfl))
      try simp only [Act.put, getElem_toArray, getElem_cons_zero, getElem_cons_succ, setIfInBounds_toArray, set_cons_zero, set_cons_succ]
      refine wpAnyH_take (i := 9) (v := ?_) rfl (by kernel_rfl) (by kernel_rfl) (by kernel_rfl) (fun _ _ _ h => h) (Or.inl ⟨by rfl, ?_⟩) (by assumption) ?_; rotate_left; · (intro wq hSq; have hq := HCW.out wq hSq; go_split_ands; go_simp; (try with_reducible rfl))
      try simp only [Act.put, getElem_toArray, getElem_cons_zero, getElem_cons_succ, setIfInBounds_toArray, set_cons_zero, set_cons_succ]
      refine wpAnyH_take (i := 10) (v := ?_) rfl (by kernel_rfl) (by kernel_rfl) (by kernel_rfl) (fun _ _ _ h => h) (Or.inl ⟨by rfl, ?_⟩) (by assumption) ?_; rotate_left; · (intro wq hSq; have hq := HCW.out wq hSq; go_split_ands; go_simp; (try with_reducible rfl))
      try simp only [Act.put, getElem_toArray, getElem_cons_zero, getElem_cons_succ, setIfInBounds_toArray, set_cons_zero, set_cons_succ]
      refine wpAnyH_take (i := 11) (v := ?_) rfl (by kernel_rfl) (by kernel_rfl) (by kernel_rfl) (fun _ _ _ h => h) (Or.inl ⟨by rfl, ?_⟩) (by assumption) ?_; rotate_left; · (intro wq hSq; have hq := HCW.out wq hSq; go_split_ands; go_simp; (try with_reducible rfl))
      try simp only [Act.put, getElem_toArray, getElem_cons_zero, getElem_cons_succ, setIfInBounds_toArray, set_cons_zero, set_cons_succ]
      refine wpAnyH_take (i := 12) (v := ?_) rfl (by kernel_rfl) (by kernel_rfl) (by kernel_rfl) (fun _ _ _ h => h) (Or.inl ⟨by rfl, ?_⟩) (by assumption) ?_; rotate_left; · (intro wq hSq; have hq := HCW.out wq hSq; go_split_ands; go_simp; (try with_reducible rfl))
      try simp only [Act.put, getElem_toArray, getElem_cons_zero, getElem_cons_succ, setIfInBounds_toArray, set_cons_zero, set_cons_succ]
      refine wpAnyH_take (i := 13) (v := ?_) rfl (by kernel_rfl) (by kernel_rfl) (by kernel_rfl) (fun _ _ _ h => h) (Or.inl ⟨by rfl, ?_⟩) (by assumption) ?_; rotate_left; · (intro wq hSq; have hq := HCW.out wq hSq; go_split_ands; go_simp; (try with_reducible rfl))
      try simp only [Act.put, getElem_toArray, getElem_cons_zero, getElem_cons_succ, setIfInBounds_toArray, set_cons_zero, set_cons_succ]
      refine wpAnyH_take (i := 14) (v := ?_) rfl (by kernel_rfl) (by kernel_rfl) (by kernel_rfl) (fun _ _ _ h => h) (Or.inl ⟨by rfl, ?_⟩) (by assumption) ?_; rotate_left; · (intro wq hSq; have hq := HCW.out wq hSq; go_split_ands; go_simp; (try with_reducible rfl))
      try simp only [Act.put, getElem_toArray, getElem_cons_zero, getElem_cons_succ, setIfInBounds_toArray, set_cons_zero, set_cons_succ]
      refine wpAnyH_take (i := 15) (v := ?_) rfl (by kernel_rfl) (by kernel_rfl) (by kernel_rfl) (fun _ _ _ h => h) (Or.inl ⟨by rfl, ?_⟩) (by assumption) ?_; rotate_left; · (intro wq hSq; have hq := HCW.out wq hSq; go_split_ands; go_simp; (try with_reducible rfl))
      try simp only [Act.put, getElem_toArray, getElem_cons_zero, getElem_cons_succ, setIfInBounds_toArray, set_cons_zero, set_cons_succ]
      refine wpAnyH_take (i := 16) (v := ?_) rfl (by kernel_rfl) (by kernel_rfl) (by kernel_rfl) (fun _ _ _ h => h) (Or.inl ⟨by rfl, ?_⟩) (by assumption) ?_; rotate_left; · (intro wq hSq; have hq := HCW.out wq hSq; go_split_ands; go_simp; (try with_reducible rfl))
      try simp only [Act.put, getElem_toArray, getElem_cons_zero, getElem_cons_succ, setIfInBounds_toArray, set_cons_zero, set_cons_succ]
      refine wpAnyH_take (i := 17) (v := ?_) rfl (by kernel_rfl) (by kernel_rfl) (by kernel_rfl) (fun _ _ _ h => h) (Or.inl ⟨by rfl, ?_⟩) (by assumption) ?_; rotate_left; · (intro wq hSq; have hq := HCW.out wq hSq; go_split_ands; go_simp; (try with_reducible rfl))
      try simp only [Act.put, getElem_toArray, getElem_cons_zero, getElem_cons_succ, setIfInBounds_toArray, set_cons_zero, set_cons_succ]
      refine wpAnyH_take (i := 18) (v := ?_) rfl (by kernel_rfl) (by kernel_rfl) (by kernel_rfl) (fun _ _ _ h => h) (Or.inl ⟨by rfl, ?_⟩) (by assumption) ?_; rotate_left; · (intro wq hSq; have hq := HCW.out wq hSq; go_split_ands; go_simp; (try with_reducible rfl))
      try simp only [Act.put, getElem_toArray, getElem_cons_zero, getElem_cons_succ, setIfInBounds_toArray, set_cons_zero, set_cons_succ]
      refine wpAnyH_take (i := 19) (v := ?_) rfl (by kernel_rfl) (by kernel_rfl) (by kernel_rfl) (fun _ _ _ h => h) (Or.inl ⟨by rfl, ?_⟩) (by assumption) ?_; rotate_left; · (intro wq hSq; have hq := HCW.out wq hSq; go_split_ands; go_simp; (try with_reducible rfl))
      try simp only [Act.put, getElem_toArray, getElem_cons_zero, getElem_cons_succ, setIfInBounds_toArray, set_cons_zero, set_cons_succ]
      refine wpAnyH_take (i := 20) (v := ?_) rfl (by kernel_rfl) (by kernel_rfl) (by kernel_rfl) (fun _ _ _ h => h) (Or.inl ⟨by rfl, ?_⟩) (by assumption) ?_; rotate_left; · (intro wq hSq; have hq := HCW.out wq hSq; go_split_ands; go_simp; (try with_reducible rfl))
      try simp only [Act.put, getElem_toArray, getElem_cons_zero, getElem_cons_succ, setIfInBounds_toArray, set_cons_zero, set_cons_succ]
      refine wpAnyH_take (i := 21) (v := ?_) rfl (by kernel_rfl) (by kernel_rfl) (by kernel_rfl) (fun _ _ _ h => h) (Or.inl ⟨by rfl, ?_⟩) (by assumption) ?_; rotate_left; · (intro wq hSq; have hq := HCW.out wq hSq; go_split_ands; go_simp; (try with_reducible rfl))
      try simp only [Act.put, getElem_toArray, getElem_cons_zero, getElem_cons_succ, setIfInBounds_toArray, set_cons_zero, set_cons_succ]
      refine wpAnyH_take (i := 22) (v := ?_) rfl (by kernel_rfl) (by kernel_rfl) (by kernel_rfl) (fun _ _ _ h => h) (Or.inl ⟨by rfl, ?_⟩) (by assumption) ?_; rotate_left; · (intro wq hSq; have hq := HCW.out wq hSq; go_split_ands; go_simp; (try with_reducible rfl))
      try simp only [Act.put, getElem_toArray, getElem_cons_zero, getElem_cons_succ, setIfInBounds_toArray, set_cons_zero, set_cons_succ]
      refine wpAnyH_done (by kernel_rfl) ?_ _
      go_wp2
      go_ret
      exact ⟨by simp [HQ.out], HF0.out.trans' hHeld⟩
  · have hb : (p == idx) = false := by simpa using hp
    have HQ := Lib.hid hp
    clear hp
    go_enter Try.func98, Try.ntmps98
    go_wp2
    rw [← HWA.out]
    refine wp_region_held_drew (S := fun W => Frm (fun _ => False) wa W) (by kernel_rfl) ((Frm.refl _ _).drew) (fun hHeld => ?_)
    refine wpAnyH_take (i := 0) (v := ?_) rfl (by kernel_rfl) (by kernel_rfl) (by kernel_rfl) (fun _ _ _ h => h) (Or.inl ⟨by rfl, ?_⟩) (by assumption) ?_; rotate_left; · (intro wq hSq; have hq := HCW.out wq hSq; go_split_ands; go_simp; (try with_reducible rfl))
    try simp only [Act.put, getElem_toArray, getElem_cons_zero, getElem_cons_succ, setIfInBounds_toArray, set_cons_zero, set_cons_succ]
    refine wpAnyH_take (i := 1) (v := ?_) rfl (by kernel_rfl) (by kernel_rfl) (by kernel_rfl) (fun _ _ _ h => h) (Or.inl ⟨by rfl, ?_⟩) (by assumption) ?_; rotate_left; · (intro wq hSq; have hq := HCW.out wq hSq; go_split_ands; go_simp; (try with_reducible rfl))
    try simp only [Act.put, getElem_toArray, getElem_cons_zero, getElem_cons_succ, setIfInBounds_toArray, set_cons_zero, set_cons_succ]
    refine wpAnyH_take (i := 2) (v := ?_) rfl (by kernel_rfl) (by kernel_rfl) (by kernel_rfl) (fun _ _ _ h => h) (Or.inl ⟨by rfl, ?_⟩) (by assumption) ?_; rotate_left; · (intro wq hSq; have hq := HCW.out wq hSq; go_split_ands; go_simp; (try with_reducible rfl))
    try simp only [Act.put, getElem_toArray, getElem_cons_zero, getElem_cons_succ, setIfInBounds_toArray, set_cons_zero, set_cons_succ]
    refine wpAnyH_take (i := 3) (v := ?_) rfl (by kernel_rfl) (by kernel_rfl) (by kernel_rfl) (fun _ _ _ h => h) (Or.inl ⟨by rfl, ?_⟩) (by assumption) ?_; rotate_left; · (intro wq hSq; have hq := HCW.out wq hSq; go_split_ands; go_simp; (try with_reducible rfl))
    try simp only [Act.put, getElem_toArray, getElem_cons_zero, getElem_cons_succ, setIfInBounds_toArray, set_cons_zero, set_cons_succ]
    refine wpAnyH_take (i := 4) (v := ?_) rfl (by kernel_rfl) (by kernel_rfl) (by kernel_rfl) (fun _ _ _ h => h) (Or.inl ⟨by rfl, ?_⟩) (by assumption) ?_; rotate_left; · (intro wq hSq; have hq := HCW.out wq hSq; go_split_ands; go_simp; (try with_reducible rfl))
    try simp only [Act.put, getElem_toArray, getElem_cons_zero, getElem_cons_succ, setIfInBounds_toArray, set_cons_zero, set_cons_succ]
    refine wpAnyH_take (i := 5) (v := ?_) rfl (by kernel_rfl) (by kernel_rfl) (by kernel_rfl) (fun _ _ _ h => h) (Or.inl ⟨by rfl, ?_⟩) (by assumption) ?_; rotate_left; · (intro wq hSq; have hq := HCW.out wq hSq; go_split_ands; go_simp; (try with_reducible rfl))
    try simp only [Act.put, getElem_toArray, getElem_cons_zero, getElem_cons_succ, setIfInBounds_toArray, set_cons_zero, set_cons_succ]
    refine wpAnyH_take (i := 6) (v := ?_) rfl (by kernel_rfl) (by kernel_rfl) (by kernel_rfl) (fun _ _ _ h => h) (Or.inl ⟨by rfl, ?_⟩) (by assumption) ?_; rotate_left; · (intro wq hSq; have hq := HCW.out wq hSq; go_split_ands; go_simp; (try with_reducible rfl))
    try simp only [Act.put, getElem_toArray, getElem_cons_zero, getElem_cons_succ, setIfInBounds_toArray, set_cons_zero, set_cons_succ]
    refine wpAnyH_take (i := 7) (v := ?_) rfl (by kernel_rfl) (by kernel_rfl) (by kernel_rfl) (fun _ _ _ h => h) (Or.inl ⟨by rfl, ?_⟩) (by assumption) ?_; rotate_left; · (intro wq hSq; have hq := HCW.out wq hSq; go_split_ands; go_simp; (try with_reducible rfl))
    try simp only [Act.put, getElem_toArray, getElem_cons_zero, getElem_cons_succ, setIfInBounds_toArray, set_cons_zero, set_cons_succ]
    refine wpAnyH_take (i := 8) (v := ?_) rfl (by kernel_rfl) (by kernel_rfl) (by kernel_rfl) (fun _ _ _ h => h) (Or.inl ⟨by rfl, ?_⟩) (by assumption) ?_; rotate_left; · (intro wq hSq; have hq := HCW.out wq hSq; go_split_ands; go_simp; (try with_reducible rfl))
    try simp only [Act.put, getElem_toArray, getElem_cons_zero, getElem_cons_succ, setIfInBounds_toArray, set_cons_zero, set_cons_succ]
    refine wpAnyH_take (i := 9) (v := ?_) rfl (by kernel_rfl) (by kernel_rfl) (by kernel_rfl) (fun _ _ _ h => h) (Or.inl ⟨by rfl, ?_⟩) (by assumption) ?_; rotate_left; · (intro wq hSq; have hq := HCW.out wq hSq; go_split_ands; go_simp; (try with_reducible rfl))
    try simp only [Act.put, getElem_toArray, getElem_cons_zero, getElem_cons_succ, setIfInBounds_toArray, set_cons_zero, set_cons_succ]
    refine wpAnyH_take (i := 10) (v := ?_) rfl (by kernel_rfl) (by kernel_rfl) (by kernel_rfl) (fun _ _ _ h => h) (Or.inl ⟨by rfl, ?_⟩) (by assumption) ?_; rotate_left; · (intro wq hSq; have hq := HCW.out wq hSq; go_split_ands; go_simp; (try with_reducible rfl))
    try simp only [Act.put, getElem_toArray, getElem_cons_zero, getElem_cons_succ, setIfInBounds_toArray, set_cons_zero, set_cons_succ]
    refine wpAnyH_take (i := 11) (v := ?_) rfl (by kernel_rfl) (by kernel_rfl) (by kernel_rfl) (fun _ _ _ h => h) (Or.inl ⟨by rfl, ?_⟩) (by assumption) ?_; rotate_left; · (intro wq hSq; have hq := HCW.out wq hSq; go_split_ands; go_simp; (try with_reducible rfl))
    try simp only [Act.put, getElem_toArray, getElem_cons_zero, getElem_cons_succ, setIfInBounds_toArray, set_cons_zero, set_cons_succ]
    refine wpAnyH_take (i := 12) (v := ?_) rfl (by kernel_rfl) (by kernel_rfl) (by kernel_rfl) (fun _ _ _ h => h) (Or.inl ⟨by rfl, ?_⟩) (by assumption) ?_; rotate_left; · (intro wq hSq; have hq := HCW.out wq hSq; go_split_ands; go_simp; (try with_reducible rfl))
    try simp only [Act.put, getElem_toArray, getElem_cons_zero, getElem_cons_succ, setIfInBounds_toArray, set_cons_zero, set_cons_succ]
    refine wpAnyH_take (i := 13) (v := ?_) rfl (by kernel_rfl) (by kernel_rfl) (by kernel_rfl) (fun _ _ _ h => h) (Or.inl ⟨by rfl, ?_⟩) (by assumption) ?_; rotate_left; · (intro wq hSq; have hq := HCW.out wq hSq; go_split_ands; go_simp; (try with_reducible rfl))
    try simp only [Act.put, getElem_toArray, getElem_cons_zero, getElem_cons_succ, setIfInBounds_toArray, set_cons_zero, set_cons_succ]
    refine wpAnyH_take (i := 14) (v := undef) rfl (by kernel_rfl) (by kernel_rfl) (by kernel_rfl) (fun _ _ _ h => h) (Or.inr ⟨by rfl, rfl⟩) (by assumption) ?_
    try simp only [Act.put, getElem_toArray, getElem_cons_zero, getElem_cons_succ, setIfInBounds_toArray, set_cons_zero, set_cons_succ]
    refine wpAnyH_take (i := 15) (v := undef) rfl (by kernel_rfl) (by kernel_rfl) (by kernel_rfl) (fun _ _ _ h => h) (Or.inr ⟨by rfl, rfl⟩) (by assumption) ?_
    try simp only [Act.put, getElem_toArray, getElem_cons_zero, getElem_cons_succ, setIfInBounds_toArray, set_cons_zero, set_cons_succ]
    refine wpAnyH_take (i := 16) (v := undef) rfl (by kernel_rfl) (by kernel_rfl) (by kernel_rfl) (fun _ _ _ h => h) (Or.inr ⟨by rfl, rfl⟩) (by assumption) ?_
    try simp only [Act.put, getElem_toArray, getElem_cons_zero, getElem_cons_succ, setIfInBounds_toArray, set_cons_zero, set_cons_succ]
    refine wpAnyH_take (i := 17) (v := undef) rfl (by kernel_rfl) (by kernel_rfl) (by kernel_rfl) (fun _ _ _ h => h) (Or.inr ⟨by rfl, rfl⟩) (by assumption) ?_
    try simp only [Act.put, getElem_toArray, getElem_cons_zero, getElem_cons_succ, setIfInBounds_toArray, set_cons_zero, set_cons_succ]
    refine wpAnyH_take (i := 18) (v := undef) rfl (by kernel_rfl) (by kernel_rfl) (by kernel_rfl) (fun _ _ _ h => h) (Or.inr ⟨by rfl, rfl⟩) (by assumption) ?_
    try simp only [Act.put, getElem_toArray, getElem_cons_zero, getElem_cons_succ, setIfInBounds_toArray, set_cons_zero, set_cons_succ]
    refine wpAnyH_take (i := 19) (v := undef) rfl (by kernel_rfl) (by kernel_rfl) (by kernel_rfl) (fun _ _ _ h => h) (Or.inr ⟨by rfl, rfl⟩) (by assumption) ?_
    try simp only [Act.put, getElem_toArray, getElem_cons_zero, getElem_cons_succ, setIfInBounds_toArray, set_cons_zero, set_cons_succ]
    refine wpAnyH_take (i := 20) (v := undef) rfl (by kernel_rfl) (by kernel_rfl) (by kernel_rfl) (fun _ _ _ h => h) (Or.inr ⟨by rfl, rfl⟩) (by assumption) ?_
    try simp only [Act.put, getElem_toArray, getElem_cons_zero, getElem_cons_succ, setIfInBounds_toArray, set_cons_zero, set_cons_succ]
    refine wpAnyH_take (i := 21) (v := ?_) rfl (by kernel_rfl) (by kernel_rfl) (by kernel_rfl) (fun _ _ _ h => h) (Or.inl ⟨by rfl, ?_⟩) (by assumption) ?_; rotate_left; · (intro wq hSq; have hq := HCW.out wq hSq; go_split_ands; go_simp; (try with_reducible rfl))
    try simp only [Act.put, getElem_toArray, getElem_cons_zero, getElem_cons_succ, setIfInBounds_toArray, set_cons_zero, set_cons_succ]
    refine wpAnyH_take (i := 22) (v := ?_) rfl (by kernel_rfl) (by kernel_rfl) (by kernel_rfl) (fun _ _ _ h => h) (Or.inl ⟨by rfl, ?_⟩) (by assumption) ?_; rotate_left; · (intro wq hSq; have hq := HCW.out wq hSq; go_split_ands; go_simp; (try with_reducible rfl))
    try simp only [Act.put, getElem_toArray, getElem_cons_zero, getElem_cons_succ, setIfInBounds_toArray, set_cons_zero, set_cons_succ]
    refine wpAnyH_done (by kernel_rfl) ?_ _
    go_wp2
    go_ret
    exact ⟨by simp [HQ.out], HF0.out.trans' hHeld⟩
theorem fbytes_len (f : F8) : f.bytes.length = 8 := rfl
theorem u8I_enc (x : Int) (h0 : 0 ≤ x) (h1 : x ≤ 255) : encB (u8I x) = .int .u8 x := by
  unfold u8I
  exact encB_ofD x h0 h1
theorem fbytes_enc {f : F8} (hf : f.ok) : f.bytes.map encB = f.c.toList := by
  obtain ⟨a0, a1, a2, a3, a4, a5, a6, a7⟩ := f
  obtain ⟨h0, h1, h2, h3, h4, h5, h6, h7⟩ := hf
  simp only [byteI] at *
  simp only [F8.bytes, F8.c, List.map_cons, List.map_nil, u8I_enc _ h0.1 h0.2, u8I_enc _ h1.1 h1.2, u8I_enc _ h2.1 h2.2, u8I_enc _ h3.1 h3.2, u8I_enc _ h4.1 h4.2, u8I_enc _ h5.1 h5.2, u8I_enc _ h6.1 h6.2, u8I_enc _ h7.1 h7.2]
/-- Bytes of a frame in memory. -/
theorem fbytes_at {w : World} {g : Nat} {f : F8} (hg : w.heap[g]? = some (.cells f.c 73 (0, 0))) (hf : f.ok) (o n cap : Nat) (hn : o + n ≤ 8) (hc : n ≤ cap) (hm : cap ≤ 8) : BytesAt w (.slice (some ⟨g, o, none⟩) n cap) ((f.bytes.drop o).take n) := by
  have hl : ((f.bytes.drop o).take n).length = n := by rw [List.length_take, List.length_drop, fbytes_len]; omega
  refine ⟨_, cap, by rw [hl], by rw [hl]; exact hc, Nat.le_trans hm (by unfold maxLen; omega), fun h0 => ⟨g, o, rfl, fun i hi => ?_⟩⟩
  rw [hl] at hi
  rw [cell_at hg]
  have e := congrArg (fun l => l[o + i]?) (fbytes_enc hf)
  simp only [List.getElem?_map, Array.getElem?_toList] at e
  rw [← e]
  have hx : o + i < f.bytes.length := by rw [fbytes_len]; omega
  rw [List.getElem?_eq_getElem hx, Option.map_some, List.getD_eq_getElem?_getD, List.getElem?_take, if_pos hi, List.getElem?_drop, List.getElem?_eq_getElem hx]
  rfl
theorem slice_f8 (W : World) (g l n : Nat) (x y : Int) (hx : x = (l : Int)) (hy : y = ((l + n : Nat) : Int)) (h : l + n ≤ 8) (hl : l < 8) : (Instr.sliceAt 73 (.pointer (some ⟨g, 0, none⟩)) (some (.int .i64 x)) (some (.int .i64 y)) none).run Try.prog W = .ok (.slice (some ⟨g, l, none⟩) n (8 - l)) W := by
  have hu : Try.prog.underlying 73 = some (.array (Try.prog.arrayLen 73) (Try.prog.elem 73)) := by kernel_rfl
  have hl8 : Try.prog.arrayLen 73 = 8 := by kernel_rfl
  have he : Try.prog.elem 73 = 5 := by kernel_rfl
  rw [run_sliceAt_array_lh W 73 _ hu .i64 .i64 _ _ (by omega) (by omega) (by rw [hl8]; omega), he, size_u8]
  have e1 : y.toNat = l + n := by omega
  have e0 : x.toNat = l := by omega
  simp only [Result.andThen, slicedAt, e1, e0, hl8]
  rw [if_neg (by omega)]
  simp only [Nat.mul_one, add_zero', Nat.add_sub_cancel_left]
def FstPost (M : Nat → Prop) (c : Nat) (s : Cl) (f : F8) (w : World) (e : Ending) (w' : World) : Prop := e = .returned (.tuple #[(s.first f).2.1.v, .bool (s.first f).2.2]) ∧ ClPost M w c (s.first f).1 w'
set_option maxRecDepth 100000 in
set_option maxHeartbeats 2000000 in
theorem cfirst_any (M : Nat → Prop) (c : Nat) (s : Cl) (f : F8) (w : World) (h : ClHas M w c s) (hf : f.ok) (hw4 : s.waits = 4) : Calls Try.prog 115 #[ptr c, f.v] w (FstPost M c s f w) := by
  have H := Lib.hid h
  obtain ⟨hok, hM, hlt, vb, vr, hc, hb, hr, hvb, hvr, ho, hn⟩ := h
  have HC := Lib.hid hc
  have hclt := lt_of_block hc
  have HM : Hid (M c) := hM
  have HF := Lib.hid hf
  have hf0 := hf.h0
  obtain ⟨hf00, hf01⟩ := hf0
  obtain ⟨a0, ha0⟩ : ∃ a0, a0 = f.a0 := ⟨_, rfl⟩
  rw [← ha0] at hf00 hf01
  have b1 := u8_and1 a0 hf00 hf01
  have b2 := u8_and2 a0 hf00 hf01
  have b3 := u8_and3 (a0 / 4) (by omega) (by omega)
  have HA0 := Lib.hid ha0
  by_cases hx : a0 / 2 % 2 = 1
  · have e : s.first f = (Cl.ends ((f.bytes.drop 4).take (nowN a0).toNat) 0, F8.zero, false) := by unfold Cl.first; rw [← ha0, if_pos hx]
    have HE := Lib.hid e
    have hx2 : (2 * (a0 / 2 % 2) != 0) = true := by rw [hx]; decide
    unfold ptr F8.v
    clear hc hb hr hvb hvr ho hn e hok hM hlt ha0 hx hf
    go_enter Try.func115, Try.ntmps115
    go_upto_region 1 with fail
    have hbx : ((w.alloc (.cells f.c 73 (0, 0))).alloc (.cells #[.int .u8 0, .int .u8 0, .int .u8 0, .int .u8 0, .int .u8 0, .int .u8 0, .int .u8 0, .int .u8 0] 73 (0, 0))).heap[w.heap.size]? = some (.cells f.c 73 (0, 0)) := heap_alloc_old (heap_new w _)
    have hrt : ((w.alloc (.cells f.c 73 (0, 0))).alloc (.cells #[.int .u8 0, .int .u8 0, .int .u8 0, .int .u8 0, .int .u8 0, .int .u8 0, .int .u8 0, .int .u8 0] 73 (0, 0))).heap[w.heap.size + 1]? = some (.cells #[.int .u8 0, .int .u8 0, .int .u8 0, .int .u8 0, .int .u8 0, .int .u8 0, .int .u8 0, .int .u8 0] 73 (0, 0)) := heap_new_at (by simp)
    have hfb : Frm (fun _ => False) w ((w.alloc (.cells f.c 73 (0, 0))).alloc (.cells #[.int .u8 0, .int .u8 0, .int .u8 0, .int .u8 0, .int .u8 0, .int .u8 0, .int .u8 0, .int .u8 0] 73 (0, 0))) := by (repeat' (first | (with_reducible exact Frm.refl _ _) | (with_reducible assumption) | (with_reducible refine Frm.alloc ?_ _) | (with_reducible refine Frm.drew ?_) | (with_reducible refine Frm.drewN ?_ _) | (with_reducible refine Frm.set1 ?_ _) | (with_reducible refine Frm.setCell ?_ ?_ _) | (exact fun h => absurd h (Nat.lt_irrefl _)) | (intro hlt; simp [World.size_alloc, One] at hlt ⊢; omega)))
    obtain ⟨wb, hwb⟩ : ∃ wb, wb = (w.alloc (.cells f.c 73 (0, 0))).alloc (.cells #[.int .u8 0, .int .u8 0, .int .u8 0, .int .u8 0, .int .u8 0, .int .u8 0, .int .u8 0, .int .u8 0] 73 (0, 0)) := ⟨_, rfl⟩
    rw [← hwb] at hbx hrt hfb ⊢
    have HBX := Lib.hid hbx
    have HRT := Lib.hid hrt
    have HFB := Lib.hid hfb
    have hwbs := lt_of_block hrt
    clear hbx hrt hfb hwb
    have k0 : wb.cell? ⟨w.heap.size, 0, none⟩ = some (.int .u8 a0) := by rw [HA0.out]; exact cell_at HBX.out
    obtain ⟨n, hn⟩ : ∃ n : Nat, (n : Int) = nowN a0 := ⟨(nowN a0).toNat, by unfold nowN; split <;> omega⟩
    have hn1 : 1 ≤ n ∧ n ≤ 4 := by unfold nowN at hn; split at hn <;> omega
    have HN := Lib.hid hn
    have hft := fbytes_at (HBX.out) HF.out 4 n 4 (by omega) (by omega) (by omega)
    have hfl : ((f.bytes.drop 4).take n).length = n := by rw [List.length_take, List.length_drop, fbytes_len]; omega
    have HCL := Lib.hid (fun W (hF : Frm (fun _ => False) wb W) => clone_any _ _ W (hft.grow hF) (by omega))
    have HFL := Lib.hid hfl
    unfold CloneP at HCL
    obtain ⟨hn1, hn2⟩ := hn1
    clear hft hfl
    by_cases hs : a0 % 2 = 1
    · have hb1 : (a0 % 2 == 1) = true := by simpa using hs
      have hnn : 4 - a0 / 4 % 4 = (n : Int) := by rw [hn]; unfold nowN; rw [if_pos hs]
      clear hn
      have hsl := fun W => slice_f8 W w.heap.size 4 n 4 (4 + (n : Int)) rfl (by omega) (by omega) (by decide)
      go_wp2_with fail
      refine (HCL.out _ (by (repeat' (first | (with_reducible exact Frm.refl _ _) | (with_reducible assumption) | (with_reducible refine Frm.alloc ?_ _) | (with_reducible refine Frm.drew ?_) | (with_reducible refine Frm.drewN ?_ _) | (with_reducible refine Frm.set1 ?_ _) | (with_reducible refine Frm.setCell ?_ ?_ _) | (exact fun h => absurd h (Nat.lt_irrefl _)) | (intro hlt; simp [World.size_alloc, One] at hlt ⊢; omega))))).mono ?_
      rintro e w1 ⟨v1, rfl, hO1, hF1⟩
      have HO1 := Lib.hid hO1
      obtain ⟨A1, c1, rfl, hl1, hl2, _⟩ := row_open hO1
      rw [HFL.out] at HO1 ⊢
      have HF1 := Lib.hid hF1
      have hE := cends_any c _ A1 n c1 0 w1 (hF1.heap (HFB.out.heap HC.out (fun h => h)) (fun h => h)) (clC_size _ _ _)
      have HE1 := Lib.hid hE
      have hws := hF1.size
      clear hO1 hF1 hE hl1 hl2
      go_wp2_with fail
      refine HE1.out.mono ?_
      rintro e w2 ⟨rfl, hc2, hF2⟩
      have HC2 := Lib.hid hc2
      have HF2 := Lib.hid hF2
      have hRt : w2.heap[w.heap.size + 1]? = some (.cells #[.int .u8 0, .int .u8 0, .int .u8 0, .int .u8 0, .int .u8 0, .int .u8 0, .int .u8 0, .int .u8 0] 73 (0, 0)) := hF2.heap (HF1.out.heap HRT.out (fun h => h)) (by simp only [One]; omega)
      have HRt := Lib.hid hRt
      clear hc2 hF2 hRt
      go_wp2_with (refine wpl_store_whole rfl 73 (.tmp 4) (.tmp 28) rfl (w.heap.size + 1) F8.zero.c rfl rfl 73 _ HRt.out info_f8 rfl (F8.one _) ?_; intro wz hwz hFz; have HWZ := Lib.hid hwz; have HFZ := Lib.hid hFz; clear hwz hFz)
      have hFx : Frm (One c) w wz := (((HFB.out.trans' HF1.out).mono (fun _ _ h => h.elim)).trans HF2.out (fun i hi h => h)).trans HFZ.out (fun i hi h => by simp only [One] at h; omega)
      have hO3 : Own8 wb.heap.size wz (.slice A1 n c1) ((f.bytes.drop 4).take n) := HFZ.out.row (HF2.out.row HO1.out (fun k hk h => by have := (HO1.out.blk hk).1; simp only [One] at h; omega)) (fun k hk h => by have := (HO1.out.blk hk).1; simp only [One] at h; omega)
      have hnn : (nowN a0).toNat = n := by have := HN.out; omega
      refine bodyPost_ret (ret_f8b rfl _ _ (w.heap.size + 1) F8.zero.c rfl rfl HWZ.out) rfl ?_
      unfold FstPost
      rw [HE.out, hnn]
      exact ⟨rfl, ClPost.lay H.out (hFx.mono (fun i _ hi => by rw [hi]; exact HM.out)) (ends_ok (by rw [HFL.out]; omega) (by decide)) (HFZ.out.heap HC2.out (by simp only [One]; omega)) (nil_bytes _) (BytesAt.of_row hO3) (fun k hk => absurd hk (nil_block k)) (fun k hk => ⟨.inr ⟨by have := (hO3.blk hk).1; omega, (hO3.blk hk).2⟩, by have := (hO3.blk hk).1; omega⟩) (fun h => by rcases h with h | h <;> exact absurd h (by show ¬ (0 : Int) = _; decide)) (fun h => absurd rfl h)⟩
    · have hb1 : (a0 % 2 == 1) = false := by simpa using hs
      have hnn : n = 4 := by unfold nowN at hn; rw [if_neg hs] at hn; omega
      clear hn
      subst hnn
      go_wp2_with fail
      refine (HCL.out _ (by (repeat' (first | (with_reducible exact Frm.refl _ _) | (with_reducible assumption) | (with_reducible refine Frm.alloc ?_ _) | (with_reducible refine Frm.drew ?_) | (with_reducible refine Frm.drewN ?_ _) | (with_reducible refine Frm.set1 ?_ _) | (with_reducible refine Frm.setCell ?_ ?_ _) | (exact fun h => absurd h (Nat.lt_irrefl _)) | (intro hlt; simp [World.size_alloc, One] at hlt ⊢; omega))))).mono ?_
      rintro e w1 ⟨v1, rfl, hO1, hF1⟩
      have HO1 := Lib.hid hO1
      obtain ⟨A1, c1, rfl, hl1, hl2, _⟩ := row_open hO1
      rw [HFL.out] at HO1 ⊢
      have HF1 := Lib.hid hF1
      have hE := cends_any c _ A1 4 c1 0 w1 (hF1.heap (HFB.out.heap HC.out (fun h => h)) (fun h => h)) (clC_size _ _ _)
      have HE1 := Lib.hid hE
      have hws := hF1.size
      clear hO1 hF1 hE hl1 hl2
      go_wp2_with fail
      refine HE1.out.mono ?_
      rintro e w2 ⟨rfl, hc2, hF2⟩
      have HC2 := Lib.hid hc2
      have HF2 := Lib.hid hF2
      have hRt : w2.heap[w.heap.size + 1]? = some (.cells #[.int .u8 0, .int .u8 0, .int .u8 0, .int .u8 0, .int .u8 0, .int .u8 0, .int .u8 0, .int .u8 0] 73 (0, 0)) := hF2.heap (HF1.out.heap HRT.out (fun h => h)) (by simp only [One]; omega)
      have HRt := Lib.hid hRt
      clear hc2 hF2 hRt
      go_wp2_with (refine wpl_store_whole rfl 73 (.tmp 4) (.tmp 28) rfl (w.heap.size + 1) F8.zero.c rfl rfl 73 _ HRt.out info_f8 rfl (F8.one _) ?_; intro wz hwz hFz; have HWZ := Lib.hid hwz; have HFZ := Lib.hid hFz; clear hwz hFz)
      have hFx : Frm (One c) w wz := (((HFB.out.trans' HF1.out).mono (fun _ _ h => h.elim)).trans HF2.out (fun i hi h => h)).trans HFZ.out (fun i hi h => by simp only [One] at h; omega)
      have hO3 : Own8 wb.heap.size wz (.slice A1 4 c1) ((f.bytes.drop 4).take 4) := HFZ.out.row (HF2.out.row HO1.out (fun k hk h => by have := (HO1.out.blk hk).1; simp only [One] at h; omega)) (fun k hk h => by have := (HO1.out.blk hk).1; simp only [One] at h; omega)
      have hnn : (nowN a0).toNat = 4 := by have := HN.out; omega
      refine bodyPost_ret (ret_f8b rfl _ _ (w.heap.size + 1) F8.zero.c rfl rfl HWZ.out) rfl ?_
      unfold FstPost
      rw [HE.out, hnn]
      exact ⟨rfl, ClPost.lay H.out (hFx.mono (fun i _ hi => by rw [hi]; exact HM.out)) (ends_ok (by rw [HFL.out]; omega) (by decide)) (HFZ.out.heap HC2.out (by simp only [One]; omega)) (nil_bytes _) (BytesAt.of_row hO3) (fun k hk => absurd hk (nil_block k)) (fun k hk => ⟨.inr ⟨by have := (hO3.blk hk).1; omega, (hO3.blk hk).2⟩, by have := (hO3.blk hk).1; omega⟩) (fun h => by rcases h with h | h <;> exact absurd h (by show ¬ (0 : Int) = _; decide)) (fun h => absurd rfl h)⟩
  · have hx2 : (2 * (a0 / 2 % 2) != 0) = false := by rw [show a0 / 2 % 2 = 0 by omega]; decide
    have HXN := Lib.hid hx
    have hnum : 0 ≤ f.num ∧ f.num ≤ 4294967295 := by
      have := hf.h4; have := hf.h5; have := hf.h6; have := hf.h7
      unfold byteI at *
      unfold F8.num
      omega
    have HNU := Lib.hid (fun W => cnumber_any f W hf)
    have HGV := Lib.hid (fun W (hF : Frm (fun _ => False) w W) => cgives_any c s vb vr 84148229 W (hF.heap hc (fun h => h)) hok.hi (by decide))
    have HVB := Lib.hid hvb
    have HVR := Lib.hid hvr
    have HB := Lib.hid hb
    have HR := Lib.hid hr
    have HO := Lib.hid (ho (.inl hw4))
    have HN4 := Lib.hid (hn (by rw [hw4]; decide))
    have HOK := Lib.hid hok
    obtain ⟨nu, hnu⟩ : ∃ nu, nu = f.num := ⟨_, rfl⟩
    have HNQ := Lib.hid hnu
    rw [← hnu] at hnum HNU
    obtain ⟨hn0, hn1⟩ := hnum
    obtain ⟨s0, s1, s2, s3, s4, s5, s6, s7, s8, s9⟩ := s
    simp only at *
    by_cases hs : a0 % 2 = 1
    · have hb1 : (a0 % 2 == 1) = true := by simpa using hs
      by_cases hbig : 65536 < nu
      · have e : Cl.first ⟨s0, s1, s2, s3, s4, s5, s6, s7, s8, s9⟩ f = Cl.gives ⟨s0, s1, s2, s3, s4, s5, s6, s7, s8, s9⟩ 84148229 := by unfold Cl.first; rw [← ha0, if_neg hx, if_pos ⟨hs, by rw [← hnu]; exact hbig⟩]
        have HE := Lib.hid e
        unfold Cl.gives at HE
        generalize fr8 128 _ _ 84148229 = f2 at *
        unfold ptr F8.v at *
        clear hc hb hr hvb hvr ho hn e hok hM hlt ha0 hx hf hs hnu hw4
        go_enter Try.func115, Try.ntmps115
        go_upto_region 1 with fail
        have hbx : ((w.alloc (.cells f.c 73 (0, 0))).alloc (.cells #[.int .u8 0, .int .u8 0, .int .u8 0, .int .u8 0, .int .u8 0, .int .u8 0, .int .u8 0, .int .u8 0] 73 (0, 0))).heap[w.heap.size]? = some (.cells f.c 73 (0, 0)) := heap_alloc_old (heap_new w _)
        have hrt : ((w.alloc (.cells f.c 73 (0, 0))).alloc (.cells #[.int .u8 0, .int .u8 0, .int .u8 0, .int .u8 0, .int .u8 0, .int .u8 0, .int .u8 0, .int .u8 0] 73 (0, 0))).heap[w.heap.size + 1]? = some (.cells #[.int .u8 0, .int .u8 0, .int .u8 0, .int .u8 0, .int .u8 0, .int .u8 0, .int .u8 0, .int .u8 0] 73 (0, 0)) := heap_new_at (by simp)
        have hfb : Frm (fun _ => False) w ((w.alloc (.cells f.c 73 (0, 0))).alloc (.cells #[.int .u8 0, .int .u8 0, .int .u8 0, .int .u8 0, .int .u8 0, .int .u8 0, .int .u8 0, .int .u8 0] 73 (0, 0))) := by (repeat' (first | (with_reducible exact Frm.refl _ _) | (with_reducible assumption) | (with_reducible refine Frm.alloc ?_ _) | (with_reducible refine Frm.drew ?_) | (with_reducible refine Frm.drewN ?_ _) | (with_reducible refine Frm.set1 ?_ _) | (with_reducible refine Frm.setCell ?_ ?_ _) | (exact fun h => absurd h (Nat.lt_irrefl _)) | (intro hlt; simp [World.size_alloc, One] at hlt ⊢; omega)))
        obtain ⟨wb, hwb⟩ : ∃ wb, wb = (w.alloc (.cells f.c 73 (0, 0))).alloc (.cells #[.int .u8 0, .int .u8 0, .int .u8 0, .int .u8 0, .int .u8 0, .int .u8 0, .int .u8 0, .int .u8 0] 73 (0, 0)) := ⟨_, rfl⟩
        rw [← hwb] at hbx hrt hfb ⊢
        have HBX := Lib.hid hbx
        have HRT := Lib.hid hrt
        have HFB := Lib.hid hfb
        have hwbs := lt_of_block hrt
        clear hbx hrt hfb hwb
        have k0 : wb.cell? ⟨w.heap.size, 0, none⟩ = some (.int .u8 a0) := by rw [HA0.out]; exact cell_at HBX.out
        go_wp2_with (first | (refine wpList_load_row rfl 73 (.tmp 3) rfl w.heap.size rfl 73 f.c (0, 0) _ HBX.out Try.underlying73 rfl (by first | exact info_f8 | (rw [F8.size]; exact info_f8)) ?_) | (go_at_call 96; refine (HNU.out _).mono ?_; rintro e w1 ⟨rfl, hF1⟩; have HF1 := Lib.hid hF1; clear hF1) | (go_at_call 73; refine (HGV.out _ (HFB.out.trans' HF1.out)).mono ?_; rintro e w2 ⟨rfl, hc2, hF2⟩; have HC2 := Lib.hid hc2; have HF2 := Lib.hid hF2; have HR2 : Hid (w2.heap[w.heap.size + 1]? = some (.cells #[.int .u8 0, .int .u8 0, .int .u8 0, .int .u8 0, .int .u8 0, .int .u8 0, .int .u8 0, .int .u8 0] 73 (0, 0))) := hF2.heap (HF1.out.heap HRT.out (fun h => h)) (by simp only [One]; omega); clear hc2 hF2) | (refine wpl_store_whole rfl 73 (.tmp 4) (.tmp 38) rfl (w.heap.size + 1) f2.c rfl rfl 73 _ HR2.out info_f8 rfl (F8.one _) ?_; intro wz hwz hFz; have HW3 := Lib.hid hwz; have HF3 := Lib.hid hFz; clear hwz hFz))
        have hFx : Frm (One c) w wz := (((HFB.out.trans' HF1.out).mono (fun _ _ h => h.elim)).trans HF2.out (fun i hi h => h)).trans HF3.out (fun i hi h => by simp only [One] at h; omega)
        refine bodyPost_ret (ret_f8b rfl _ _ (w.heap.size + 1) f2.c rfl rfl HW3.out) rfl ?_
        unfold FstPost
        rw [HE.out]
        exact ⟨rfl, ClPost.over H.out hFx (by decide) (HF3.out.heap HC2.out (by simp only [One]; omega))⟩
      · have e : Cl.first ⟨s0, s1, s2, s3, s4, s5, s6, s7, s8, s9⟩ f = (⟨5, s1, s2, s3, s4, s5, nu, s7, s8, s9⟩, ⟨96, 0, 0, 0, 0, 0, 0, 0⟩, true) := by unfold Cl.first; rw [← ha0, if_neg hx, if_neg (fun h => hbig (by rw [hnu]; exact h.2))]; simp only [hs, ← hnu, if_true]
        have HE := Lib.hid e
        have hsm : nu ≤ 65536 := by omega
        have hcv : IntKind.i64.wrap nu = nu := IntWalk.i64_in _ (by omega)
        unfold ptr F8.v at *
        clear hc hb hr hvb hvr ho hn e hok hM hlt ha0 hx hf hs hnu hw4 hbig
        go_enter Try.func115, Try.ntmps115
        go_upto_region 1 with fail
        have hbx : ((w.alloc (.cells f.c 73 (0, 0))).alloc (.cells #[.int .u8 0, .int .u8 0, .int .u8 0, .int .u8 0, .int .u8 0, .int .u8 0, .int .u8 0, .int .u8 0] 73 (0, 0))).heap[w.heap.size]? = some (.cells f.c 73 (0, 0)) := heap_alloc_old (heap_new w _)
        have hrt : ((w.alloc (.cells f.c 73 (0, 0))).alloc (.cells #[.int .u8 0, .int .u8 0, .int .u8 0, .int .u8 0, .int .u8 0, .int .u8 0, .int .u8 0, .int .u8 0] 73 (0, 0))).heap[w.heap.size + 1]? = some (.cells #[.int .u8 0, .int .u8 0, .int .u8 0, .int .u8 0, .int .u8 0, .int .u8 0, .int .u8 0, .int .u8 0] 73 (0, 0)) := heap_new_at (by simp)
        have hfb : Frm (fun _ => False) w ((w.alloc (.cells f.c 73 (0, 0))).alloc (.cells #[.int .u8 0, .int .u8 0, .int .u8 0, .int .u8 0, .int .u8 0, .int .u8 0, .int .u8 0, .int .u8 0] 73 (0, 0))) := by (repeat' (first | (with_reducible exact Frm.refl _ _) | (with_reducible assumption) | (with_reducible refine Frm.alloc ?_ _) | (with_reducible refine Frm.drew ?_) | (with_reducible refine Frm.drewN ?_ _) | (with_reducible refine Frm.set1 ?_ _) | (with_reducible refine Frm.setCell ?_ ?_ _) | (exact fun h => absurd h (Nat.lt_irrefl _)) | (intro hlt; simp [World.size_alloc, One] at hlt ⊢; omega)))
        obtain ⟨wb, hwb⟩ : ∃ wb, wb = (w.alloc (.cells f.c 73 (0, 0))).alloc (.cells #[.int .u8 0, .int .u8 0, .int .u8 0, .int .u8 0, .int .u8 0, .int .u8 0, .int .u8 0, .int .u8 0] 73 (0, 0)) := ⟨_, rfl⟩
        rw [← hwb] at hbx hrt hfb ⊢
        have HBX := Lib.hid hbx
        have HRT := Lib.hid hrt
        have HFB := Lib.hid hfb
        have hwbs := lt_of_block hrt
        clear hbx hrt hfb hwb
        have k0 : wb.cell? ⟨w.heap.size, 0, none⟩ = some (.int .u8 a0) := by rw [HA0.out]; exact cell_at HBX.out
        go_upto_if 35 with (first | (refine wpList_load_row rfl 73 (.tmp 3) rfl w.heap.size rfl 73 f.c (0, 0) _ HBX.out Try.underlying73 rfl (by first | exact info_f8 | (rw [F8.size]; exact info_f8)) ?_) | (go_at_call 96; refine (HNU.out _).mono ?_; rintro e w1 ⟨rfl, hF1⟩; have HB1 := Lib.hid (hF1.heap HBX.out (fun h => h)); have HF1 := Lib.hid (HFB.out.trans' hF1); have HR1 := Lib.hid (hF1.heap HRT.out (fun h => h)); clear hF1))
        go_wp2_with (first | (refine wpList_load_row rfl 73 (.tmp 3) rfl w.heap.size rfl 73 f.c (0, 0) _ HB1.out Try.underlying73 rfl (by first | exact info_f8 | (rw [F8.size]; exact info_f8)) ?_) | (go_at_call 96; refine (HNU.out _).mono ?_; rintro e w2 ⟨rfl, hF2⟩; have hc2 := hF2.heap (HF1.out.heap HC.out (fun h => h)) (fun h => h); have k6 : w2.cell? ⟨c, 6, none⟩ = some (.int .i64 s6) := cell_at hc2; have kc0 : w2.cell? ⟨c, 0, none⟩ = some (.int .i64 s0) := cell_at hc2; have kf := frees hc2; have HC2 := Lib.hid hc2; have HR2 := Lib.hid (hF2.heap HR1.out (fun h => h)); have HF2 := Lib.hid (HF1.out.trans' hF2); have hs2 := hF2.size; clear hF2 hc2) | (refine wpl_store_whole rfl 73 (.tmp 4) (.tmp 49) rfl (w.heap.size + 1) (⟨96, 0, 0, 0, 0, 0, 0, 0⟩ : F8).c rfl rfl 73 F8.zero.c (by (apply heap_fin; (case h => (repeat (first | (with_reducible exact HR2.out) | (with_reducible apply heap_alloc_old) | (with_reducible apply heap_drewN') | (with_reducible apply heap_drew') | (with_reducible apply heap_set_same) | (with_reducible refine heap_set_other ?_ (by simp only []; omega)) | (with_reducible exact heap_new_at (by simp))))); (case e => rfl))) info_f8 rfl (F8.one _) ?_; intro wz hwz hFz; have HW3 := Lib.hid hwz; have HF3 := Lib.hid hFz; clear hwz hFz))
        have hFx : Frm (One c) w wz := by
          refine Frm.trans (b := _) ?_ HF3.out (fun i hi h => by simp only [One] at h ⊢; omega)
          repeat' (first | exact HF2.out.mono (fun _ _ h => h.elim) | refine Frm.set1 ?_ _)
        have hcw : wz.heap[c]? = some (.cells (clC ⟨5, s1, s2, s3, s4, s5, nu, s7, s8, s9⟩ vb vr) 143 (0, 0)) := by
          refine HF3.out.heap ?_ (by simp only [One]; omega)
          show _ = some (Obj.cells #[.int .i64 5, .int .u16 s1, .int .u8 s2, vb, .int .u8 s4, .bool s5, .int .i64 nu, vr, .int .u32 s8, .bool s9] 143 (0, 0))
          (apply heap_fin; (case h => (repeat (first | (with_reducible exact HC2.out) | (with_reducible apply heap_alloc_old) | (with_reducible apply heap_drewN') | (with_reducible apply heap_drew') | (with_reducible apply heap_set_same) | (with_reducible refine heap_set_other ?_ (by simp only []; omega)) | (with_reducible exact heap_new_at (by simp))))); (case e => rfl))
        have HOK := HOK.out
        refine bodyPost_ret (ret_f8b rfl _ _ (w.heap.size + 1) (⟨96, 0, 0, 0, 0, 0, 0, 0⟩ : F8).c rfl rfl HW3.out) rfl ?_
        unfold FstPost
        rw [HE.out]
        exact ⟨rfl, ClPost.lay (vb := vb) (vr := vr) H.out (hFx.mono (fun i _ hi => by rw [hi]; exact HM.out)) ⟨by show (0 : Int) ≤ 5 ∧ (5 : Int) ≤ 5; decide, HOK.hi, HOK.hs, HOK.ht, HOK.hb, HOK.hc, ⟨by show (-1 : Int) ≤ nu; omega, hsm⟩, HOK.hr⟩ hcw (HB.out.frm hFx (fun k hk h => (HVB.out k hk).2 h)) (HR.out.frm hFx (fun k hk h => (HVR.out k hk).2 h)) (fun k hk => ⟨.inl (HVB.out k hk).1, (HVB.out k hk).2⟩) (fun k hk => ⟨.inl (HVR.out k hk).1, (HVR.out k hk).2⟩) (fun _ => hFx.row HO.out (fun k hk h => (HVB.out k hk).2 h)) (fun _ => HN4.out)⟩
    · have e : Cl.first ⟨s0, s1, s2, s3, s4, s5, s6, s7, s8, s9⟩ f = (⟨5, s1, s2, s3, s4, s5, s6, s7, s8, s9⟩, ⟨96, 0, 0, 0, 0, 0, 0, 0⟩, true) := by unfold Cl.first; rw [← ha0, if_neg hx, if_neg (fun h => hs h.1)]; simp only [hs, if_false]
      have HE := Lib.hid e
      have hb1 : (a0 % 2 == 1) = false := by simpa using hs
      unfold ptr F8.v at *
      clear hc hb hr hvb hvr ho hn e hok hM hlt ha0 hx hf hs hnu hw4
      go_enter Try.func115, Try.ntmps115
      go_upto_region 1 with fail
      have hbx : ((w.alloc (.cells f.c 73 (0, 0))).alloc (.cells #[.int .u8 0, .int .u8 0, .int .u8 0, .int .u8 0, .int .u8 0, .int .u8 0, .int .u8 0, .int .u8 0] 73 (0, 0))).heap[w.heap.size]? = some (.cells f.c 73 (0, 0)) := heap_alloc_old (heap_new w _)
      have hrt : ((w.alloc (.cells f.c 73 (0, 0))).alloc (.cells #[.int .u8 0, .int .u8 0, .int .u8 0, .int .u8 0, .int .u8 0, .int .u8 0, .int .u8 0, .int .u8 0] 73 (0, 0))).heap[w.heap.size + 1]? = some (.cells #[.int .u8 0, .int .u8 0, .int .u8 0, .int .u8 0, .int .u8 0, .int .u8 0, .int .u8 0, .int .u8 0] 73 (0, 0)) := heap_new_at (by simp)
      have hfb : Frm (fun _ => False) w ((w.alloc (.cells f.c 73 (0, 0))).alloc (.cells #[.int .u8 0, .int .u8 0, .int .u8 0, .int .u8 0, .int .u8 0, .int .u8 0, .int .u8 0, .int .u8 0] 73 (0, 0))) := by (repeat' (first | (with_reducible exact Frm.refl _ _) | (with_reducible assumption) | (with_reducible refine Frm.alloc ?_ _) | (with_reducible refine Frm.drew ?_) | (with_reducible refine Frm.drewN ?_ _) | (with_reducible refine Frm.set1 ?_ _) | (with_reducible refine Frm.setCell ?_ ?_ _) | (exact fun h => absurd h (Nat.lt_irrefl _)) | (intro hlt; simp [World.size_alloc, One] at hlt ⊢; omega)))
      obtain ⟨wb, hwb⟩ : ∃ wb, wb = (w.alloc (.cells f.c 73 (0, 0))).alloc (.cells #[.int .u8 0, .int .u8 0, .int .u8 0, .int .u8 0, .int .u8 0, .int .u8 0, .int .u8 0, .int .u8 0] 73 (0, 0)) := ⟨_, rfl⟩
      rw [← hwb] at hbx hrt hfb ⊢
      have HBX := Lib.hid hbx
      have HRT := Lib.hid hrt
      have HFB := Lib.hid hfb
      have hwbs := lt_of_block hrt
      clear hbx hrt hfb hwb
      have k0 : wb.cell? ⟨w.heap.size, 0, none⟩ = some (.int .u8 a0) := by rw [HA0.out]; exact cell_at HBX.out
      have hc2 := HFB.out.heap HC.out (fun h => h)
      have kc0 : wb.cell? ⟨c, 0, none⟩ = some (.int .i64 s0) := cell_at hc2
      have kf := frees hc2
      have HC2 := Lib.hid hc2
      clear hc2
      go_wp2_with (refine wpl_store_whole rfl 73 (.tmp 4) (.tmp 49) rfl (w.heap.size + 1) (⟨96, 0, 0, 0, 0, 0, 0, 0⟩ : F8).c rfl rfl 73 F8.zero.c (by (apply heap_fin; (case h => (repeat (first | (with_reducible exact HRT.out) | (with_reducible apply heap_alloc_old) | (with_reducible apply heap_drewN') | (with_reducible apply heap_drew') | (with_reducible apply heap_set_same) | (with_reducible refine heap_set_other ?_ (by simp only []; omega)) | (with_reducible exact heap_new_at (by simp))))); (case e => rfl))) info_f8 rfl (F8.one _) ?_; intro wz hwz hFz; have HW3 := Lib.hid hwz; have HF3 := Lib.hid hFz; clear hwz hFz)
      have hFx : Frm (One c) w wz := by
        refine Frm.trans (b := _) ?_ HF3.out (fun i hi h => by simp only [One] at h ⊢; omega)
        repeat' (first | exact HFB.out.mono (fun _ _ h => h.elim) | refine Frm.set1 ?_ _)
      have hcw : wz.heap[c]? = some (.cells (clC ⟨5, s1, s2, s3, s4, s5, s6, s7, s8, s9⟩ vb vr) 143 (0, 0)) := by
        refine HF3.out.heap ?_ (by simp only [One]; omega)
        show _ = some (Obj.cells #[.int .i64 5, .int .u16 s1, .int .u8 s2, vb, .int .u8 s4, .bool s5, .int .i64 s6, vr, .int .u32 s8, .bool s9] 143 (0, 0))
        (apply heap_fin; (case h => (repeat (first | (with_reducible exact HC2.out) | (with_reducible apply heap_alloc_old) | (with_reducible apply heap_drewN') | (with_reducible apply heap_drew') | (with_reducible apply heap_set_same) | (with_reducible refine heap_set_other ?_ (by simp only []; omega)) | (with_reducible exact heap_new_at (by simp))))); (case e => rfl))
      have HOK := HOK.out
      refine bodyPost_ret (ret_f8b rfl _ _ (w.heap.size + 1) (⟨96, 0, 0, 0, 0, 0, 0, 0⟩ : F8).c rfl rfl HW3.out) rfl ?_
      unfold FstPost
      rw [HE.out]
      exact ⟨rfl, ClPost.lay (vb := vb) (vr := vr) H.out (hFx.mono (fun i _ hi => by rw [hi]; exact HM.out)) ⟨by show (0 : Int) ≤ 5 ∧ (5 : Int) ≤ 5; decide, HOK.hi, HOK.hs, HOK.ht, HOK.hb, HOK.hc, HOK.hz, HOK.hr⟩ hcw (HB.out.frm hFx (fun k hk h => (HVB.out k hk).2 h)) (HR.out.frm hFx (fun k hk h => (HVR.out k hk).2 h)) (fun k hk => ⟨.inl (HVB.out k hk).1, (HVB.out k hk).2⟩) (fun k hk => ⟨.inl (HVR.out k hk).1, (HVR.out k hk).2⟩) (fun _ => hFx.row HO.out (fun k hk h => (HVB.out k hk).2 h)) (fun _ => HN4.out)⟩
end Go.Proofs.Ytmkkeglcjbogcaa
