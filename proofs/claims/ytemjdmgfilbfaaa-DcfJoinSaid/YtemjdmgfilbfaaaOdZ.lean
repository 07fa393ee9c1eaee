/-
  Set.
-/
import Derived.Test.YtemjdmgfilbfaaaOdO
namespace Go.Proofs.Ytemjdmgfilbfaaa
open Go.RowKit
set_option linter.unusedVariables false

theorem DOk.set {d : List Im} (h : DOk d) (i s : Int) (v : Va) (hv : v.ok) : DOk (setD d i s v).1 := by
  unfold setD
  split
  · exact h
  · split
    · exact h
    · rename_i k hf x hx
      split
      · exact h
      · obtain ⟨hk, rfl⟩ := List.getElem?_eq_some_iff.1 hx
        exact h.upd hk _ (plainV_ok hv)
def SetP (b : Nat) (l : List (Nat × Im)) (i s : Int) (v : Va) (w : World) (e : Ending) (w' : World) : Prop :=
  e = .returned (.int .i64 (setD (im l) i s v).2) ∧ ∃ l', DAt w' b l' ∧ im l' = (setD (im l) i s v).1 ∧ l'.map (·.1) = l.map (·.1) ∧ Frm (fun j => ∃ q ∈ l, j = q.1) w w'

set_option maxRecDepth 100000 in
set_option maxHeartbeats 2000000 in
theorem odSet_any (b : Nat) (l : List (Nat × Im)) (i s : Int) (v : Va) (w : World) (h : DAt w b l) (hd : DOk (im l)) (hs : 0 ≤ s ∧ s ≤ 255) (hv : v.ok) :
    Calls Try.prog 22 #[ptr b, .int .u16 i, .int .u8 s, valV v] w (SetP b l i s v w) := by
  have HFD := Lib.hid (fun W hF => odFind_any b l i s W (h.grow hF) hd hs)
  have HCK := Lib.hid (fun W => tyCheck_any v W hv)
  have HPL := Lib.hid (fun W => tyPlain_any v W)
  have HD := Lib.hid h
  clear h hd hs hv
  unfold ptr at HFD
  unfold valV at HCK HPL
  unfold ptr SetP valV
  go_enter Try.func22, Try.ntmps22
  go_wp2_with fail
  refine (HFD.out _ (by (repeat' (first | (with_reducible exact Frm.refl _ _) | (with_reducible assumption) | (with_reducible refine Frm.alloc ?_ _) | (with_reducible refine Frm.drew ?_) | (with_reducible refine Frm.drewN ?_ _) | (with_reducible refine Frm.set1 ?_ _) | (with_reducible refine Frm.setCell ?_ ?_ _) | (exact fun h => absurd h (Nat.lt_irrefl _)) | (intro hlt; simp [World.size_alloc, One] at hlt ⊢; omega))))).mono ?_
  rintro e w1 ⟨hF1, hf⟩
  have k0 := hF1.heap (heap_new w _) (fun h => h)
  have K0 := Lib.hid k0
  have HF : Hid (Frm (fun _ => False) w w1) := Frm.trans' (b := _) (by (repeat' (first | (with_reducible exact Frm.refl _ _) | (with_reducible assumption) | (with_reducible refine Frm.alloc ?_ _) | (with_reducible refine Frm.drew ?_) | (with_reducible refine Frm.drewN ?_ _) | (with_reducible refine Frm.set1 ?_ _) | (with_reducible refine Frm.setCell ?_ ?_ _) | (exact fun h => absurd h (Nat.lt_irrefl _)) | (intro hlt; simp [World.size_alloc, One] at hlt ⊢; omega)))) hF1
  have l0 := lt_of_block k0
  clear hF1 k0 HFD
  rcases hf with ⟨k, hk, hfd, -, -, rfl⟩ | ⟨hfd, hne, rfl⟩
  · have E : Hid (setD (im l) i s v = if setC l[k].2 v ≠ 0 then (im l, setC l[k].2 v) else ((im l).set k (l[k].2.1, plainV v), 0)) := by
      unfold Hid setD
      rw [hfd]
      simp [hk]
    have hm := List.getElem_mem hk
    have HI := Lib.hid (HF.out.heap (HD.out.el _ hm) (fun h => h))
    obtain ⟨x, hx⟩ : ∃ x, x = l[k].2 := ⟨_, rfl⟩
    obtain ⟨p, hp⟩ : ∃ p, p = l[k].1 := ⟨_, rfl⟩
    have HP := Lib.hid hp
    rw [← hx] at E
    have KI : Hid (ItAt w1 p x) := by rw [hp, hx]; exact HI.out
    rw [← hp]
    have HC : Hid (setC x v = if x.1.acc = 3 ∨ v.ty ≠ x.2.ty then 1 else checkV v) := rfl
    generalize setC x v = sc at *
    have hc : ∀ W, Frm (fun _ => False) w1 W → W.cell? ⟨p, 2, none⟩ = some (.int .i64 x.1.acc) ∧ W.cell? ⟨p, 14, none⟩ = some (.int .i64 x.2.ty) ∧ W.cell? ⟨w.heap.size, 0, none⟩ = some (.int .i64 v.ty) := fun W hF => by
      have kx := hF.heap KI.out (fun h => h)
      have ky := hF.heap K0.out (fun h => h)
      exact ⟨cell_at kx, cell_at kx, cell_at ky⟩
    have HCC := Lib.hid hc
    have lp : p < w1.heap.size := lt_of_block KI.out
    clear hc hm hx hp hfd HI
    go_upto_region 4 with fail
    have hz : Frm (fun _ => False) w1 w1 := Frm.refl _ _
    have HBAD : Hid (∀ c : Int, c ≠ 0 → sc = c → setD (im l) i s v = (im l, c)) := fun c h1 h2 => by rw [E.out, h2, if_pos h1]
    refine wp_region_held_drew (S := fun W => Frm (fun _ => False) w1 W) (by kernel_rfl) (hz.drew) (fun hHeld => ?_)
    by_cases ha : x.1.acc = 3
    · have b3 : (x.1.acc == 3) = true := by simpa using ha
      have E2 := Lib.hid (HBAD.out 1 (by decide) (by rw [HC.out, if_pos (.inl ha)]))
      clear ha HC
      refine wpAnyH_take (i := 0) (v := ?_) rfl (by kernel_rfl) (by kernel_rfl) (by kernel_rfl) (fun _ _ _ h => h) (Or.inl ⟨by rfl, ?_⟩) (by assumption) ?_
      rotate_left
      · intro wq hSq
        have hq := HCC.out wq hSq
        go_split_ands
        go_simp
        try with_reducible rfl
      try simp only [Act.put, List.getElem_toArray, List.getElem_cons_zero, List.getElem_cons_succ, List.setIfInBounds_toArray, List.set_cons_zero, List.set_cons_succ]
      refine wpAnyH_take (i := 1) (v := ?_) rfl (by kernel_rfl) (by kernel_rfl) (by kernel_rfl) (fun _ _ _ h => h) (Or.inl ⟨by rfl, ?_⟩) (by assumption) ?_
      rotate_left
      · intro wq hSq
        have hq := HCC.out wq hSq
        go_split_ands
        go_simp
        try with_reducible rfl
      try simp only [Act.put, List.getElem_toArray, List.getElem_cons_zero, List.getElem_cons_succ, List.setIfInBounds_toArray, List.set_cons_zero, List.set_cons_succ]
      refine wpAnyH_take (i := 2) (v := ?_) rfl (by kernel_rfl) (by kernel_rfl) (by kernel_rfl) (fun _ _ _ h => h) (Or.inl ⟨by rfl, ?_⟩) (by assumption) ?_
      rotate_left
      · intro wq hSq
        have hq := HCC.out wq hSq
        go_split_ands
        go_simp
        try with_reducible rfl
      try simp only [Act.put, List.getElem_toArray, List.getElem_cons_zero, List.getElem_cons_succ, List.setIfInBounds_toArray, List.set_cons_zero, List.set_cons_succ]
      refine wpAnyH_take (i := 3) (v := ?_) rfl (by kernel_rfl) (by kernel_rfl) (by kernel_rfl) (fun _ _ _ h => h) (Or.inl ⟨by rfl, ?_⟩) (by assumption) ?_
      rotate_left
      · intro wq hSq
        have hq := HCC.out wq hSq
        go_split_ands
        go_simp
        try with_reducible rfl
      try simp only [Act.put, List.getElem_toArray, List.getElem_cons_zero, List.getElem_cons_succ, List.setIfInBounds_toArray, List.set_cons_zero, List.set_cons_succ]
      refine wpAnyH_take (i := 4) (v := ?_) rfl (by kernel_rfl) (by kernel_rfl) (by kernel_rfl) (fun _ _ _ h => h) (Or.inl ⟨by rfl, ?_⟩) (by assumption) ?_
      rotate_left
      · intro wq hSq
        have hq := HCC.out wq hSq
        go_split_ands
        go_simp
        try with_reducible rfl
      try simp only [Act.put, List.getElem_toArray, List.getElem_cons_zero, List.getElem_cons_succ, List.setIfInBounds_toArray, List.set_cons_zero, List.set_cons_succ]
      refine wpAnyH_take (i := 5) (v := ?_) rfl (by kernel_rfl) (by kernel_rfl) (by kernel_rfl) (fun _ _ _ h => h) (Or.inl ⟨by rfl, ?_⟩) (by assumption) ?_
      rotate_left
      · intro wq hSq
        have hq := HCC.out wq hSq
        go_split_ands
        go_simp
        try with_reducible rfl
      try simp only [Act.put, List.getElem_toArray, List.getElem_cons_zero, List.getElem_cons_succ, List.setIfInBounds_toArray, List.set_cons_zero, List.set_cons_succ]
      refine wpAnyH_take (i := 6) (v := ?_) rfl (by kernel_rfl) (by kernel_rfl) (by kernel_rfl) (fun _ _ _ h => h) (Or.inl ⟨by rfl, ?_⟩) (by assumption) ?_
      rotate_left
      · intro wq hSq
        have hq := HCC.out wq hSq
        go_split_ands
        go_simp
        try with_reducible rfl
      try simp only [Act.put, List.getElem_toArray, List.getElem_cons_zero, List.getElem_cons_succ, List.setIfInBounds_toArray, List.set_cons_zero, List.set_cons_succ]
      refine wpAnyH_take (i := 7) (v := undef) rfl (by kernel_rfl) (by kernel_rfl) (by kernel_rfl) (fun _ _ _ h => h) (Or.inr ⟨by rfl, rfl⟩) (by assumption) ?_
      try simp only [Act.put, List.getElem_toArray, List.getElem_cons_zero, List.getElem_cons_succ, List.setIfInBounds_toArray, List.set_cons_zero, List.set_cons_succ]
      refine wpAnyH_take (i := 8) (v := undef) rfl (by kernel_rfl) (by kernel_rfl) (by kernel_rfl) (fun _ _ _ h => h) (Or.inr ⟨by rfl, rfl⟩) (by assumption) ?_
      try simp only [Act.put, List.getElem_toArray, List.getElem_cons_zero, List.getElem_cons_succ, List.setIfInBounds_toArray, List.set_cons_zero, List.set_cons_succ]
      refine wpAnyH_take (i := 9) (v := undef) rfl (by kernel_rfl) (by kernel_rfl) (by kernel_rfl) (fun _ _ _ h => h) (Or.inr ⟨by rfl, rfl⟩) (by assumption) ?_
      try simp only [Act.put, List.getElem_toArray, List.getElem_cons_zero, List.getElem_cons_succ, List.setIfInBounds_toArray, List.set_cons_zero, List.set_cons_succ]
      refine wpAnyH_take (i := 10) (v := undef) rfl (by kernel_rfl) (by kernel_rfl) (by kernel_rfl) (fun _ _ _ h => h) (Or.inr ⟨by rfl, rfl⟩) (by assumption) ?_
      try simp only [Act.put, List.getElem_toArray, List.getElem_cons_zero, List.getElem_cons_succ, List.setIfInBounds_toArray, List.set_cons_zero, List.set_cons_succ]
      refine wpAnyH_take (i := 11) (v := undef) rfl (by kernel_rfl) (by kernel_rfl) (by kernel_rfl) (fun _ _ _ h => h) (Or.inr ⟨by rfl, rfl⟩) (by assumption) ?_
      try simp only [Act.put, List.getElem_toArray, List.getElem_cons_zero, List.getElem_cons_succ, List.setIfInBounds_toArray, List.set_cons_zero, List.set_cons_succ]
      refine wpAnyH_take (i := 12) (v := undef) rfl (by kernel_rfl) (by kernel_rfl) (by kernel_rfl) (fun _ _ _ h => h) (Or.inr ⟨by rfl, rfl⟩) (by assumption) ?_
      try simp only [Act.put, List.getElem_toArray, List.getElem_cons_zero, List.getElem_cons_succ, List.setIfInBounds_toArray, List.set_cons_zero, List.set_cons_succ]
      refine wpAnyH_take (i := 13) (v := undef) rfl (by kernel_rfl) (by kernel_rfl) (by kernel_rfl) (fun _ _ _ h => h) (Or.inr ⟨by rfl, rfl⟩) (by assumption) ?_
      try simp only [Act.put, List.getElem_toArray, List.getElem_cons_zero, List.getElem_cons_succ, List.setIfInBounds_toArray, List.set_cons_zero, List.set_cons_succ]
      refine wpAnyH_take (i := 14) (v := undef) rfl (by kernel_rfl) (by kernel_rfl) (by kernel_rfl) (fun _ _ _ h => h) (Or.inr ⟨by rfl, rfl⟩) (by assumption) ?_
      try simp only [Act.put, List.getElem_toArray, List.getElem_cons_zero, List.getElem_cons_succ, List.setIfInBounds_toArray, List.set_cons_zero, List.set_cons_succ]
      refine wpAnyH_take (i := 15) (v := ?_) rfl (by kernel_rfl) (by kernel_rfl) (by kernel_rfl) (fun _ _ _ h => h) (Or.inl ⟨by rfl, ?_⟩) (by assumption) ?_
      rotate_left
      · intro wq hSq
        have hq := HCC.out wq hSq
        go_split_ands
        go_simp
        try with_reducible rfl
      try simp only [Act.put, List.getElem_toArray, List.getElem_cons_zero, List.getElem_cons_succ, List.setIfInBounds_toArray, List.set_cons_zero, List.set_cons_succ]
      refine wpAnyH_take (i := 16) (v := ?_) rfl (by kernel_rfl) (by kernel_rfl) (by kernel_rfl) (fun _ _ _ h => h) (Or.inl ⟨by rfl, ?_⟩) (by assumption) ?_
      rotate_left
      · intro wq hSq
        have hq := HCC.out wq hSq
        go_split_ands
        go_simp
        try with_reducible rfl
      try simp only [Act.put, List.getElem_toArray, List.getElem_cons_zero, List.getElem_cons_succ, List.setIfInBounds_toArray, List.set_cons_zero, List.set_cons_succ]
      refine wpAnyH_done (by kernel_rfl) ?_ _
      go_wp2_with fail
      go_ret
      exact ⟨by rw [E2.out]; rfl, l, HD.out.grow (HF.out.trans' hHeld), by rw [E2.out], rfl, (HF.out.trans' hHeld).mono (fun _ _ h => h.elim)⟩
    · have b3 : (x.1.acc == 3) = false := by simpa using ha
      refine wpAnyH_take (i := 0) (v := ?_) rfl (by kernel_rfl) (by kernel_rfl) (by kernel_rfl) (fun _ _ _ h => h) (Or.inl ⟨by rfl, ?_⟩) (by assumption) ?_
      rotate_left
      · intro wq hSq
        have hq := HCC.out wq hSq
        go_split_ands
        go_simp
        try with_reducible rfl
      try simp only [Act.put, List.getElem_toArray, List.getElem_cons_zero, List.getElem_cons_succ, List.setIfInBounds_toArray, List.set_cons_zero, List.set_cons_succ]
      refine wpAnyH_take (i := 1) (v := ?_) rfl (by kernel_rfl) (by kernel_rfl) (by kernel_rfl) (fun _ _ _ h => h) (Or.inl ⟨by rfl, ?_⟩) (by assumption) ?_
      rotate_left
      · intro wq hSq
        have hq := HCC.out wq hSq
        go_split_ands
        go_simp
        try with_reducible rfl
      try simp only [Act.put, List.getElem_toArray, List.getElem_cons_zero, List.getElem_cons_succ, List.setIfInBounds_toArray, List.set_cons_zero, List.set_cons_succ]
      refine wpAnyH_take (i := 2) (v := ?_) rfl (by kernel_rfl) (by kernel_rfl) (by kernel_rfl) (fun _ _ _ h => h) (Or.inl ⟨by rfl, ?_⟩) (by assumption) ?_
      rotate_left
      · intro wq hSq
        have hq := HCC.out wq hSq
        go_split_ands
        go_simp
        try with_reducible rfl
      try simp only [Act.put, List.getElem_toArray, List.getElem_cons_zero, List.getElem_cons_succ, List.setIfInBounds_toArray, List.set_cons_zero, List.set_cons_succ]
      refine wpAnyH_take (i := 3) (v := ?_) rfl (by kernel_rfl) (by kernel_rfl) (by kernel_rfl) (fun _ _ _ h => h) (Or.inl ⟨by rfl, ?_⟩) (by assumption) ?_
      rotate_left
      · intro wq hSq
        have hq := HCC.out wq hSq
        go_split_ands
        go_simp
        try with_reducible rfl
      try simp only [Act.put, List.getElem_toArray, List.getElem_cons_zero, List.getElem_cons_succ, List.setIfInBounds_toArray, List.set_cons_zero, List.set_cons_succ]
      refine wpAnyH_take (i := 4) (v := ?_) rfl (by kernel_rfl) (by kernel_rfl) (by kernel_rfl) (fun _ _ _ h => h) (Or.inl ⟨by rfl, ?_⟩) (by assumption) ?_
      rotate_left
      · intro wq hSq
        have hq := HCC.out wq hSq
        go_split_ands
        go_simp
        try with_reducible rfl
      try simp only [Act.put, List.getElem_toArray, List.getElem_cons_zero, List.getElem_cons_succ, List.setIfInBounds_toArray, List.set_cons_zero, List.set_cons_succ]
      refine wpAnyH_take (i := 5) (v := ?_) rfl (by kernel_rfl) (by kernel_rfl) (by kernel_rfl) (fun _ _ _ h => h) (Or.inl ⟨by rfl, ?_⟩) (by assumption) ?_
      rotate_left
      · intro wq hSq
        have hq := HCC.out wq hSq
        go_split_ands
        go_simp
        try with_reducible rfl
      try simp only [Act.put, List.getElem_toArray, List.getElem_cons_zero, List.getElem_cons_succ, List.setIfInBounds_toArray, List.set_cons_zero, List.set_cons_succ]
      refine wpAnyH_take (i := 6) (v := ?_) rfl (by kernel_rfl) (by kernel_rfl) (by kernel_rfl) (fun _ _ _ h => h) (Or.inl ⟨by rfl, ?_⟩) (by assumption) ?_
      rotate_left
      · intro wq hSq
        have hq := HCC.out wq hSq
        go_split_ands
        go_simp
        try with_reducible rfl
      try simp only [Act.put, List.getElem_toArray, List.getElem_cons_zero, List.getElem_cons_succ, List.setIfInBounds_toArray, List.set_cons_zero, List.set_cons_succ]
      refine wpAnyH_take (i := 7) (v := ?_) rfl (by kernel_rfl) (by kernel_rfl) (by kernel_rfl) (fun _ _ _ h => h) (Or.inl ⟨by rfl, ?_⟩) (by assumption) ?_
      rotate_left
      · intro wq hSq
        have hq := HCC.out wq hSq
        go_split_ands
        go_simp
        try with_reducible rfl
      try simp only [Act.put, List.getElem_toArray, List.getElem_cons_zero, List.getElem_cons_succ, List.setIfInBounds_toArray, List.set_cons_zero, List.set_cons_succ]
      refine wpAnyH_take (i := 8) (v := ?_) rfl (by kernel_rfl) (by kernel_rfl) (by kernel_rfl) (fun _ _ _ h => h) (Or.inl ⟨by rfl, ?_⟩) (by assumption) ?_
      rotate_left
      · intro wq hSq
        have hq := HCC.out wq hSq
        go_split_ands
        go_simp
        try with_reducible rfl
      try simp only [Act.put, List.getElem_toArray, List.getElem_cons_zero, List.getElem_cons_succ, List.setIfInBounds_toArray, List.set_cons_zero, List.set_cons_succ]
      refine wpAnyH_take (i := 9) (v := ?_) rfl (by kernel_rfl) (by kernel_rfl) (by kernel_rfl) (fun _ _ _ h => h) (Or.inl ⟨by rfl, ?_⟩) (by assumption) ?_
      rotate_left
      · intro wq hSq
        have hq := HCC.out wq hSq
        go_split_ands
        go_simp
        try with_reducible rfl
      try simp only [Act.put, List.getElem_toArray, List.getElem_cons_zero, List.getElem_cons_succ, List.setIfInBounds_toArray, List.set_cons_zero, List.set_cons_succ]
      refine wpAnyH_take (i := 10) (v := ?_) rfl (by kernel_rfl) (by kernel_rfl) (by kernel_rfl) (fun _ _ _ h => h) (Or.inl ⟨by rfl, ?_⟩) (by assumption) ?_
      rotate_left
      · intro wq hSq
        have hq := HCC.out wq hSq
        go_split_ands
        go_simp
        try with_reducible rfl
      try simp only [Act.put, List.getElem_toArray, List.getElem_cons_zero, List.getElem_cons_succ, List.setIfInBounds_toArray, List.set_cons_zero, List.set_cons_succ]
      refine wpAnyH_take (i := 11) (v := ?_) rfl (by kernel_rfl) (by kernel_rfl) (by kernel_rfl) (fun _ _ _ h => h) (Or.inl ⟨by rfl, ?_⟩) (by assumption) ?_
      rotate_left
      · intro wq hSq
        have hq := HCC.out wq hSq
        go_split_ands
        go_simp
        try with_reducible rfl
      try simp only [Act.put, List.getElem_toArray, List.getElem_cons_zero, List.getElem_cons_succ, List.setIfInBounds_toArray, List.set_cons_zero, List.set_cons_succ]
      refine wpAnyH_take (i := 12) (v := ?_) rfl (by kernel_rfl) (by kernel_rfl) (by kernel_rfl) (fun _ _ _ h => h) (Or.inl ⟨by rfl, ?_⟩) (by assumption) ?_
      rotate_left
      · intro wq hSq
        have hq := HCC.out wq hSq
        go_split_ands
        go_simp
        try with_reducible rfl
      try simp only [Act.put, List.getElem_toArray, List.getElem_cons_zero, List.getElem_cons_succ, List.setIfInBounds_toArray, List.set_cons_zero, List.set_cons_succ]
      refine wpAnyH_take (i := 13) (v := ?_) rfl (by kernel_rfl) (by kernel_rfl) (by kernel_rfl) (fun _ _ _ h => h) (Or.inl ⟨by rfl, ?_⟩) (by assumption) ?_
      rotate_left
      · intro wq hSq
        have hq := HCC.out wq hSq
        go_split_ands
        go_simp
        try with_reducible rfl
      try simp only [Act.put, List.getElem_toArray, List.getElem_cons_zero, List.getElem_cons_succ, List.setIfInBounds_toArray, List.set_cons_zero, List.set_cons_succ]
      refine wpAnyH_take (i := 14) (v := ?_) rfl (by kernel_rfl) (by kernel_rfl) (by kernel_rfl) (fun _ _ _ h => h) (Or.inl ⟨by rfl, ?_⟩) (by assumption) ?_
      rotate_left
      · intro wq hSq
        have hq := HCC.out wq hSq
        go_split_ands
        go_simp
        try with_reducible rfl
      try simp only [Act.put, List.getElem_toArray, List.getElem_cons_zero, List.getElem_cons_succ, List.setIfInBounds_toArray, List.set_cons_zero, List.set_cons_succ]
      refine wpAnyH_take (i := 15) (v := ?_) rfl (by kernel_rfl) (by kernel_rfl) (by kernel_rfl) (fun _ _ _ h => h) (Or.inl ⟨by rfl, ?_⟩) (by assumption) ?_
      rotate_left
      · intro wq hSq
        have hq := HCC.out wq hSq
        go_split_ands
        go_simp
        try with_reducible rfl
      try simp only [Act.put, List.getElem_toArray, List.getElem_cons_zero, List.getElem_cons_succ, List.setIfInBounds_toArray, List.set_cons_zero, List.set_cons_succ]
      refine wpAnyH_take (i := 16) (v := ?_) rfl (by kernel_rfl) (by kernel_rfl) (by kernel_rfl) (fun _ _ _ h => h) (Or.inl ⟨by rfl, ?_⟩) (by assumption) ?_
      rotate_left
      · intro wq hSq
        have hq := HCC.out wq hSq
        go_split_ands
        go_simp
        try with_reducible rfl
      try simp only [Act.put, List.getElem_toArray, List.getElem_cons_zero, List.getElem_cons_succ, List.setIfInBounds_toArray, List.set_cons_zero, List.set_cons_succ]
      refine wpAnyH_done (by kernel_rfl) ?_ _
      by_cases ht : v.ty = x.2.ty
      case neg =>
        have bt : (v.ty != x.2.ty) = true := by simpa using ht
        have E2 := Lib.hid (HBAD.out 1 (by decide) (by rw [HC.out, if_pos (.inr ht)]))
        clear ha HC ht
        go_wp2_with fail
        go_ret
        exact ⟨by rw [E2.out]; rfl, l, HD.out.grow (HF.out.trans' hHeld), by rw [E2.out], rfl, (HF.out.trans' hHeld).mono (fun _ _ h => h.elim)⟩
      case pos =>
        have bt : (v.ty != x.2.ty) = false := by simpa using ht
        have HC2 : Hid (sc = checkV v) := by unfold Hid; rw [HC.out, if_neg (by omega)]
        clear ha HC ht
        have kx := hHeld.heap KI.out (fun h => h)
        have ky := hHeld.heap K0.out (fun h => h)
        have HFZ := Lib.hid (HF.out.trans' hHeld)
        have HKZ := Lib.hid ky
        have HIZ := Lib.hid kx
        have hsz := hHeld.size
        clear hHeld HCC hz
        generalize w1.drew = wz at *
        have t0 : wz.cell? ⟨w.heap.size, 0, none⟩ = some (.int .i64 v.ty) := cell_at ky
        have t1 : wz.cell? ⟨w.heap.size, 1, none⟩ = some (.int .u64 v.n) := cell_at ky
        have t2 : wz.cell? ⟨w.heap.size, 2, none⟩ = some (.string (strB2 v.b)) := cell_at ky
        clear kx ky
        by_cases hck : checkV v = 0
        case neg =>
          have E2 := Lib.hid (HBAD.out _ hck HC2.out)
          generalize checkV v = cv at *
          have hb : (cv != 0) = true := by simpa using hck
          clear hck
          go_wp2_with (go_at_call 52; refine (HCK.out _).mono ?_; rintro e w5 ⟨rfl, hF5⟩)
          go_ret
          exact ⟨by rw [E2.out]; rfl, l, HD.out.grow (HFZ.out.trans' hF5), by rw [E2.out], rfl, (HFZ.out.trans' hF5).mono (fun _ _ h => h.elim)⟩
        case pos =>
          have E2 : Hid (setD (im l) i s v = ((im l).set k (x.1, plainV v), 0)) := by
            unfold Hid
            rw [E.out, if_neg (by rw [HC2.out, hck]; simp)]
          rw [hck] at HCK
          clear hck HC2 HBAD
          go_upto_region 7 with (go_at_call 52; refine (HCK.out _).mono ?_; rintro e w5 ⟨rfl, hF5⟩)
          have ky := hF5.heap HKZ.out (fun h => h)
          have HF5 := Lib.hid (HFZ.out.trans' hF5)
          have KI5 := Lib.hid (hF5.heap HIZ.out (fun h => h))
          have K5 := Lib.hid ky
          clear t0 t1 t2 hF5
          have t0 : w5.cell? ⟨w.heap.size, 0, none⟩ = some (.int .i64 v.ty) := cell_at ky
          have t1 : w5.cell? ⟨w.heap.size, 1, none⟩ = some (.int .u64 v.n) := cell_at ky
          have t2 : w5.cell? ⟨w.heap.size, 2, none⟩ = some (.string (strB2 v.b)) := cell_at ky
          clear ky
          generalize plainV v = pv at *
          go_wp2_with (go_at_call 37; refine (HPL.out _).mono ?_; rintro e w6 ⟨rfl, hF6⟩; have kx6 := hF6.heap KI5.out (fun h => h); have y0 : w6.cell? ⟨p, 14, none⟩ = some (.int .i64 x.2.ty) := cell_at kx6; have y1 : w6.cell? ⟨p, 15, none⟩ = some (.int .u64 x.2.n) := cell_at kx6; have y2 : w6.cell? ⟨p, 16, none⟩ = some (.string (strB2 x.2.b)) := cell_at kx6; have f6 := frees kx6; have l6 := lt_of_block kx6; have KI6 : Hid (ItAt w6 p x) := kx6; have HF6 := Lib.hid (HF5.out.trans' hF6); clear kx6 hF6)
          go_ret
          have hD0 := HD.out.grow HF6.out
          have hI1 := store17 pv KI6.out
          have hset : Frm (One p) w6 (((w6.setCell ⟨p, 14, none⟩ (.int .i64 pv.ty)).setCell ⟨p, 15, none⟩ (.int .u64 pv.n)).setCell ⟨p, 16, none⟩ (.string (strB2 pv.b))) :=
            (((Frm.refl (One p) _).setCell (p := ⟨p, 14, none⟩) (fun _ => rfl) _).setCell (p := ⟨p, 15, none⟩) (fun _ => rfl) _).setCell (p := ⟨p, 16, none⟩) (fun _ => rfl) _
          have hfin := (hD0.upd hk (x.1, pv) (by rw [← HP.out]; exact hset) (by rw [← HP.out]; exact hI1))
          refine ⟨by rw [E2.out]; rfl, _, hfin, ?_, upd_fst hk _, ?_⟩
          · rw [upd_im, E2.out]
          · exact (HF6.out.mono (T := fun j => ∃ q ∈ l, j = q.1) (fun _ _ h => h.elim)).trans hset (fun i hi e => ⟨l[k], List.getElem_mem hk, by have e : i = p := e; rw [e, HP.out]⟩)
  · have E : Hid (setD (im l) i s v = (im l, 4)) := by
      unfold Hid setD
      rw [hfd]
    have hb : (findC (im l) i s != 0) = true := by simpa using hne
    generalize findC (im l) i s = c at *
    clear hfd hne
    go_wp2_with fail
    go_ret
    exact ⟨by rw [E.out]; rfl, l, HD.out.grow HF.out, by rw [E.out], rfl, HF.out.mono (fun _ _ h => h.elim)⟩
end Go.Proofs.Ytemjdmgfilbfaaa
