/-
  The walk of DcfDecodes.
-/
import Derived.Test.YtmkkeglcjbogcaaDcfL
import Derived.Test.YtmkkeglcjbogcaaDcfQ
import Derived.Test.YtmkkeglcjbogcaaRow
namespace Go.Proofs.Ytmkkeglcjbogcaa
open Go.RowKit
set_option linter.unusedVariables false

theorem decN_rng (n : Nat) (bs : List UInt8) (l : List It) (r : List UInt8) (h : decN n bs = .ok (l, r)) : ∀ x ∈ l, Rng x := by
  induction n generalizing bs l r with
  | zero => simp only [decN, Except.ok.injEq, Prod.mk.injEq] at h; obtain ⟨rfl, rfl⟩ := h; simp
  | succ n ih =>
    rw [decN] at h
    split at h
    · cases h
    · split at h
      · cases h
      · split at h
        · cases h
        · split at h
          · cases h
          · rename_i l2 r2 h4
            simp only [Except.ok.injEq, Prod.mk.injEq] at h
            obtain ⟨rfl, rfl⟩ := h
            intro x hx
            rcases List.mem_cons.1 hx with rfl | hx
            · have h1 := numOf_bound (bs.take 2)
              have h2 : (bs.take 2).length ≤ 2 := by rw [List.length_take]; omega
              have h3 := (bs.getD 2 0).toNat_lt
              have h5 : (256 : Int) ^ (bs.take 2).length ≤ 65536 := by
                have : (bs.take 2).length = 0 ∨ (bs.take 2).length = 1 ∨ (bs.take 2).length = 2 := by omega
                rcases this with h | h | h <;> rw [h] <;> decide
              refine ⟨h1.1, ?_, ?_, ?_⟩ <;> simp only <;> omega
            · exact ih _ _ _ h4 x hx
theorem decOf_rng (bs : List UInt8) (l : List It) (c : Int) (h : (l, c) = decOf bs) : ∀ x ∈ l, Rng x := by
  unfold decOf at h
  split at h
  · simp only [Prod.mk.injEq] at h; rw [h.1]; simp
  · split at h
    · simp only [Prod.mk.injEq] at h; rw [h.1]; simp
    · split at h
      · simp only [Prod.mk.injEq] at h; rw [h.1]; simp
      · split at h
        · simp only [Prod.mk.injEq] at h; rw [h.1]; simp
        · rename_i h4 _
          simp only [Prod.mk.injEq] at h; rw [h.1]; exact decN_rng _ _ _ _ h4

set_option maxRecDepth 100000 in
set_option maxHeartbeats 2000000 in
theorem decodes_any (v : Value) (bs : List UInt8) (w : World) (h : BytesAt w v bs) (hl : bs.length ≤ 140737488351232) :
    Calls Try.prog 3 #[v] w (LawPost w) := by
  obtain ⟨A, cap, rfl, h1, h2, hn⟩ := h.open_
  have HB := Lib.hid h
  have HN := Lib.hid hn
  have hm3 : bs.length ≤ maxLen := by unfold maxLen; omega
  have hm4 : bs.length * 1 ≤ 140737488355328 := by omega
  have HONEB := Lib.hid (oneB bs)
  have HLEN : Hid ((bs.map encB).length = bs.length * 1) := by unfold Hid; simp
  have HEMP := Lib.hid (empty_row w 5 1 w.heap.size (Nat.le_refl _))
  clear hn h
  go_enter Try.func3, Try.ntmps3
  go_wp2_with (at_builtin; refine wpl_clone rfl el_u8 _ _ rfl rfl rfl (B := w.heap.size) (news := bs.map encB) (Frm.row (S := fun _ => False) (by (repeat' (first | (with_reducible exact Frm.refl _ _) | (with_reducible assumption) | (with_reducible refine Frm.alloc ?_ _) | (with_reducible refine Frm.drew ?_) | (with_reducible refine Frm.drewN ?_ _) | (with_reducible refine Frm.set1 ?_ _) | (with_reducible refine Frm.setCell ?_ ?_ _) | (intro hlt; simp [World.size_alloc, One] at hlt ⊢; omega)))) HEMP.out (fun _ _ h => h)) HLEN.out (fun h0 => (HN.out h0).grow (by (repeat' (first | (with_reducible exact Frm.refl _ _) | (with_reducible assumption) | (with_reducible refine Frm.alloc ?_ _) | (with_reducible refine Frm.drew ?_) | (with_reducible refine Frm.drewN ?_ _) | (with_reducible refine Frm.set1 ?_ _) | (with_reducible refine Frm.setCell ?_ ?_ _) | (intro hlt; simp [World.size_alloc, One] at hlt ⊢; omega))))) HONEB.out hm3 hm4 (by simp) ?_; intro A3 cap3 w3 hown3 hfr3)
  have hF3 : Frm (fun _ => False) w w3 := Frm.trans (b := _) (by (repeat' (first | (with_reducible exact Frm.refl _ _) | (with_reducible assumption) | (with_reducible refine Frm.alloc ?_ _) | (with_reducible refine Frm.drew ?_) | (with_reducible refine Frm.drewN ?_ _) | (with_reducible refine Frm.set1 ?_ _) | (with_reducible refine Frm.setCell ?_ ?_ _) | (intro hlt; simp [World.size_alloc, One] at hlt ⊢; omega)))) hfr3 (fun i hi h => by cases h; exact absurd hi (Nat.lt_irrefl _))
  have hB3 : BytesAt w3 (.slice A3 bs.length cap3) bs := .of_row hown3
  refine (decode_any _ bs w3 hB3 hl).mono ?_
  rintro e w4 ⟨hF4, v4, xs, c4, rfl, hx, hX⟩
  have HX := Lib.hid hX
  have HF4 := Lib.hid (hF3.trans' hF4)
  have HDX := Lib.hid hx
  clear hown3 hfr3 hF3 hB3 hX hF4 hx
  go_wp2_with fail
  refine (rdecode_any _ bs w4 (HB.out.grow HF4.out) hl).mono ?_
  rintro e w5 ⟨hF5, v5, ys, c5, rfl, hy, hY⟩
  have hxy : (xs.map bare, c4) = (ys.map bare, c5) := HDX.out.trans hy.symm
  simp only [Prod.mk.injEq] at hxy
  obtain ⟨hxy, rfl⟩ := hxy
  have HXY := Lib.hid hxy
  have HY := Lib.hid hY
  have HX5 := Lib.hid (HX.out.grow hF5)
  have HF5 := Lib.hid (HF4.out.trans' hF5)
  clear hxy hy hY hF5
  go_wp2_with fail
  refine (same_items v4 v5 xs ys w5 HX5.out.at_ HY.out.at_ HXY.out).mono ?_
  rintro e w6 ⟨rfl, n6, rfl⟩
  by_cases hc : c4 = 0
  · subst hc
    obtain ⟨hb1, hb2, hb3⟩ := decOf_back bs (xs.map bare) HDX.out.symm
    have hrg := decOf_rng bs _ _ HDX.out
    have HE := Lib.hid (fun W (hF : Frm (fun _ => False) w5 W) => encode_any v4 xs W (HX5.out.grow hF).at_ (by simp only [List.length_map] at hb2; omega) (fun x hx => by have := hb3 _ (List.mem_map_of_mem hx); simp only [bare] at this; omega) (fun x hx => hrg _ (List.mem_map_of_mem hx)))
    rw [hb1] at HE
    clear hb1 hb2 hb3 hrg
    go_wp2_with fail
    refine (HE.out _ (by (repeat' (first | (with_reducible exact Frm.refl _ _) | (with_reducible assumption) | (with_reducible refine Frm.alloc ?_ _) | (with_reducible refine Frm.drew ?_) | (with_reducible refine Frm.drewN ?_ _) | (with_reducible refine Frm.set1 ?_ _) | (with_reducible refine Frm.setCell ?_ ?_ _) | (intro hlt; simp [World.size_alloc, One] at hlt ⊢; omega))))).mono ?_
    rintro e w7 ⟨hF7, v7, rfl, hO7⟩
    have hF7' : Frm (fun _ => False) w w7 := (HF5.out.trans' (by (repeat' (first | (with_reducible exact Frm.refl _ _) | (with_reducible assumption) | (with_reducible refine Frm.alloc ?_ _) | (with_reducible refine Frm.drew ?_) | (with_reducible refine Frm.drewN ?_ _) | (with_reducible refine Frm.set1 ?_ _) | (with_reducible refine Frm.setCell ?_ ?_ _) | (intro hlt; simp [World.size_alloc, One] at hlt ⊢; omega))))).trans' hF7
    have hc1 := fun n => conv_bytes ((BytesAt.of_row hO7).drewN n)
    have hc1' := conv_bytes (BytesAt.of_row hO7)
    have hc2 := fun n => conv_bytes ((HB.out.grow hF7').drewN n)
    have hc2' := conv_bytes (HB.out.grow hF7')
    have HF7 := Lib.hid hF7'
    clear hO7 hF7 hF7'
    generalize strB bs = sb at *
    go_wp2_with fail
    refine (livesD_any _).mono ?_
    rintro e w8 ⟨rfl, hF8⟩
    have HF8 := Lib.hid (HF7.out.trans' (Frm.trans' (by (repeat' (first | (with_reducible exact Frm.refl _ _) | (with_reducible assumption) | (with_reducible refine Frm.alloc ?_ _) | (with_reducible refine Frm.drew ?_) | (with_reducible refine Frm.drewN ?_ _) | (with_reducible refine Frm.set1 ?_ _) | (with_reducible refine Frm.setCell ?_ ?_ _) | (intro hlt; simp [World.size_alloc, One] at hlt ⊢; omega)))) hF8))
    clear hF8
    go_wp2_with fail
    go_ret
    exact ⟨rfl, HF8.out.below (Nat.le_refl _) (fun _ _ h => h)⟩
  · have hne : (c4 != 0) = true := by simpa using hc
    clear hc
    go_wp2_with fail
    refine (livesD_any _).mono ?_
    rintro e w8 ⟨rfl, hF8⟩
    have HF8 := Lib.hid (HF5.out.trans' (Frm.trans' (by (repeat' (first | (with_reducible exact Frm.refl _ _) | (with_reducible assumption) | (with_reducible refine Frm.alloc ?_ _) | (with_reducible refine Frm.drew ?_) | (with_reducible refine Frm.drewN ?_ _) | (with_reducible refine Frm.set1 ?_ _) | (with_reducible refine Frm.setCell ?_ ?_ _) | (intro hlt; simp [World.size_alloc, One] at hlt ⊢; omega)))) hF8))
    clear hF8
    go_wp2_with fail
    go_ret
    exact ⟨rfl, HF8.out.below (Nat.le_refl _) (fun _ _ h => h)⟩
end Go.Proofs.Ytmkkeglcjbogcaa
