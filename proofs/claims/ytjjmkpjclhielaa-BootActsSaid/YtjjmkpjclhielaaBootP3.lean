/-
  Both sides' Lost.
-/
import Derived.Test.YtjjmkpjclhielaaBootP2
namespace Go.Proofs.Ytjjmkpjclhielaa
open Go.RowKit
set_option linter.unusedVariables false

theorem set14 (d0 d1 d2 d3 d4 d5 d6 d7 d8 d9 d10 d11 d12 d13 c0 c1 c2 c3 c4 c5 c6 c7 c8 c9 c10 c11 c12 c13 : Value) : ((((((((((((((#[d0, d1, d2, d3, d4, d5, d6, d7, d8, d9, d10, d11, d12, d13].setIfInBounds 0 c0).setIfInBounds 1 c1).setIfInBounds 2 c2).setIfInBounds 3 c3).setIfInBounds 4 c4).setIfInBounds 5 c5).setIfInBounds 6 c6).setIfInBounds 7 c7).setIfInBounds 8 c8).setIfInBounds 9 c9).setIfInBounds 10 c10).setIfInBounds 11 c11).setIfInBounds 12 c12).setIfInBounds 13 c13) = #[c0, c1, c2, c3, c4, c5, c6, c7, c8, c9, c10, c11, c12, c13] := by simp only [List.setIfInBounds_toArray, List.set_cons_succ, List.set_cons_zero]
theorem store14 {w : World} {g : Nat} {t : TypeId} {fz : Nat × Nat} {d0 d1 d2 d3 d4 d5 d6 d7 d8 d9 d10 d11 d12 d13 c0 c1 c2 c3 c4 c5 c6 c7 c8 c9 c10 c11 c12 c13 : Value} (h : w.heap[g]? = some (.cells #[d0, d1, d2, d3, d4, d5, d6, d7, d8, d9, d10, d11, d12, d13] t fz)) : ((((((((((((((w.setCell ⟨g, 0, none⟩ c0).setCell ⟨g, 1, none⟩ c1).setCell ⟨g, 2, none⟩ c2).setCell ⟨g, 3, none⟩ c3).setCell ⟨g, 4, none⟩ c4).setCell ⟨g, 5, none⟩ c5).setCell ⟨g, 6, none⟩ c6).setCell ⟨g, 7, none⟩ c7).setCell ⟨g, 8, none⟩ c8).setCell ⟨g, 9, none⟩ c9).setCell ⟨g, 10, none⟩ c10).setCell ⟨g, 11, none⟩ c11).setCell ⟨g, 12, none⟩ c12).setCell ⟨g, 13, none⟩ c13).heap[g]? = some (.cells #[c0, c1, c2, c3, c4, c5, c6, c7, c8, c9, c10, c11, c12, c13] t fz) := by
  rw [← set14 d0 d1 d2 d3 d4 d5 d6 d7 d8 d9 d10 d11 d12 d13 c0 c1 c2 c3 c4 c5 c6 c7 c8 c9 c10 c11 c12 c13]
  exact (heap_set_same (heap_set_same (heap_set_same (heap_set_same (heap_set_same (heap_set_same (heap_set_same (heap_set_same (heap_set_same (heap_set_same (heap_set_same (heap_set_same (heap_set_same (heap_set_same h _) _) _) _) _) _) _) _) _) _) _) _) _) _)
theorem other14 {w : World} {g k : Nat} {x : Option Obj} {c0 c1 c2 c3 c4 c5 c6 c7 c8 c9 c10 c11 c12 c13 : Value} (h : w.heap[k]? = x) (hk : k ≠ g) : ((((((((((((((w.setCell ⟨g, 0, none⟩ c0).setCell ⟨g, 1, none⟩ c1).setCell ⟨g, 2, none⟩ c2).setCell ⟨g, 3, none⟩ c3).setCell ⟨g, 4, none⟩ c4).setCell ⟨g, 5, none⟩ c5).setCell ⟨g, 6, none⟩ c6).setCell ⟨g, 7, none⟩ c7).setCell ⟨g, 8, none⟩ c8).setCell ⟨g, 9, none⟩ c9).setCell ⟨g, 10, none⟩ c10).setCell ⟨g, 11, none⟩ c11).setCell ⟨g, 12, none⟩ c12).setCell ⟨g, 13, none⟩ c13).heap[k]? = x :=
  (heap_set_other (heap_set_other (heap_set_other (heap_set_other (heap_set_other (heap_set_other (heap_set_other (heap_set_other (heap_set_other (heap_set_other (heap_set_other (heap_set_other (heap_set_other (heap_set_other h hk) hk) hk) hk) hk) hk) hk) hk) hk) hk) hk) hk) hk) hk)
theorem frm14 {S : Nat → Prop} {w0 w : World} {g : Nat} {c0 c1 c2 c3 c4 c5 c6 c7 c8 c9 c10 c11 c12 c13 : Value} (h : Frm S w0 w) (hS : S g) : Frm S w0 ((((((((((((((w.setCell ⟨g, 0, none⟩ c0).setCell ⟨g, 1, none⟩ c1).setCell ⟨g, 2, none⟩ c2).setCell ⟨g, 3, none⟩ c3).setCell ⟨g, 4, none⟩ c4).setCell ⟨g, 5, none⟩ c5).setCell ⟨g, 6, none⟩ c6).setCell ⟨g, 7, none⟩ c7).setCell ⟨g, 8, none⟩ c8).setCell ⟨g, 9, none⟩ c9).setCell ⟨g, 10, none⟩ c10).setCell ⟨g, 11, none⟩ c11).setCell ⟨g, 12, none⟩ c12).setCell ⟨g, 13, none⟩ c13) :=
  ((((((((((((((h.setCell (p := ⟨g, 0, none⟩) (fun _ => hS) _).setCell (p := ⟨g, 1, none⟩) (fun _ => hS) _).setCell (p := ⟨g, 2, none⟩) (fun _ => hS) _).setCell (p := ⟨g, 3, none⟩) (fun _ => hS) _).setCell (p := ⟨g, 4, none⟩) (fun _ => hS) _).setCell (p := ⟨g, 5, none⟩) (fun _ => hS) _).setCell (p := ⟨g, 6, none⟩) (fun _ => hS) _).setCell (p := ⟨g, 7, none⟩) (fun _ => hS) _).setCell (p := ⟨g, 8, none⟩) (fun _ => hS) _).setCell (p := ⟨g, 9, none⟩) (fun _ => hS) _).setCell (p := ⟨g, 10, none⟩) (fun _ => hS) _).setCell (p := ⟨g, 11, none⟩) (fun _ => hS) _).setCell (p := ⟨g, 12, none⟩) (fun _ => hS) _).setCell (p := ⟨g, 13, none⟩) (fun _ => hS) _)

def LostPostB (b : Nat) (l : List (Nat × Nd)) (t : Int) (r : Bs × Int) (w : World) (e : Ending) (w' : World) : Prop :=
  e = .returned (.int .i64 r.2) ∧ ∃ l', BAt w' b l' t r.1.halted ∧ nds l' = r.1.l ∧ l'.map (·.1) = l.map (·.1) ∧ Frm (fun k => k = b ∨ k ∈ l.map (·.1)) w w'

set_option maxRecDepth 100000 in
set_option maxHeartbeats 600000 in
theorem blost_any (b : Nat) (l : List (Nat × Nd)) (t : Int) (hh : Bool) (n : Int) (w : World) (h : BAt w b l t hh) : Calls Try.prog 21 #[ptr b, .int .i64 n] w (LostPostB b l t (lostN ⟨nds l, t, hh⟩ n) w) := by
  cases hp : placeN (nds l) n with
  | none =>
    have H := Lib.hid (of_none h hp)
    have HB := Lib.hid h
    have E : Hid (lostN ⟨nds l, t, hh⟩ n = (⟨nds l, t, hh⟩, 4)) := by unfold Hid lostN; simp only [hp]
    clear hp h
    unfold ptr at *
    go_enter Try.func21, Try.ntmps21
    go_wp2_with (go_at_call 26; refine H.out.mono ?_; rintro e w' ⟨rfl, m, rfl⟩)
    go_ret
    exact ⟨by rw [E.out]; rfl, l, by rw [E.out]; exact HB.out.grow (by (repeat' (first | (with_reducible exact Frm.refl _ _) | (with_reducible assumption) | (with_reducible refine Frm.alloc ?_ _) | (with_reducible refine Frm.drew ?_) | (with_reducible refine Frm.drewN ?_ _) | (with_reducible refine Frm.set1 ?_ _) | (with_reducible refine Frm.setCell ?_ ?_ _) | (exact fun h => absurd h (Nat.lt_irrefl _)) | (intro hlt; simp [World.size_alloc, One] at hlt ⊢; omega)))), by rw [E.out], rfl, by (repeat' (first | (with_reducible exact Frm.refl _ _) | (with_reducible assumption) | (with_reducible refine Frm.alloc ?_ _) | (with_reducible refine Frm.drew ?_) | (with_reducible refine Frm.drewN ?_ _) | (with_reducible refine Frm.set1 ?_ _) | (with_reducible refine Frm.setCell ?_ ?_ _) | (exact fun h => absurd h (Nat.lt_irrefl _)) | (intro hlt; simp [World.size_alloc, One] at hlt ⊢; omega)))⟩
  | some k =>
    obtain ⟨hk, hkn, hc⟩ := of_some h hp
    have H := Lib.hid hc
    obtain ⟨_, _, r2, _, _⟩ := (h.el k hk).read
    have HB := Lib.hid h
    have hlt := World.block_lt_of_cell? w _ r2
    by_cases h1 : l[k].2.is = 1
    · have E : Hid (lostN ⟨nds l, t, hh⟩ n = (⟨(nds l).set k (Nd.new l[k].2.p), t, hh⟩, 0)) := by
        unfold Hid lostN; simp only [hp, nds_get hk]; rw [if_neg (by simp [h1])]
      obtain ⟨A, cc, hil, hx⟩ := h.el k hk
      obtain ⟨A1, cap, hO, _, _⟩ := h.open_
      have hdp : b ≠ l[k].1 := block_ne hO hx (by decide)
      have HG := Lib.hid (h.grow (w' := w.alloc (.cells #[.int .i64 n] 3)) (Frm.alloc (Frm.refl _ _) _))
      have HUPD : Hid (∀ wb, Frm (fun j => j = b ∨ j = l[k].1) w wb → (∀ v, w.heap[b]? = some (.cells #[v, .int .i64 t, .bool hh] 64 (0, 0)) → wb.heap[b]? = some (.cells #[v, .int .i64 t, .bool hh] 64 (0, 0))) → NodeAt wb l[k].1 (Nd.new l[k].2.p) → BAt wb b (l.set k (l[k].1, Nd.new l[k].2.p)) t hh) := fun wb hF hb hn => h.upd hk _ hF hb hn
      have hst := Lib.hid (fst_set hk (Nd.new l[k].2.p))
      have hns := Lib.hid (nds_set l k l[k].1 (Nd.new l[k].2.p))
      have hmem : Hid (l[k].1 ∈ l.map (·.1)) := List.mem_map_of_mem (List.getElem_mem hk)
      clear hp h hc hkn HB
      generalize l[k] = q at *
      obtain ⟨p, x⟩ := q
      simp only at r2 hlt h1 hil hx E H hmem hdp hst HUPD hns
      have d0 : w.cell? ⟨p, 0, none⟩ = some (.int .i64 x.p.node) := cell_at hx
      have d1 : w.cell? ⟨p, 1, none⟩ = some (.int .u32 x.p.dev) := cell_at hx
      have d2 : w.cell? ⟨p, 2, none⟩ = some (.int .u32 x.p.i0) := cell_at hx
      have d3 : w.cell? ⟨p, 3, none⟩ = some (.int .u32 x.p.i1) := cell_at hx
      have d4 : w.cell? ⟨p, 4, none⟩ = some (.int .u32 x.p.i2) := cell_at hx
      have d5 : w.cell? ⟨p, 5, none⟩ = some (.int .u32 x.p.i3) := cell_at hx
      have d6 : w.cell? ⟨p, 6, none⟩ = some (.int .u32 x.p.day) := cell_at hx
      have d7 : w.cell? ⟨p, 7, none⟩ = some (.int .u32 x.p.time) := cell_at hx
      have d8 : w.cell? ⟨p, 8, none⟩ = some (.slice A x.p.its.length cc) := cell_at hx
      have d9 : w.cell? ⟨p, 9, none⟩ = some (.bool x.p.mand) := cell_at hx
      have d10 : w.cell? ⟨p, 10, none⟩ = some (.bool x.p.keep) := cell_at hx
      have d11 : w.cell? ⟨p, 11, none⟩ = some (.int .i64 x.is) := cell_at hx
      have d12 : w.cell? ⟨p, 12, none⟩ = some (.int .i64 x.looked) := cell_at hx
      have d13 : w.cell? ⟨p, 13, none⟩ = some (.int .u8 x.status) := cell_at hx
      have hfz := frees hx
      have b1 : (x.is != 1) = false := by simpa using h1
      have HX := Lib.hid hx
      have HO := Lib.hid hO
      clear hx hO h1
      unfold ptr at *
      go_enter Try.func21, Try.ntmps21
      go_wp2_with (go_at_call 26; refine H.out.mono ?_; rintro e w' ⟨rfl, m, rfl⟩)
      go_ret
      refine ⟨by rw [E.out]; rfl, _, ?_, by rw [E.out]; exact hns.out, hst.out, ?_⟩
      rotate_left
      · exact Frm.drewN (Frm.alloc (frm14 (Frm.refl _ w) (Or.inr hmem.out)) _) _
      rw [E.out]
      refine HUPD.out _ ?_ (fun v hv => ?_) ⟨A, cc, hil, ?_⟩
      · exact Frm.drewN (Frm.alloc (frm14 (Frm.refl _ w) (Or.inr rfl)) _) _
      · exact heap_drewN' (heap_alloc_old (other14 hv hdp))
      have hX' : w.heap[p]? = some (.cells #[.int .i64 x.p.node, .int .u32 x.p.dev, .int .u32 x.p.i0, .int .u32 x.p.i1, .int .u32 x.p.i2, .int .u32 x.p.i3, .int .u32 x.p.day, .int .u32 x.p.time, .slice A x.p.its.length cc, .bool x.p.mand, .bool x.p.keep, .int .i64 x.is, .int .i64 x.looked, .int .u8 x.status] 74 (0, 0)) := HX.out
      have hE : (Nd.new x.p).cells A cc = #[.int .i64 x.p.node, .int .u32 x.p.dev, .int .u32 x.p.i0, .int .u32 x.p.i1, .int .u32 x.p.i2, .int .u32 x.p.i3, .int .u32 x.p.day, .int .u32 x.p.time, .slice A x.p.its.length cc, .bool x.p.mand, .bool x.p.keep, .int .i64 0, .int .i64 0, .int .u8 0] := rfl
      rw [hE]
      exact heap_drewN' (heap_alloc_old (store14 hX'))
    · have E : Hid (lostN ⟨nds l, t, hh⟩ n = (⟨nds l, t, hh⟩, 6)) := by
        unfold Hid lostN; simp only [hp, nds_get hk]; rw [if_pos (by simpa using h1)]
      have b1 : (l[k].2.is != 1) = true := by simpa using h1
      clear hp h hc hkn h1
      generalize l[k] = q at *
      obtain ⟨p, x⟩ := q
      simp only at r2 hlt b1 H
      generalize x.is = xi at *
      unfold ptr at *
      go_enter Try.func21, Try.ntmps21
      go_wp2_with (go_at_call 26; refine H.out.mono ?_; rintro e w' ⟨rfl, m, rfl⟩)
      go_ret
      exact ⟨by rw [E.out]; rfl, l, by rw [E.out]; exact HB.out.grow (by (repeat' (first | (with_reducible exact Frm.refl _ _) | (with_reducible assumption) | (with_reducible refine Frm.alloc ?_ _) | (with_reducible refine Frm.drew ?_) | (with_reducible refine Frm.drewN ?_ _) | (with_reducible refine Frm.set1 ?_ _) | (with_reducible refine Frm.setCell ?_ ?_ _) | (exact fun h => absurd h (Nat.lt_irrefl _)) | (intro hlt; simp [World.size_alloc, One] at hlt ⊢; omega)))), by rw [E.out], rfl, by (repeat' (first | (with_reducible exact Frm.refl _ _) | (with_reducible assumption) | (with_reducible refine Frm.alloc ?_ _) | (with_reducible refine Frm.drew ?_) | (with_reducible refine Frm.drewN ?_ _) | (with_reducible refine Frm.set1 ?_ _) | (with_reducible refine Frm.setCell ?_ ?_ _) | (exact fun h => absurd h (Nat.lt_irrefl _)) | (intro hlt; simp [World.size_alloc, One] at hlt ⊢; omega)))⟩
end Go.Proofs.Ytjjmkpjclhielaa
