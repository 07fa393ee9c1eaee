/-
  The document's Saw.
-/
import Derived.Test.YtjjmkpjclhielaaBootP4
import Derived.Test.YtjjmkpjclhielaaBootK
namespace Go.Proofs.Ytjjmkpjclhielaa
open Go.RowKit
set_option linter.unusedVariables false

def RSawPost (N d ib lb sb : Nat) (vl : Value) (xs : List Pla) (t : Int) (r : Bs × Int × Int × Int) (w : World) (e : Ending) (w' : World) : Prop :=
  e = .returned (.tuple #[.int .u8 r.2.1, .int .i64 r.2.2.1, .int .i64 r.2.2.2]) ∧ RAt N w' d ib lb sb vl xs r.1.l t r.1.halted ∧ Frm (fun j => j = d ∨ j = ib ∨ j = lb ∨ j = sb) w w'

set_option maxRecDepth 100000 in
set_option maxHeartbeats 1000000 in
theorem rsaw_none (N d ib lb sb : Nat) (vl : Value) (xs : List Pla) (l : List Nd) (t : Int) (hh : Bool) (n : Int) (s : Sn) (w : World) (h : RAt N w d ib lb sb vl xs l t hh) (hp : placeN l n = none) :
    Calls Try.prog 23 #[ptr d, .int .i64 n, valS s] w (RSawPost N d ib lb sb vl xs t (sawOf ⟨l, t, hh⟩ n s) w) := by
  have HR := Lib.hid (fun W hF => h.grow (w' := W) hF)
  have HF := Lib.hid (fun W hF => rfind_any N d ib lb sb vl xs l t hh n W (HR.out W hF))
  have E : Hid (sawOf ⟨l, t, hh⟩ n s = (⟨l, t, hh⟩, 0, 0, 4)) := by unfold Hid sawOf; simp only [hp]
  have hfp : FindP l n = -1 := by unfold FindP; rw [hp]
  rw [hfp] at HF
  clear hp h hfp
  unfold ptr valS at *
  go_enter Try.func23, Try.ntmps23
  go_wp2_with (go_at_call 35; refine (HF.out _ (by (repeat' (first | (with_reducible exact Frm.refl _ _) | (with_reducible assumption) | (with_reducible refine Frm.alloc ?_ _) | (with_reducible refine Frm.drew ?_) | (with_reducible refine Frm.drewN ?_ _) | (with_reducible refine Frm.set1 ?_ _) | (with_reducible refine Frm.setCell ?_ ?_ _) | (exact fun h => absurd h (Nat.lt_irrefl _)) | (intro hlt; simp [World.size_alloc, One] at hlt ⊢; omega))))).mono ?_; rintro e w5 ⟨rfl, hw5⟩; subst w5)
  go_ret3
  exact ⟨by rw [E.out]; rfl, by rw [E.out]; exact HR.out _ (by (repeat' (first | (with_reducible exact Frm.refl _ _) | (with_reducible assumption) | (with_reducible refine Frm.alloc ?_ _) | (with_reducible refine Frm.drew ?_) | (with_reducible refine Frm.drewN ?_ _) | (with_reducible refine Frm.set1 ?_ _) | (with_reducible refine Frm.setCell ?_ ?_ _) | (exact fun h => absurd h (Nat.lt_irrefl _)) | (intro hlt; simp [World.size_alloc, One] at hlt ⊢; omega)))), Frm.alloc (Frm.refl _ _) _⟩

set_option maxRecDepth 100000 in
set_option maxHeartbeats 1000000 in
theorem rsaw_shut (N d ib lb sb : Nat) (vl : Value) (xs : List Pla) (l : List Nd) (t : Int) (hh : Bool) (n : Int) (s : Sn) (w : World) (h : RAt N w d ib lb sb vl xs l t hh) (k : Nat) (y : Nd) (hp : placeN l n = some k) (hy : l[k]? = some y) (hs : y.is ≠ 0 ∨ hh = true) :
    Calls Try.prog 23 #[ptr d, .int .i64 n, valS s] w (RSawPost N d ib lb sb vl xs t (sawOf ⟨l, t, hh⟩ n s) w) := by
  have HR := Lib.hid (fun W hF => h.grow (w' := W) hF)
  have HF := Lib.hid (fun W hF => rfind_any N d ib lb sb vl xs l t hh n W (HR.out W hF))
  have E : Hid (sawOf ⟨l, t, hh⟩ n s = (⟨l, t, hh⟩, 0, 0, 6)) := by unfold Hid sawOf; simp only [hp, hy]; rw [if_pos hs]
  have hfp : FindP l n = (k : Int) := by unfold FindP; rw [hp]
  rw [hfp] at HF
  obtain ⟨hk, hyk⟩ := List.getElem?_eq_some_iff.1 hy
  obtain ⟨r1, _, _, _⟩ := h.read hk
  rw [hyk] at r1
  have c1 : w.cell? ⟨d, 1, none⟩ = some (.slice (some ⟨ib, 0, none⟩) l.length l.length) := cell_at h.hd
  have c5 : w.cell? ⟨d, 5, none⟩ = some (.bool hh) := cell_at h.hd
  have hdl := lt_of_block h.hd
  have hil := lt_of_block h.hi
  have hki : (k : Int) < (l.length : Int) := by omega
  have hk0 : (0 : Int) ≤ (k : Int) := by omega
  have hkn : decide ((k : Int) < 0) = false := by simp
  clear hp h hfp hy hyk
  generalize y.is = yi at *
  unfold ptr valS at *
  by_cases hi : yi = 0
  · obtain rfl : hh = true := hs.resolve_left (fun h => h hi)
    have b0 : (yi != 0) = false := by simpa using hi
    clear hi hs
    go_enter Try.func23, Try.ntmps23
    go_wp2_with (go_at_call 35; refine (HF.out _ (by (repeat' (first | (with_reducible exact Frm.refl _ _) | (with_reducible assumption) | (with_reducible refine Frm.alloc ?_ _) | (with_reducible refine Frm.drew ?_) | (with_reducible refine Frm.drewN ?_ _) | (with_reducible refine Frm.set1 ?_ _) | (with_reducible refine Frm.setCell ?_ ?_ _) | (exact fun h => absurd h (Nat.lt_irrefl _)) | (intro hlt; simp [World.size_alloc, One] at hlt ⊢; omega))))).mono ?_; rintro e w5 ⟨rfl, hw5⟩; subst w5)
    go_ret3
    exact ⟨by rw [E.out]; rfl, by rw [E.out]; exact HR.out _ (by (repeat' (first | (with_reducible exact Frm.refl _ _) | (with_reducible assumption) | (with_reducible refine Frm.alloc ?_ _) | (with_reducible refine Frm.drew ?_) | (with_reducible refine Frm.drewN ?_ _) | (with_reducible refine Frm.set1 ?_ _) | (with_reducible refine Frm.setCell ?_ ?_ _) | (exact fun h => absurd h (Nat.lt_irrefl _)) | (intro hlt; simp [World.size_alloc, One] at hlt ⊢; omega)))), Frm.alloc (Frm.refl _ _) _⟩
  · have b0 : (yi != 0) = true := by simpa using hi
    clear hi hs
    go_enter Try.func23, Try.ntmps23
    go_wp2_with (go_at_call 35; refine (HF.out _ (by (repeat' (first | (with_reducible exact Frm.refl _ _) | (with_reducible assumption) | (with_reducible refine Frm.alloc ?_ _) | (with_reducible refine Frm.drew ?_) | (with_reducible refine Frm.drewN ?_ _) | (with_reducible refine Frm.set1 ?_ _) | (with_reducible refine Frm.setCell ?_ ?_ _) | (exact fun h => absurd h (Nat.lt_irrefl _)) | (intro hlt; simp [World.size_alloc, One] at hlt ⊢; omega))))).mono ?_; rintro e w5 ⟨rfl, hw5⟩; subst w5)
    go_ret3
    exact ⟨by rw [E.out]; rfl, by rw [E.out]; exact HR.out _ (by (repeat' (first | (with_reducible exact Frm.refl _ _) | (with_reducible assumption) | (with_reducible refine Frm.alloc ?_ _) | (with_reducible refine Frm.drew ?_) | (with_reducible refine Frm.drewN ?_ _) | (with_reducible refine Frm.set1 ?_ _) | (with_reducible refine Frm.setCell ?_ ?_ _) | (exact fun h => absurd h (Nat.lt_irrefl _)) | (intro hlt; simp [World.size_alloc, One] at hlt ⊢; omega)))), Frm.alloc (Frm.refl _ _) _⟩

theorem again_cases (c : Int) : (((c != 66) = true ∧ (c != 75) = true ∧ (c != 69) = true ∧ (c != 71) = true) ∧ againOf c = false) ∨ (againOf c = true ∧ ((c != 66) = false ∨ ((c != 66) = true ∧ (c != 75) = false) ∨ ((c != 66) = true ∧ (c != 75) = true ∧ (c != 69) = false) ∨ ((c != 66) = true ∧ (c != 75) = true ∧ (c != 69) = true ∧ (c != 71) = false))) := by
  simp only [againOf, bne]
  cases (c == 66) <;> cases (c == 75) <;> cases (c == 69) <;> cases (c == 71) <;> simp

theorem set_self {α : Type} (a : Array α) (k : Nat) (v : α) (h : a[k]? = some v) : a.setIfInBounds k v = a := by
  apply Array.ext_getElem?
  intro i
  rw [Array.getElem?_setIfInBounds]
  split
  · subst k
    split
    · exact h.symm
    · rename_i h2; exact (Array.getElem?_eq_none (by omega)).symm
  · rfl

def RSawCut (N d ib lb sb : Nat) (vl : Value) (xs : List Pla) (l : List Nd) (t : Int) (c todo : Int) (w : World) (u v : Value) (wx : World) : Prop :=
  u = .int .u8 c ∧ v = .int .i64 todo ∧ RAt N wx d ib lb sb vl xs l t false ∧ Frm (fun _ => False) w wx

set_option maxRecDepth 100000 in
set_option maxHeartbeats 2000000 in
theorem rsaw_open (N d ib lb sb : Nat) (vl : Value) (xs : List Pla) (l : List Nd) (t : Int) (n : Int) (s : Sn) (w : World) (h : RAt N w d ib lb sb vl xs l t false) (k : Nat) (y : Nd) (hp : placeN l n = some k) (hy : l[k]? = some y) (hs : y.is = 0)
    (hlk : 0 ≤ y.looked ∧ y.looked ≤ 1000000) (hit : ∀ x ∈ xs, x.1.its.length ≤ 9223372036854775807 ∧ ∃ A c, x.2 = .slice A x.1.its.length c) :
    Calls Try.prog 23 #[ptr d, .int .i64 n, valS s] w (RSawPost N d ib lb sb vl xs t (sawOf ⟨l, t, false⟩ n s) w) := by
  have HR := Lib.hid (fun W hF => h.grow (w' := W) hF)
  have HF := Lib.hid (fun W hF => rfind_any N d ib lb sb vl xs l t false n W (HR.out W hF))
  have E : Hid (sawOf ⟨l, t, false⟩ n s = (⟨l.set k (y.seen s t), t, decide ((y.seen s t).is = 2) && y.p.mand⟩, (judgeOf y.p s).1, (judgeOf y.p s).2, 0)) := sawOf_open (b := ⟨l, t, false⟩) s hp hy hs rfl
  have hfp : FindP l n = (k : Int) := by unfold FindP; rw [hp]
  rw [hfp] at HF
  obtain ⟨hk, hyk⟩ := List.getElem?_eq_some_iff.1 hy
  obtain ⟨r1, _, _, _⟩ := h.read hk
  rw [hyk, hs] at r1
  obtain ⟨A, cap, hv, hxc, hxc2, hcell⟩ := h.ps
  have hlx := h.len
  have hkx : k < xs.length := by omega
  obtain ⟨g, off, rfl, hgl, hcell⟩ := hcell (by omega)
  subst hv
  have hpx : xs[k].1 = y.p := by
    have := congrArg (fun z => z[k]?) h.eq
    simp only [List.getElem?_map, hy, List.getElem?_eq_getElem hkx, Option.map_some, Option.some.injEq] at this
    exact this.symm
  obtain ⟨hil, Ai, ci, hxv⟩ := hit _ (List.getElem_mem hkx)
  have hcl := hcell k hkx
  have c0 : w.cell? ⟨d, 0, none⟩ = some (.slice (some ⟨g, off, none⟩) xs.length cap) := cell_at h.hd
  have c1 : w.cell? ⟨d, 1, none⟩ = some (.slice (some ⟨ib, 0, none⟩) l.length l.length) := cell_at h.hd
  have c5 : w.cell? ⟨d, 5, none⟩ = some (.bool false) := cell_at h.hd
  have hdl := lt_of_block h.hd
  have hib := lt_of_block h.hi
  have hki : (k : Int) < (l.length : Int) := by omega
  have hkxi : (k : Int) < (xs.length : Int) := by omega
  have hk0 : (0 : Int) ≤ (k : Int) := by omega
  have hkn : decide ((k : Int) < 0) = false := by simp
  have HY := Lib.hid hy
  have HYK := Lib.hid hyk
  have HS := Lib.hid hs
  obtain ⟨p, hpp⟩ : ∃ p, p = y.p := ⟨_, rfl⟩
  rw [hpx] at hil hxv
  have a0 : w.cell? ⟨g, off + k * 11, none⟩ = some (.int .i64 y.p.node) := by rw [← hpx]; exact hcl 0 (by decide)
  have a1 : w.cell? ⟨g, off + k * 11 + 1, none⟩ = some (.int .u32 y.p.dev) := by rw [← hpx]; exact hcl 1 (by decide)
  have a2 : w.cell? ⟨g, off + k * 11 + 2, none⟩ = some (.int .u32 y.p.i0) := by rw [← hpx]; exact hcl 2 (by decide)
  have a3 : w.cell? ⟨g, off + k * 11 + 3, none⟩ = some (.int .u32 y.p.i1) := by rw [← hpx]; exact hcl 3 (by decide)
  have a4 : w.cell? ⟨g, off + k * 11 + 4, none⟩ = some (.int .u32 y.p.i2) := by rw [← hpx]; exact hcl 4 (by decide)
  have a5 : w.cell? ⟨g, off + k * 11 + 5, none⟩ = some (.int .u32 y.p.i3) := by rw [← hpx]; exact hcl 5 (by decide)
  have a6 : w.cell? ⟨g, off + k * 11 + 6, none⟩ = some (.int .u32 y.p.day) := by rw [← hpx]; exact hcl 6 (by decide)
  have a7 : w.cell? ⟨g, off + k * 11 + 7, none⟩ = some (.int .u32 y.p.time) := by rw [← hpx]; exact hcl 7 (by decide)
  have a8 : w.cell? ⟨g, off + k * 11 + 8, none⟩ = some (.slice Ai y.p.its.length ci) := by rw [← hxv]; exact hcl 8 (by decide)
  have a9 : w.cell? ⟨g, off + k * 11 + 9, none⟩ = some (.bool y.p.mand) := by rw [← hpx]; exact hcl 9 (by decide)
  have a10 : w.cell? ⟨g, off + k * 11 + 10, none⟩ = some (.bool y.p.keep) := by rw [← hpx]; exact hcl 10 (by decide)
  have HJ := Lib.hid (fun W => rjudge_any y.p s Ai ci W hil)
  have HU : Hid (∀ (wa wb : World) hh' (ha : RAt N wa d ib lb sb (.slice (some ⟨g, off, none⟩) xs.length cap) xs l t false), _ → _ → _ → _ → _ → RAt N wb d ib lb sb (.slice (some ⟨g, off, none⟩) xs.length cap) xs (l.set k (y.seen s t)) t hh') := fun wa wb hh' ha a b c e f => ha.upd (w' := wb) (hh' := hh') hk (y.seen s t) (by rw [hyk]; rfl) a b c e f
  clear hcl hcell hpp hp hfp hy hyk hs hxc hxc2 hpx hxv
  unfold ptr valS valP JudgeP at *
  go_enter Try.func23, Try.ntmps23
  go_upto_region 6 with (go_at_call 35; refine (HF.out _ (by (repeat' (first | (with_reducible exact Frm.refl _ _) | (with_reducible assumption) | (with_reducible refine Frm.alloc ?_ _) | (with_reducible refine Frm.drew ?_) | (with_reducible refine Frm.drewN ?_ _) | (with_reducible refine Frm.set1 ?_ _) | (with_reducible refine Frm.setCell ?_ ?_ _) | (exact fun h => absurd h (Nat.lt_irrefl _)) | (intro hlt; simp [World.size_alloc, One] at hlt ⊢; omega))))).mono ?_; rintro e w5 ⟨rfl, hw5⟩; subst w5)
  go_cut [10, 11] (fun u v wx => RSawCut N d ib lb sb (.slice (some ⟨g, off, none⟩) xs.length cap) xs l t (judgeOf y.p s).1 (judgeOf y.p s).2 w u v wx)
  case first =>
    go_region_law (refine step_call 16 (by rfl) (by rfl) Try.func16 (by rfl) (by rfl) (by rfl) ((HJ.out _).mono ?_); rintro e w3 ⟨rfl, hF3⟩; refine CallK.ret ?_)
    all_goals
      have hF3' : Frm (fun _ => False) w w3 := Frm.trans' (by (repeat' (first | (with_reducible exact Frm.refl _ _) | (with_reducible assumption) | (with_reducible refine Frm.alloc ?_ _) | (with_reducible refine Frm.drew ?_) | (with_reducible refine Frm.drewN ?_ _) | (with_reducible refine Frm.set1 ?_ _) | (with_reducible refine Frm.setCell ?_ ?_ _) | (exact fun h => absurd h (Nat.lt_irrefl _)) | (intro hlt; simp [World.size_alloc, One] at hlt ⊢; omega)))) hF3
      go_wp2_with fail
      go_meet
      exact ⟨rfl, rfl, HR.out _ hF3', hF3'⟩
  case rest =>
    obtain ⟨rfl, rfl, hB, hF⟩ := hcut
    obtain ⟨r1, r2, r3, g', off', cap', hv', -, r9⟩ := hB.read hk
    simp only [Value.slice.injEq, Option.some.injEq, Addr.mk.injEq] at hv'
    obtain ⟨⟨rfl, rfl, -⟩, -, rfl⟩ := hv'
    rw [HYK.out] at r1 r2 r3 r9
    have e0 : wc.cell? ⟨d, 0, none⟩ = some (.slice (some ⟨g, off, none⟩) xs.length cap) := cell_at hB.hd
    have e1 : wc.cell? ⟨d, 1, none⟩ = some (.slice (some ⟨ib, 0, none⟩) l.length l.length) := cell_at hB.hd
    have e2 : wc.cell? ⟨d, 2, none⟩ = some (.slice (some ⟨lb, 0, none⟩) l.length l.length) := cell_at hB.hd
    have e3 : wc.cell? ⟨d, 3, none⟩ = some (.slice (some ⟨sb, 0, none⟩) l.length l.length) := cell_at hB.hd
    have e4 : wc.cell? ⟨d, 4, none⟩ = some (.int .i64 t) := cell_at hB.hd
    have e5 : wc.cell? ⟨d, 5, none⟩ = some (.bool false) := cell_at hB.hd
    have f0 := frees hB.hd
    have f1 := frees hB.hi
    have f2 := frees hB.hl
    have f3 := frees hB.hs
    have dl5 := lt_of_block hB.hd
    have il5 := lt_of_block hB.hi
    have ll5 := lt_of_block hB.hl
    have sl5 := lt_of_block hB.hs
    obtain ⟨n1, n2, n3, n4, n5, n6⟩ := hB.ne
    have hgN : g < N := h.pl ⟨g, off, none⟩ _ _ rfl
    have hlo := h.lo
    have m1 : g ≠ d := by omega
    have m2 : g ≠ ib := by omega
    have m3 : g ≠ lb := by omega
    have m4 : g ≠ sb := by omega
    have hl0 := hlk.1
    have hl1 := hlk.2
    have HB := Lib.hid hB
    have HSELF : Hid ((l.map (fun x => Value.int .i64 x.is)).toArray.setIfInBounds k (.int .i64 0) = (l.map (fun x => Value.int .i64 x.is)).toArray) := by
      refine set_self _ _ _ ?_
      simp [HY.out, HS.out]
    have HFc := Lib.hid hF
    have HRU := Lib.hid (fun h => seen_run (x := y) (s := s) (t := t) h)
    have HUP := Lib.hid (fun h h2 => seen_up (x := y) (s := s) (t := t) h h2)
    have HST := Lib.hid (fun h h2 => seen_still (x := y) (s := s) (t := t) h h2)
    obtain ⟨c, hc⟩ : ∃ c, (judgeOf y.p s).1 = c := ⟨_, rfl⟩
    obtain ⟨todo, htd⟩ : ∃ c, (judgeOf y.p s).2 = c := ⟨_, rfl⟩
    rw [hc] at HRU HUP HST
    rw [hc, htd] at E ⊢
    clear hc htd hB hF HJ HR HF c0 c1 c5 a0 a1 a2 a3 a4 a5 a6 a7 a8 a9 a10 h hlk
    by_cases h1 : c = 0 ∨ c = 76
    · have hsn := HRU.out h1
      rw [hsn] at E HU
      simp only [show decide ((1 : Int) = 2) = false from rfl, Bool.false_and] at E
      have h1' : (c == 0) = true ∨ ((c == 0) = false ∧ (c == 76) = true) := by
        rcases h1 with rfl | rfl <;> simp
      clear h1 hsn
      rcases h1' with b1 | ⟨b1, b2⟩
      all_goals
        go_wp2_with fail
        go_ret3
        refine ⟨by rw [E.out]; rfl, ?_, ?_⟩
        · rw [E.out]
          refine HU.out wc _ false HB.out (by (repeat' (first | (with_reducible exact Frm.refl _ _) | (with_reducible assumption) | (with_reducible refine Frm.setCell ?_ ?_ _) | (with_reducible refine Frm.drewN ?_ _) | (with_reducible refine Frm.drew ?_) | (exact fun _ => Or.inl rfl) | (exact fun _ => Or.inr (Or.inl rfl)) | (exact fun _ => Or.inr (Or.inr (Or.inl rfl))) | (exact fun _ => Or.inr (Or.inr (Or.inr rfl)))))) ?_ ?_ ?_ ?_
          · (apply heap_fin; (case h => (repeat (first | (with_reducible exact HB.out.hd) | (with_reducible apply heap_alloc_old) | (with_reducible apply heap_drewN') | (with_reducible apply heap_drew') | (with_reducible apply heap_set_same) | (with_reducible refine heap_set_other ?_ (by simp only []; omega)) | (with_reducible exact heap_new_at (by simp))))); (case e => rfl))
          · (apply heap_fin; (case h => (repeat (first | (with_reducible exact HB.out.hi) | (with_reducible apply heap_alloc_old) | (with_reducible apply heap_drewN') | (with_reducible apply heap_drew') | (with_reducible apply heap_set_same) | (with_reducible refine heap_set_other ?_ (by simp only []; omega)) | (with_reducible exact heap_new_at (by simp))))); (case e => rfl))
          · (apply heap_fin; (case h => (repeat (first | (with_reducible exact HB.out.hl) | (with_reducible apply heap_alloc_old) | (with_reducible apply heap_drewN') | (with_reducible apply heap_drew') | (with_reducible apply heap_set_same) | (with_reducible refine heap_set_other ?_ (by simp only []; omega)) | (with_reducible exact heap_new_at (by simp))))); (case e => rfl))
          · (apply heap_fin; (case h => (repeat (first | (with_reducible exact HB.out.hs) | (with_reducible apply heap_alloc_old) | (with_reducible apply heap_drewN') | (with_reducible apply heap_drew') | (with_reducible apply heap_set_same) | (with_reducible refine heap_set_other ?_ (by simp only []; omega)) | (with_reducible exact heap_new_at (by simp))))); (case e => rfl))
        · refine Frm.trans (HFc.out.mono (T := fun j => j = d ∨ j = ib ∨ j = lb ∨ j = sb) (fun _ _ h => h.elim)) (b := wc) ?_ (fun _ _ h => h)
          (repeat' (first | (with_reducible exact Frm.refl _ _) | (with_reducible assumption) | (with_reducible refine Frm.setCell ?_ ?_ _) | (with_reducible refine Frm.drewN ?_ _) | (with_reducible refine Frm.drew ?_) | (exact fun _ => Or.inl rfl) | (exact fun _ => Or.inr (Or.inl rfl)) | (exact fun _ => Or.inr (Or.inr (Or.inl rfl))) | (exact fun _ => Or.inr (Or.inr (Or.inr rfl)))))
    · have b0 : (c == 0) = false := by
        have : c ≠ 0 := fun e => h1 (.inl e)
        simpa using this
      have b2 : (c == 76) = false := by
        have : c ≠ 76 := fun e => h1 (.inr e)
        simpa using this
      obtain ⟨md, hmd⟩ : ∃ n, y.p.mand = n := ⟨_, rfl⟩
      rw [hmd] at r9 E
      have HMD := Lib.hid hmd
      clear hmd
      have hc := again_cases c
      by_cases ha : againOf c = false ∨ t ≤ y.looked + 1
      · have hsn := HUP.out h1 ha
        rw [hsn] at E HU
        simp only [show decide ((2 : Int) = 2) = true from rfl, Bool.true_and] at E
        have hc' : ((c != 66) = true ∧ (c != 75) = true ∧ (c != 69) = true ∧ (c != 71) = true) ∨ (t ≤ y.looked + 1 ∧ ((c != 66) = false ∨ ((c != 66) = true ∧ (c != 75) = false) ∨ ((c != 66) = true ∧ (c != 75) = true ∧ (c != 69) = false) ∨ ((c != 66) = true ∧ (c != 75) = true ∧ (c != 69) = true ∧ (c != 71) = false))) := by
          rcases hc with ⟨hc, _⟩ | ⟨hg, hc⟩
          · exact .inl hc
          · exact .inr ⟨ha.resolve_left (by rw [hg]; simp), hc⟩
        clear h1 hsn ha hc
        rcases hc' with ⟨a1, a2, a3, a4⟩ | ⟨hle, a1 | ⟨a1, a2⟩ | ⟨a1, a2, a3⟩ | ⟨a1, a2, a3, a4⟩⟩
        all_goals cases md
        all_goals
          go_wp2_with fail
          go_quiet (fail)
          go_wp2_with fail
          all_goals (first | skip)
          go_ret3
          refine ⟨by rw [E.out]; rfl, ?_, ?_⟩
          · rw [E.out]
            refine HU.out wc _ _ HB.out (by (repeat' (first | (with_reducible exact Frm.refl _ _) | (with_reducible assumption) | (with_reducible refine Frm.setCell ?_ ?_ _) | (with_reducible refine Frm.drewN ?_ _) | (with_reducible refine Frm.drew ?_) | (exact fun _ => Or.inl rfl) | (exact fun _ => Or.inr (Or.inl rfl)) | (exact fun _ => Or.inr (Or.inr (Or.inl rfl))) | (exact fun _ => Or.inr (Or.inr (Or.inr rfl)))))) ?_ ?_ ?_ ?_
            · (apply heap_fin; (case h => (repeat (first | (with_reducible exact HB.out.hd) | (with_reducible apply heap_alloc_old) | (with_reducible apply heap_drewN') | (with_reducible apply heap_drew') | (with_reducible apply heap_set_same) | (with_reducible refine heap_set_other ?_ (by simp only []; omega)) | (with_reducible exact heap_new_at (by simp))))); (case e => rfl))
            · (apply heap_fin; (case h => (repeat (first | (with_reducible exact HB.out.hi) | (with_reducible apply heap_alloc_old) | (with_reducible apply heap_drewN') | (with_reducible apply heap_drew') | (with_reducible apply heap_set_same) | (with_reducible refine heap_set_other ?_ (by simp only []; omega)) | (with_reducible exact heap_new_at (by simp))))); (case e => rfl))
            · (apply heap_fin; (case h => (repeat (first | (with_reducible exact HB.out.hl) | (with_reducible apply heap_alloc_old) | (with_reducible apply heap_drewN') | (with_reducible apply heap_drew') | (with_reducible apply heap_set_same) | (with_reducible refine heap_set_other ?_ (by simp only []; omega)) | (with_reducible exact heap_new_at (by simp))))); (case e => rfl))
            · (apply heap_fin; (case h => (repeat (first | (with_reducible exact HB.out.hs) | (with_reducible apply heap_alloc_old) | (with_reducible apply heap_drewN') | (with_reducible apply heap_drew') | (with_reducible apply heap_set_same) | (with_reducible refine heap_set_other ?_ (by simp only []; omega)) | (with_reducible exact heap_new_at (by simp))))); (case e => rfl))
          · refine Frm.trans (HFc.out.mono (T := fun j => j = d ∨ j = ib ∨ j = lb ∨ j = sb) (fun _ _ h => h.elim)) (b := wc) ?_ (fun _ _ h => h)
            (repeat' (first | (with_reducible exact Frm.refl _ _) | (with_reducible assumption) | (with_reducible refine Frm.setCell ?_ ?_ _) | (with_reducible refine Frm.drewN ?_ _) | (with_reducible refine Frm.drew ?_) | (exact fun _ => Or.inl rfl) | (exact fun _ => Or.inr (Or.inl rfl)) | (exact fun _ => Or.inr (Or.inr (Or.inl rfl))) | (exact fun _ => Or.inr (Or.inr (Or.inr rfl)))))
      · have hsn := HST.out h1 ha
        rw [hsn] at E HU
        simp only [show decide ((0 : Int) = 2) = false from rfl, Bool.false_and] at E
        have hlt : y.looked + 1 < t := by
          have : ¬ (t ≤ y.looked + 1) := fun h => ha (.inr h)
          omega
        have hc' : ((c != 66) = false ∨ ((c != 66) = true ∧ (c != 75) = false) ∨ ((c != 66) = true ∧ (c != 75) = true ∧ (c != 69) = false) ∨ ((c != 66) = true ∧ (c != 75) = true ∧ (c != 69) = true ∧ (c != 71) = false)) := by
          rcases hc with ⟨_, hg⟩ | ⟨hg, hc⟩
          · exact absurd (.inl hg) ha
          · exact hc
        clear h1 hsn ha hc
        rcases hc' with a1 | ⟨a1, a2⟩ | ⟨a1, a2, a3⟩ | ⟨a1, a2, a3, a4⟩
        all_goals
          go_wp2_with fail
          go_quiet (fail)
          go_wp2_with fail
          go_ret3
          refine ⟨by rw [E.out]; rfl, ?_, ?_⟩
          · rw [E.out]
            refine HU.out wc _ _ HB.out (by (repeat' (first | (with_reducible exact Frm.refl _ _) | (with_reducible assumption) | (with_reducible refine Frm.setCell ?_ ?_ _) | (with_reducible refine Frm.drewN ?_ _) | (with_reducible refine Frm.drew ?_) | (exact fun _ => Or.inl rfl) | (exact fun _ => Or.inr (Or.inl rfl)) | (exact fun _ => Or.inr (Or.inr (Or.inl rfl))) | (exact fun _ => Or.inr (Or.inr (Or.inr rfl)))))) ?_ ?_ ?_ ?_
            · (apply heap_fin; (case h => (repeat (first | (with_reducible exact HB.out.hd) | (with_reducible apply heap_alloc_old) | (with_reducible apply heap_drewN') | (with_reducible apply heap_drew') | (with_reducible apply heap_set_same) | (with_reducible refine heap_set_other ?_ (by simp only []; omega)) | (with_reducible exact heap_new_at (by simp))))); (case e => rfl))
            · refine Eq.trans ?_ (congrArg (fun a => some (Obj.cells a 3)) HSELF.out.symm); (apply heap_fin; (case h => (repeat (first | (with_reducible exact HB.out.hi) | (with_reducible apply heap_alloc_old) | (with_reducible apply heap_drewN') | (with_reducible apply heap_drew') | (with_reducible apply heap_set_same) | (with_reducible refine heap_set_other ?_ (by simp only []; omega)) | (with_reducible exact heap_new_at (by simp))))); (case e => rfl))
            · (apply heap_fin; (case h => (repeat (first | (with_reducible exact HB.out.hl) | (with_reducible apply heap_alloc_old) | (with_reducible apply heap_drewN') | (with_reducible apply heap_drew') | (with_reducible apply heap_set_same) | (with_reducible refine heap_set_other ?_ (by simp only []; omega)) | (with_reducible exact heap_new_at (by simp))))); (case e => rfl))
            · (apply heap_fin; (case h => (repeat (first | (with_reducible exact HB.out.hs) | (with_reducible apply heap_alloc_old) | (with_reducible apply heap_drewN') | (with_reducible apply heap_drew') | (with_reducible apply heap_set_same) | (with_reducible refine heap_set_other ?_ (by simp only []; omega)) | (with_reducible exact heap_new_at (by simp))))); (case e => rfl))
          · refine Frm.trans (HFc.out.mono (T := fun j => j = d ∨ j = ib ∨ j = lb ∨ j = sb) (fun _ _ h => h.elim)) (b := wc) ?_ (fun _ _ h => h)
            (repeat' (first | (with_reducible exact Frm.refl _ _) | (with_reducible assumption) | (with_reducible refine Frm.setCell ?_ ?_ _) | (with_reducible refine Frm.drewN ?_ _) | (with_reducible refine Frm.drew ?_) | (exact fun _ => Or.inl rfl) | (exact fun _ => Or.inr (Or.inl rfl)) | (exact fun _ => Or.inr (Or.inr (Or.inl rfl))) | (exact fun _ => Or.inr (Or.inr (Or.inr rfl)))))
end Go.Proofs.Ytjjmkpjclhielaa
