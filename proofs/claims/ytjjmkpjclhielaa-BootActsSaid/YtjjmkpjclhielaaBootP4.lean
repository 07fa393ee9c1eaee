/-
  The document's Lost.
-/
import Derived.Test.YtjjmkpjclhielaaBootP3
namespace Go.Proofs.Ytjjmkpjclhielaa
open Go.RowKit
set_option linter.unusedVariables false

theorem SlAt.frmS {α : Type} {enc : α → List Value} {sz : Nat} {S : Nat → Prop} {W W' : World} {v : Value} {xs : List α} (hsz : ∀ x, (enc x).length = sz) (h : SlAt enc sz W v xs) (hf : Frm S W W') (hS : ∀ A n c, v = .slice (some A) n c → ¬ S A.block) : SlAt enc sz W' v xs := by
  obtain ⟨A, cap, rfl, h1, h2, h3⟩ := h
  refine ⟨A, cap, rfl, h1, h2, fun h0 => ?_⟩
  obtain ⟨g, off, rfl, hg, hc⟩ := h3 h0
  refine ⟨g, off, rfl, Nat.lt_of_lt_of_le hg hf.size, fun i hi j hj => ?_⟩
  have := hc i hi j hj
  rw [List.getElem?_eq_getElem (by rw [hsz]; exact hj)] at this ⊢
  exact hf.cell this (by have := hS ⟨g, off, none⟩ _ _ rfl; exact this)

theorem arr_set {l : List Nd} {f : Nd → Value} {k : Nat} {x : Nd} {v : Value} (h : v = f x) : ((l.map f).toArray).setIfInBounds k v = ((l.set k x).map f).toArray := by
  subst h
  simp [List.map_set]

theorem RAt.upd {N : Nat} {w w' : World} {d ib lb sb : Nat} {vl : Value} {xs : List Pla} {l : List Nd} {t : Int} {hh hh' : Bool} (h : RAt N w d ib lb sb vl xs l t hh) {k : Nat} (hk : k < l.length) (x : Nd) (hx : x.p = l[k].p)
    (hF : Frm (fun j => j = d ∨ j = ib ∨ j = lb ∨ j = sb) w w')
    (h1 : w'.heap[d]? = some (.cells #[vl, .slice (some ⟨ib, 0, none⟩) l.length l.length, .slice (some ⟨lb, 0, none⟩) l.length l.length, .slice (some ⟨sb, 0, none⟩) l.length l.length, .int .i64 t, .bool hh'] 80 (0, 0)))
    (h2 : w'.heap[ib]? = some (.cells ((l.map fun x => Value.int .i64 x.is).toArray.setIfInBounds k (.int .i64 x.is)) 3 (0, 0)))
    (h3 : w'.heap[lb]? = some (.cells ((l.map fun x => Value.int .i64 x.looked).toArray.setIfInBounds k (.int .i64 x.looked)) 3 (0, 0)))
    (h4 : w'.heap[sb]? = some (.cells ((l.map fun x => Value.int .u8 x.status).toArray.setIfInBounds k (.int .u8 x.status)) 5 (0, 0))) : RAt N w' d ib lb sb vl xs (l.set k x) t hh' := by
  refine ⟨by rw [List.length_set]; exact h1, ?_, ?_, ?_, ?_, ?_, h.il, h.lo, h.pl⟩
  · rw [← arr_set (l := l) (k := k) (x := x) rfl]; exact h2
  · rw [← arr_set (l := l) (k := k) (x := x) rfl]; exact h3
  · rw [← arr_set (l := l) (k := k) (x := x) rfl]; exact h4
  · refine h.ps.frmS encP_len hF (fun A n c e hs => ?_)
    have := h.pl A n c e
    have := h.lo
    rcases hs with e | e | e | e <;> omega
  · rw [List.map_set, hx, ← h.eq]
    have : (l.map (·.p)).set k l[k].p = (l.map (·.p)).set k ((l.map (·.p))[k]'(by simpa using hk)) := by simp
    rw [this, List.set_getElem_self]
theorem RAt.frm {N : Nat} {S : Nat → Prop} {w w' : World} {d ib lb sb : Nat} {vl : Value} {xs : List Pla} {l : List Nd} {t : Int} {hh : Bool} (h : RAt N w d ib lb sb vl xs l t hh) (hF : Frm S w w') (h1 : ¬ S d) (h2 : ¬ S ib) (h3 : ¬ S lb) (h4 : ¬ S sb) (hS : ∀ j, j < N → ¬ S j) : RAt N w' d ib lb sb vl xs l t hh :=
  ⟨hF.heap h.hd h1, hF.heap h.hi h2, hF.heap h.hl h3, hF.heap h.hs h4, h.ps.frmS encP_len hF (fun A n c e => hS _ (h.pl A n c e)), h.eq, h.il, h.lo, h.pl⟩
theorem RAt.grow {N : Nat} {w w' : World} {d ib lb sb : Nat} {vl : Value} {xs : List Pla} {l : List Nd} {t : Int} {hh : Bool} (h : RAt N w d ib lb sb vl xs l t hh) (hF : Frm (fun _ => False) w w') : RAt N w' d ib lb sb vl xs l t hh :=
  h.frm hF (fun h => h) (fun h => h) (fun h => h) (fun h => h) (fun _ _ h => h)
theorem RAt.ne {N : Nat} {w : World} {d ib lb sb : Nat} {vl : Value} {xs : List Pla} {l : List Nd} {t : Int} {hh : Bool} (h : RAt N w d ib lb sb vl xs l t hh) : d ≠ ib ∧ d ≠ lb ∧ d ≠ sb ∧ ib ≠ lb ∧ ib ≠ sb ∧ lb ≠ sb :=
  ⟨block_ne h.hd h.hi (by decide), block_ne h.hd h.hl (by decide), block_ne h.hd h.hs (by decide), h.il, block_ne h.hi h.hs (by decide), block_ne h.hl h.hs (by decide)⟩

theorem cell_set_ne {w : World} {d o b p : Nat} {u v : Value} (h : w.cell? ⟨d, o, none⟩ = some v) (hn : d ≠ b) : (w.setCell ⟨b, p, none⟩ u).cell? ⟨d, o, none⟩ = some v := by
  rw [World.cell?_of_block (w := w) (Below.heap_setCell _ _ _ _ hn)]; exact h
def RLostPost (N d ib lb sb : Nat) (vl : Value) (xs : List Pla) (t : Int) (r : Bs × Int) (w : World) (e : Ending) (w' : World) : Prop :=
  e = .returned (.int .i64 r.2) ∧ RAt N w' d ib lb sb vl xs r.1.l t r.1.halted ∧ Frm (fun j => j = d ∨ j = ib ∨ j = lb ∨ j = sb) w w'

set_option maxRecDepth 100000 in
set_option maxHeartbeats 1000000 in
theorem rlost_any (N d ib lb sb : Nat) (vl : Value) (xs : List Pla) (l : List Nd) (t : Int) (hh : Bool) (n : Int) (w : World) (h : RAt N w d ib lb sb vl xs l t hh) :
    Calls Try.prog 22 #[ptr d, .int .i64 n] w (RLostPost N d ib lb sb vl xs t (lostN ⟨l, t, hh⟩ n) w) := by
  have HF := Lib.hid (rfind_any N d ib lb sb vl xs l t hh n w h)
  have HR := Lib.hid h
  cases hp : placeN l n with
  | none =>
    have E : Hid (lostN ⟨l, t, hh⟩ n = (⟨l, t, hh⟩, 4)) := by unfold Hid lostN; simp only [hp]
    have hfp : FindP l n = -1 := by unfold FindP; rw [hp]
    rw [hfp] at HF
    clear hp h hfp
    unfold ptr at *
    go_enter Try.func22, Try.ntmps22
    go_wp2_with (go_at_call 35; refine HF.out.mono ?_; rintro e w5 ⟨rfl, hw5⟩; subst w5)
    go_ret
    exact ⟨by rw [E.out]; rfl, by rw [E.out]; exact HR.out, Frm.refl _ _⟩
  | some k =>
    obtain ⟨y, hy, hyn⟩ := placeN_some hp
    obtain ⟨hk, hyk⟩ := List.getElem?_eq_some_iff.1 hy
    have hfp : FindP l n = (k : Int) := by unfold FindP; rw [hp]
    rw [hfp] at HF
    obtain ⟨r1, r2, r3, _⟩ := h.read hk
    have c1 : w.cell? ⟨d, 1, none⟩ = some (.slice (some ⟨ib, 0, none⟩) l.length l.length) := cell_at h.hd
    have c2 : w.cell? ⟨d, 2, none⟩ = some (.slice (some ⟨lb, 0, none⟩) l.length l.length) := cell_at h.hd
    have c3 : w.cell? ⟨d, 3, none⟩ = some (.slice (some ⟨sb, 0, none⟩) l.length l.length) := cell_at h.hd
    have hki : (k : Int) < (l.length : Int) := by omega
    have hk0 : (0 : Int) ≤ (k : Int) := by omega
    have hkn : decide ((k : Int) < 0) = false := by simp
    rw [hyk] at r1 r2 r3
    have f1 := frees h.hi
    have f2 := frees h.hl
    have f3 := frees h.hs
    obtain ⟨n1, n2, n3, n4, n5, n6⟩ := h.ne
    by_cases h1 : y.is = 1
    · have E : Hid (lostN ⟨l, t, hh⟩ n = (⟨l.set k (Nd.new y.p), t, hh⟩, 0)) := by
        unfold Hid lostN; simp only [hp, hy]; rw [if_neg (by simp [h1])]
      have HU : Hid (∀ w', _ → _ → _ → _ → _ → RAt N w' d ib lb sb vl xs (l.set k (Nd.new y.p)) t hh) := fun w' a b c e f => h.upd (w' := w') (hh' := hh) hk (Nd.new y.p) (by rw [hyk]; rfl) a b c e f
      have b1 : (y.is != 1) = false := by simpa using h1
      clear hp h hfp hy hyn hyk h1
      generalize y.is = yi at *
      generalize y.looked = yl at *
      generalize y.status = ys at *
      unfold ptr at *
      go_enter Try.func22, Try.ntmps22
      go_wp2_with (go_at_call 35; refine HF.out.mono ?_; rintro e w5 ⟨rfl, hw5⟩; subst w5)
      go_region_held3 (fun w' => w'.cell? ⟨d, 1, none⟩ = some (.slice (some ⟨ib, 0, none⟩) l.length l.length) ∧ w'.cell? ⟨d, 2, none⟩ = some (.slice (some ⟨lb, 0, none⟩) l.length l.length) ∧ w'.cell? ⟨d, 3, none⟩ = some (.slice (some ⟨sb, 0, none⟩) l.length l.length))
        (first | (refine ⟨?_, ?_, ?_⟩ <;> (repeat (first | (with_reducible assumption) | (with_reducible apply cell_drew') | (with_reducible refine cell_set_ne ?_ ?_)))))
        (first | fail)
      all_goals
        go_wp2_with fail
        go_ret
        refine ⟨by rw [E.out]; rfl, ?_, ?_⟩
        · rw [E.out]
          refine HU.out _ (by (repeat' (first | (with_reducible exact Frm.refl _ _) | (with_reducible assumption) | (with_reducible refine Frm.setCell ?_ ?_ _) | (with_reducible refine Frm.drewN ?_ _) | (with_reducible refine Frm.drew ?_) | (exact fun _ => Or.inl rfl) | (exact fun _ => Or.inr (Or.inl rfl)) | (exact fun _ => Or.inr (Or.inr (Or.inl rfl))) | (exact fun _ => Or.inr (Or.inr (Or.inr rfl)))))) ?_ ?_ ?_ ?_
          · (apply heap_fin; (case h => (repeat (first | (with_reducible exact HR.out.hd) | (with_reducible apply heap_alloc_old) | (with_reducible apply heap_drewN') | (with_reducible apply heap_drew') | (with_reducible apply heap_set_same) | (with_reducible refine heap_set_other ?_ (by simp only []; omega)) | (with_reducible exact heap_new_at (by simp))))); (case e => rfl))
          · (apply heap_fin; (case h => (repeat (first | (with_reducible exact HR.out.hi) | (with_reducible apply heap_alloc_old) | (with_reducible apply heap_drewN') | (with_reducible apply heap_drew') | (with_reducible apply heap_set_same) | (with_reducible refine heap_set_other ?_ (by simp only []; omega)) | (with_reducible exact heap_new_at (by simp))))); (case e => rfl))
          · (apply heap_fin; (case h => (repeat (first | (with_reducible exact HR.out.hl) | (with_reducible apply heap_alloc_old) | (with_reducible apply heap_drewN') | (with_reducible apply heap_drew') | (with_reducible apply heap_set_same) | (with_reducible refine heap_set_other ?_ (by simp only []; omega)) | (with_reducible exact heap_new_at (by simp))))); (case e => rfl))
          · (apply heap_fin; (case h => (repeat (first | (with_reducible exact HR.out.hs) | (with_reducible apply heap_alloc_old) | (with_reducible apply heap_drewN') | (with_reducible apply heap_drew') | (with_reducible apply heap_set_same) | (with_reducible refine heap_set_other ?_ (by simp only []; omega)) | (with_reducible exact heap_new_at (by simp))))); (case e => rfl))
        · (repeat' (first | (with_reducible exact Frm.refl _ _) | (with_reducible assumption) | (with_reducible refine Frm.setCell ?_ ?_ _) | (with_reducible refine Frm.drewN ?_ _) | (with_reducible refine Frm.drew ?_) | (exact fun _ => Or.inl rfl) | (exact fun _ => Or.inr (Or.inl rfl)) | (exact fun _ => Or.inr (Or.inr (Or.inl rfl))) | (exact fun _ => Or.inr (Or.inr (Or.inr rfl)))))
    · have E : Hid (lostN ⟨l, t, hh⟩ n = (⟨l, t, hh⟩, 6)) := by
        unfold Hid lostN; simp only [hp, hy]; rw [if_pos (by simpa using h1)]
      have b1 : (y.is != 1) = true := by simpa using h1
      clear hp h hfp hy hyn hyk h1
      generalize y.is = yi at *
      unfold ptr at *
      go_enter Try.func22, Try.ntmps22
      go_wp2_with (go_at_call 35; refine HF.out.mono ?_; rintro e w5 ⟨rfl, hw5⟩; subst w5)
      go_ret
      exact ⟨by rw [E.out]; rfl, by rw [E.out]; exact HR.out, Frm.refl _ _⟩
end Go.Proofs.Ytjjmkpjclhielaa
