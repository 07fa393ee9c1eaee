/-
  Plans in memory of their own.
-/
import Derived.Test.YtjjmkpjclhielaaBootW
import Derived.Test.YtjjmkpjclhielaaDcfO
namespace Go.Proofs.Ytjjmkpjclhielaa
open Go.RowKit
set_option linter.unusedVariables false

theorem row_set {w : World} {B e size n g cap : Nat} {xs : List Value} (h : w.ownsRow B e size (.slice (some ⟨g, 0, none⟩) n cap) n xs) (j : Nat) (hj : j < n * size) (u : Value) : (w.setCell ⟨g, j, none⟩ u).ownsRow B e size (.slice (some ⟨g, 0, none⟩) n cap) n (xs.set j u) := by
  obtain ⟨h1, h2⟩ := h
  refine ⟨by simpa using h1, ?_⟩
  rcases h2 with ⟨h, _⟩ | ⟨g', cap', cur, hv, hg, hh, hc, hm, hs, ht⟩
  · cases h
  · simp only [Value.slice.injEq, Option.some.injEq, Addr.mk.injEq] at hv
    obtain ⟨⟨rfl, _⟩, _, rfl⟩ := hv
    refine .inr ⟨g, cap, cur.setIfInBounds j u, rfl, hg, heap_set_same hh _, hc, hm, by simpa using hs, ?_⟩
    rw [← ht]
    simp [List.take_set]

/-- Plans of one's own, with items of their own. -/
def PlansRow (B : Nat) (w : World) (v : Value) (xs : List Pla) : Prop := w.ownsRow B 38 11 v xs.length (cellsOf encP xs) ∧ ∀ x ∈ xs, ∃ ys, ItemsRow B w x.2 ys ∧ ys.map bare = x.1.its
theorem PlansRow.at_ {B : Nat} {w : World} {v : Value} {xs : List Pla} (h : PlansRow B w v xs) : PlansAt w v xs :=
  ⟨SlAt.of_row encP_len h.1, fun x hx => by obtain ⟨ys, h1, h2⟩ := h.2 x hx; exact ⟨ys, h1.at_, h2⟩⟩
/-- Items' rows do not hang on blocks of plans. -/
theorem ItemsRow.frm {S : Nat → Prop} {B : Nat} {w w' : World} {v : Value} {ys : List Itm} (h : ItemsRow B w v ys) (hF : Frm S w w') (hS : ∀ k cur t, S k → w.heap[k]? = some (.cells cur t (0, 0)) → t ≠ 72 ∧ t ≠ 5) : ItemsRow B w' v ys := by
  refine ⟨hF.row h.1 fun k hk hs => ?_, fun x hx => hF.row (h.2 x hx) fun k hk hs => ?_⟩
  · obtain ⟨_, cur, hc⟩ := row_block h.1 hk
    exact (hS k _ _ hs hc).1 rfl
  · obtain ⟨_, cur, hc⟩ := row_block (h.2 x hx) hk
    exact (hS k _ _ hs hc).2 rfl
theorem cellsOf_set1 {xs : List Pla} (i : Nat) (hi : i < xs.length) (y : Pla) (j : Nat) (hj : j < 11) (u : Value) (hy : encP y = (encP xs[i]).set j u) : (cellsOf encP xs).set (i * 11 + j) u = cellsOf encP (xs.set i y) := by
  induction xs generalizing i with
  | nil => simp at hi
  | cons x r ih =>
    simp only [cellsOf, List.flatMap_cons] at ih ⊢
    cases i with
    | zero =>
      simp only [List.getElem_cons_zero] at hy
      rw [List.set_cons_zero, List.flatMap_cons, hy, Nat.zero_mul, Nat.zero_add, List.set_append_left _ _ (by rw [encP_len]; exact hj)]
    | succ i =>
      have hi' : i < r.length := by simpa using hi
      rw [List.set_cons_succ, List.flatMap_cons, ← ih i hi' (by simpa using hy), List.set_append_right _ _ (by rw [encP_len, Nat.add_mul]; omega), encP_len]
      rw [show (i + 1) * 11 + j - 11 = i * 11 + j by rw [Nat.add_mul]; omega]

def OwnPlans (xs : List Pla) (w : World) (e : Ending) (w' : World) : Prop := Frm (fun _ => False) w w' ∧ ∃ v zs, e = .returned v ∧ zs.map (·.1) = xs.map (·.1) ∧ PlansRow w.heap.size w' v zs

/-- Where the copying stands: the first k have items of their own, the others as they were. -/
def Half (w0 : World) (xs zs : List Pla) (k : Nat) (w : World) : Prop := zs.map (·.1) = xs.map (·.1) ∧ (∀ j (hj : j < zs.length), j < k → ∃ ys, ItemsRow w0.heap.size w zs[j].2 ys ∧ ys.map bare = zs[j].1.its) ∧ (∀ j, k ≤ j → zs[j]? = xs[j]?)

set_option maxRecDepth 100000 in
set_option maxHeartbeats 2000000 in
theorem ownP_any (v : Value) (xs : List Pla) (w : World) (h : PlansAt w v xs) (hl : xs.length * 72 ≤ 140737488351232)
    (hg : ∀ x ∈ xs, x.1.its.length * 32 ≤ 140737488351232 ∧ ∀ it ∈ x.1.its, it.2.2.length ≤ 140737488351232) :
    Calls Try.prog 9 #[v] w (OwnPlans xs w) := by
  obtain ⟨A, cap, rfl, hn⟩ := h.1.cells encP_len (by decide)
  have HN := Lib.hid hn
  have HI := Lib.hid h.2
  have HG := Lib.hid hg
  have hm3 : xs.length ≤ maxLen := by unfold maxLen; omega
  have HONEB : Hid (∀ u ∈ cellsOf encP xs, u.oneCell' = true) := fun u hu => by
    obtain ⟨p, hp, hp2⟩ := List.mem_flatMap.1 hu
    obtain ⟨ys, hys, _⟩ := h.2 p hp
    obtain ⟨Ab, cb, hv, _⟩ := hys.open_
    simp [encP, hv] at hp2
    rcases hp2 with rfl | rfl | rfl | rfl | rfl | rfl | rfl | rfl | rfl | rfl | rfl <;> rfl
  have hl' : xs.length * 72 ≤ 140737488355328 := by omega
  have HLEN : Hid ((cellsOf encP xs).length = xs.length * 11) := cellsOf_length encP_len xs
  have HEMP := Lib.hid (empty_row w 38 11 w.heap.size (Nat.le_refl _))
  clear hn h hg
  go_enter Try.func9, Try.ntmps9
  go_wp2_with (at_builtin; refine wpl_clone rfl el_Plan _ _ rfl rfl rfl (B := w.heap.size) (news := cellsOf encP xs) (Frm.row (S := fun _ => False) (by (repeat' (first | (with_reducible exact Frm.refl _ _) | (with_reducible assumption) | (with_reducible refine Frm.alloc ?_ _) | (with_reducible refine Frm.drew ?_) | (with_reducible refine Frm.drewN ?_ _) | (with_reducible refine Frm.set1 ?_ _) | (with_reducible refine Frm.setCell ?_ ?_ _) | (exact fun h => absurd h (Nat.lt_irrefl _)) | (intro hlt; simp [World.size_alloc, One] at hlt ⊢; omega)))) HEMP.out (fun _ _ h => h)) HLEN.out (fun h0 => NewsOf.grow (HN.out h0) (by (repeat' (first | (with_reducible exact Frm.refl _ _) | (with_reducible assumption) | (with_reducible refine Frm.alloc ?_ _) | (with_reducible refine Frm.drew ?_) | (with_reducible refine Frm.drewN ?_ _) | (with_reducible refine Frm.set1 ?_ _) | (with_reducible refine Frm.setCell ?_ ?_ _) | (exact fun h => absurd h (Nat.lt_irrefl _)) | (intro hlt; simp [World.size_alloc, One] at hlt ⊢; omega))))) HONEB.out hm3 hl' (by simp) ?_; intro A3 cap3 w3 hown3 hfr3)
  have hF3 : Frm (fun _ => False) w w3 := Frm.trans (b := _) (by (repeat' (first | (with_reducible exact Frm.refl _ _) | (with_reducible assumption) | (with_reducible refine Frm.alloc ?_ _) | (with_reducible refine Frm.drew ?_) | (with_reducible refine Frm.drewN ?_ _) | (with_reducible refine Frm.set1 ?_ _) | (with_reducible refine Frm.setCell ?_ ?_ _) | (exact fun h => absurd h (Nat.lt_irrefl _)) | (intro hlt; simp [World.size_alloc, One] at hlt ⊢; omega)))) hfr3 (fun i hi h => by cases h; exact absurd hi (Nat.lt_irrefl _))
  have HF3 := Lib.hid hF3
  have HO3 := Lib.hid hown3
  clear hF3 hown3 hfr3 HN HEMP HLEN HONEB
  go_wp2_with fail
  go_loopw [4] (fun i wr => ∃ (k : Nat) (zs : List Pla), k ≤ xs.length ∧ i = .int .i64 k ∧ wr.ownsRow w.heap.size 38 11 (.slice A3 xs.length cap3) xs.length (cellsOf encP zs) ∧ Half w xs zs k wr ∧ Frm (fun _ => False) w wr) (fun i _ => xs.length - (intOf i).toNat)
  case atStart => exact ⟨0, xs, Nat.zero_le _, rfl, HO3.out, ⟨rfl, fun j hj h => absurd h (by omega), fun j hj => rfl⟩, HF3.out⟩
  case round =>
    obtain ⟨k, zs, hk, rfl, hO, ⟨hz1, hz2, hz3⟩, hF⟩ := hrel
    have hzl : zs.length = xs.length := by have := congrArg List.length hz1; simpa using this
    by_cases hlt : k < xs.length
    · obtain ⟨A9, c9, e9, _, _, hrow⟩ := row_open hO
      simp only [Value.slice.injEq] at e9
      obtain ⟨rfl, _, rfl⟩ := e9
      obtain ⟨g3, rfl, hg3, ⟨cur3, hcur3⟩, hfz3, hc3⟩ := hrow (by omega)
      have hzk : zs[k]? = xs[k]? := hz3 k (Nat.le_refl _)
      have hzk2 : zs[k]'(by omega) = xs[k] := by rw [List.getElem?_eq_getElem (by omega), List.getElem?_eq_getElem hlt] at hzk; exact Option.some.inj hzk
      obtain ⟨ys, hys, hyb⟩ := HI.out _ (List.getElem_mem hlt)
      obtain ⟨hy1, hy2⟩ := HG.out _ (List.getElem_mem hlt)
      have c8 : wr.cell? ⟨g3, k * 11 + 8, none⟩ = some xs[k].2 := by
        rw [hc3 _ (by omega), cellsOf_get encP_len zs k 8 (by omega) (by decide), hzk2]
        rfl
      obtain ⟨Ai, ci, hiv, _⟩ := hys.open_
      rw [hiv] at c8
      have hyl : ys.length * 32 ≤ 140737488351232 := by
        have : ys.length = xs[k].1.its.length := by rw [← hyb]; simp
        rw [this]; exact hy1
      have hybl : ∀ y ∈ ys, y.2.2.2.length ≤ 140737488351232 := fun y hy => hy2 (bare y) (by rw [← hyb]; exact List.mem_map_of_mem hy)
      have hysr : ItemsAt wr (.slice Ai ys.length ci) ys := by rw [← hiv]; exact hys.frm hF
      have HOWN := Lib.hid (own_any _ ys wr hysr hyl hybl)
      have HYB := Lib.hid hyb
      have HZ := Lib.hid (show Half w xs zs k wr from ⟨hz1, hz2, hz3⟩)
      have HZL := Lib.hid hzl
      have HZK : Hid (zs[k]? = some xs[k]) := by unfold Hid; rw [hzk, List.getElem?_eq_getElem hlt]
      have HOR := Lib.hid hO
      have HF := Lib.hid hF
      have hsz := hF.size
      have HCUR := Lib.hid hcur3
      clear hO hz1 hz2 hz3 hzl hrow hc3 hfz3 hzk hzk2 hys hyb hy1 hy2 hiv hyl hybl hysr hF hcur3
      go_wp2_with (go_at_call 28; refine HOWN.out.mono ?_; rintro e w5 ⟨hF5, v5, ys5, rfl, hyb5, hr5⟩; obtain ⟨A5, c5, rfl, _⟩ := row_open hr5.1; have hO5 := hF5.row HOR.out (fun _ _ h => h); have hfz5 := fun j => hO5.frozenAt (g := g3) (n := xs.length) j; have hlt5 : g3 < w5.heap.size := (Nat.lt_of_lt_of_le (lt_of_block HCUR.out) hF5.size); have hc5 : ∃ u, w5.cell? ⟨g3, k * 11 + 8, none⟩ = some u := ⟨_, hF5.cell c8 (fun h => h)⟩; obtain ⟨u5, hu5⟩ := hc5; have HO5 := Lib.hid hO5; have HF5 := Lib.hid hF5; have HR5 := Lib.hid hr5; have HYB5 := Lib.hid hyb5; clear hO5 hF5 hr5 hyb5)
      go_roundw
      case rel =>
        have hzl := HZL.out
        have hkz : k < zs.length := by omega
        have hzk : zs[k] = xs[k] := by
          have := HZK.out
          rw [List.getElem?_eq_getElem hkz] at this
          exact Option.some.inj this
        have hFS : Frm (One g3) w5 (w5.setCell ⟨g3, k * 11 + 8, none⟩ (.slice A5 ys5.length c5)) := (Frm.refl _ _).set1 _
        have hcur5 := HF5.out.heap HCUR.out (fun h => h)
        have hkeep : ∀ (B : Nat) (v : Value) (yy : List Itm), ItemsRow B w5 v yy → ItemsRow B (w5.setCell ⟨g3, k * 11 + 8, none⟩ (.slice A5 ys5.length c5)) v yy := fun B v yy h => h.frm hFS (fun q cur t (e : q = g3) hc => by
          subst e
          rw [hcur5] at hc
          cases hc
          exact ⟨by decide, by decide⟩)
        refine ⟨k + 1, zs.set k (xs[k].1, .slice A5 ys5.length c5), by omega, by go_num, ?_, ⟨?_, fun j hj hjk => ?_, fun j hj => ?_⟩, ?_⟩
        · rw [← cellsOf_set1 k hkz (xs[k].1, .slice A5 ys5.length c5) 8 (by decide) (.slice A5 ys5.length c5) (by rw [hzk]; rfl)]
          exact row_set HO5.out _ (by omega) _
        · rw [List.map_set, HZ.out.1]
          have : (xs.map (·.1)).set k xs[k].1 = (xs.map (·.1)).set k ((xs.map (·.1))[k]'(by simpa using hlt)) := by simp
          rw [this, List.set_getElem_self]
        · have hj' : j < zs.length := by simpa using hj
          by_cases e : k = j
          · subst e
            simp only [List.getElem_set_self]
            exact ⟨ys5, hkeep _ _ _ (HR5.out.base hsz), HYB5.out.trans HYB.out⟩
          · simp only [List.getElem_set_ne e]
            obtain ⟨yy, h1, h2⟩ := HZ.out.2.1 j hj' (by omega)
            exact ⟨yy, hkeep _ _ _ (h1.grow HF5.out), h2⟩
        · rw [List.getElem?_set_ne (by omega)]
          exact HZ.out.2.2 j (by omega)
        · exact (HF.out.trans' HF5.out).setCell (p := ⟨g3, k * 11 + 8, none⟩) (fun h => by simp only at h; omega) _
      case measure => simp [intOf]; omega
    · obtain rfl : k = xs.length := by omega
      have HZ := Lib.hid (show Half w xs zs xs.length wr from ⟨hz1, hz2, hz3⟩)
      have HZL := Lib.hid hzl
      have HO := Lib.hid hO
      have HF := Lib.hid hF
      clear hz1 hz2 hz3 hO hF hzl
      go_wp2_with fail
      go_ret
      refine ⟨HF.out, _, zs, rfl, HZ.out.1, ?_, fun x hx => ?_⟩
      · rw [HZL.out]; exact HO.out
      · obtain ⟨j, hj, rfl⟩ := List.getElem_of_mem hx
        exact HZ.out.2.1 j hj (by have := HZL.out; omega)
end Go.Proofs.Ytjjmkpjclhielaa
