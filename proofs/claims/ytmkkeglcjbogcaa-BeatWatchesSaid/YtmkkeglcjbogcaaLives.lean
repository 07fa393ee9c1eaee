/-
  That the law's own look at the living ('lives') is true.
-/
import Derived.Test.YtmkkeglcjbogcaaTake
namespace Go.Proofs.Ytmkkeglcjbogcaa
open Go.RowKit
set_option linter.unusedVariables false

theorem one_watch {w : World} (n t : Int) {g : Nat} (hg : g = w.heap.size) : WatchesAt (w.alloc (.cells #[.int .i64 n, .int .u64 t] 37)) (.slice (some ⟨g, 0, none⟩) 1 1) [(n, t)] := by
  subst hg
  refine ⟨_, 1, rfl, fun _ => ⟨_, 0, rfl, by simp, fun i hi => ?_⟩⟩
  obtain rfl : i = 0 := by simp at hi; omega
  simp

theorem one_byte {w : World} {v : Value} {g : Nat} {c : UInt8} {k : Int} (hv : v = .slice (some ⟨g, 0, none⟩) 1 1) (h : w.cell? ⟨g, 0, none⟩ = some (.int .u8 k)) (hk : k = c.toNat) : BytesAt w v [c] := by
  subst hv hk
  refine ⟨_, 1, rfl, Nat.le_refl _, by decide, fun _ => ⟨g, 0, rfl, fun i hi => ?_⟩⟩
  obtain rfl : i = 0 := by simp at hi; omega
  simpa using h

theorem one_news {w : World} (n k s : Int) {g : Nat} (hg : g = w.heap.size) : NewsAt (w.alloc (.cells #[.int .i64 n, .int .i64 k, .int .i64 s] 48)) (.slice (some ⟨g, 0, none⟩) 1 1) [(n, k, s)] :=
  ⟨0, row_new hg rfl rfl (by decide) (Nat.zero_le _)⟩

def LivesPost (w : World) (e : Ending) (w' : World) : Prop := e = .returned (.bool true) ∧ Frm (fun _ => False) w w'

set_option maxRecDepth 100000 in
set_option maxHeartbeats 1000000 in
theorem lives_any (w : World) : Calls Try.prog 22 #[] w (LivesPost w) := by
  go_enter Try.func22, Try.ntmps22
  go_wp2_with (go_at_call 24; go_in)
  refine (new_any _ [(5, 1)] _ (one_watch 5 1 (by simp)) (by simp) (by simp)).mono ?_
  rintro e w1 ⟨hF1, (⟨hc, _⟩ | ⟨hc, b, l, rfl, hW, hl, hb, hnew⟩)⟩
  · exact absurd (by decide) hc
  have hH : HeartAt w1 w.heap.size 1 1 := hF1.heap (heap_alloc_old (heap_new _ _)) (fun h => h)
  have hF1' := Lib.hid hF1
  have HW := Lib.hid hW
  have HL := Lib.hid hl
  have HN := Lib.hid hnew
  have hbl := hF1.size
  clear hF1 hW hl hnew hc
  unfold ptr
  go_wp2_with fail
  refine (heart_tick w.heap.size 1 1 5 w1 hH (by decide) (by decide) (by decide)).mono ?_
  rintro e w2 ⟨v2, rfl, hH2, hF2, _, hv2⟩
  obtain ⟨g2, hg2, hc2⟩ := hv2 (by decide)
  have hB2 : BytesAt w2 v2 [5] := one_byte hg2 hc2 rfl
  have hne : ¬ One w.heap.size b := fun (e : b = w.heap.size) => by
    obtain ⟨v0, hO, _⟩ := HW.out.row
    exact block_ne hO (e ▸ hH) (by decide) rfl
  have HW2 := Lib.hid (HW.out.frm hF2 hne (fun k c t hc ht (e : k = w.heap.size) => by
    subst e
    rw [hH] at hc
    cases hc
    rcases ht with h | h <;> exact absurd h (by decide)))
  have HF2 := Lib.hid hF2
  have HB2 := Lib.hid hB2
  subst hg2
  have hs2 := hF2.size
  clear hH hH2 hF2 hc2 hB2 hne hv2
  have e1 : beats 1 1 5 = true := by decide
  rw [e1]
  go_wp2_with fail
  refine (take_any b l 5 _ [5] _ HW2.out HB2.out).mono ?_
  rintro e w3 ⟨v3, rfl, hr3, hW3, hF3⟩
  obtain ⟨p, hl⟩ : ∃ p, l = [(p, Wd.new (5, 1))] := by
    have := HL.out
    match l, this with
    | [(p, x)], h => exact ⟨p, by simpa using h⟩
  subst hl
  have e2 : takeOf [(p, Wd.new (5, 1))] 5 [5] = ([(p, ⟨5, 1, 5, true, false, 0⟩)], [(5, 1, 5)], true) := by
    simp [takeOf, Wd.new, Wd.take, List.findIdx?, List.findIdx?.go]
  rw [e2] at hr3 hW3 ⊢
  simp only at hr3 hW3 ⊢
  have hs3 := hF3.size
  have HR3 := Lib.hid hr3
  have HW3 := Lib.hid hW3
  have HF3 := Lib.hid hF3
  clear hr3 hW3 hF3
  go_wp2_with fail
  have hp := HN.out (p, Wd.new (5, 1)) (by simp)
  simp at hp hbl
  have hF04 : Frm (fun _ => False) w w3 := by
    refine Frm.trans (b := w2) (Frm.trans (b := w1) ?_ HF2.out ?_) HF3.out ?_
    · refine Frm.trans' (b := _) ?_ hF1'.out
      (repeat' (first | (with_reducible exact Frm.refl _ _) | (with_reducible assumption) | (with_reducible refine Frm.alloc ?_ _) | (with_reducible refine Frm.drew ?_) | (with_reducible refine Frm.drewN ?_ _) | (with_reducible refine Frm.set1 ?_ _) | (with_reducible refine Frm.setCell ?_ ?_ _) | (intro hlt; simp [World.size_alloc, One] at hlt ⊢; omega)))
    · intro i hi (h : i = w.heap.size); omega
    · intro i hi h
      simp at h
      omega
  have HF4 := Lib.hid hF04
  clear hF04
  refine (same_any v3 _ [(5, 1, 5)] [(5, 1, 5)] _ ⟨_, HR3.out.alloc _⟩ (one_news 5 1 5 (by simp))).mono ?_
  rintro e w4 ⟨rfl, n4, rfl⟩
  go_wp2_with fail
  refine (tick_any b [(p, ⟨5, 1, 5, true, false, 0⟩)] _ ?_ (by simp) (by simp)).mono ?_
  · exact HW3.out.frm (S := fun _ => False) (by (repeat' (first | (with_reducible exact Frm.refl _ _) | (with_reducible assumption) | (with_reducible refine Frm.alloc ?_ _) | (with_reducible refine Frm.drew ?_) | (with_reducible refine Frm.drewN ?_ _) | (with_reducible refine Frm.set1 ?_ _) | (with_reducible refine Frm.setCell ?_ ?_ _) | (intro hlt; simp [World.size_alloc, One] at hlt ⊢; omega)))) (fun h => h) (fun _ _ _ _ _ h => h)
  rintro e w5 ⟨v5, rfl, hr5, hW5, hF5⟩
  have e5 : tickNews [(p, ⟨5, 1, 5, true, false, 0⟩)] = [(5, 3, 5)] := by simp [tickNews, Wd.tick]
  rw [e5] at hr5
  have hs5 := hF5.size
  have HR5 := Lib.hid hr5
  have HF5 := Lib.hid hF5
  clear hr5 hW5 hF5
  go_wp2_with fail
  refine (same_any v5 _ [(5, 3, 5)] [(5, 3, 5)] _ ⟨_, HR5.out.alloc _⟩ (one_news 5 3 5 (by simp))).mono ?_
  rintro e w6 ⟨rfl, n6, rfl⟩
  go_wp2_with fail
  go_ret
  refine ⟨rfl, ?_⟩
  refine Frm.drewN (Frm.alloc ?_ _) _
  refine Frm.trans (b := _) ?_ HF5.out ?_
  · refine Frm.trans' HF4.out ?_
    (repeat' (first | (with_reducible exact Frm.refl _ _) | (with_reducible assumption) | (with_reducible refine Frm.alloc ?_ _) | (with_reducible refine Frm.drew ?_) | (with_reducible refine Frm.drewN ?_ _) | (with_reducible refine Frm.set1 ?_ _) | (with_reducible refine Frm.setCell ?_ ?_ _) | (intro hlt; simp [World.size_alloc, One] at hlt ⊢; omega)))
  · intro i hi h
    simp at h
    omega
end Go.Proofs.Ytmkkeglcjbogcaa
