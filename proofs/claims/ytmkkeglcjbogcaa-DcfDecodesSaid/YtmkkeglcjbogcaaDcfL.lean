/-
  That the law's own look at the living ('lives') is true.
-/
import Derived.Test.YtmkkeglcjbogcaaDcfG
namespace Go.Proofs.Ytmkkeglcjbogcaa
open Go.RowKit
set_option linter.unusedVariables false

theorem enc_one : encOf [((4119 : Int), (0 : Int), [(232 : UInt8), 3])] = [1, 0, 0, 0, 23, 16, 0, 2, 0, 0, 0, 232, 3] := by decide
theorem dec_one : decOf [1, 0, 0, 0, 23, 16, 0, 2, 0, 0, 0, 232, 3] = ([((4119 : Int), (0 : Int), [(232 : UInt8), 3])], 0) := by decide

def LivesD (w : World) (e : Ending) (w' : World) : Prop := e = .returned (.bool true) ∧ Frm (fun _ => False) w w'

theorem one_item (w : World) (a b : Nat) (ha : w.heap[a]? = some (.cells #[.int .u8 232, .int .u8 3] 5 (0, 0))) (hb : w.heap[b]? = some (.cells #[.int .u16 4119, .int .u8 0, .slice (some ⟨a, 0, none⟩) 2 2] 121 (0, 0))) :
    ItemsAt w (.slice (some ⟨b, 0, none⟩) 1 1) [(4119, 0, .slice (some ⟨a, 0, none⟩) 2 2, [232, 3])] := by
  refine ⟨⟨_, 1, rfl, Nat.le_refl _, by decide, fun _ => ⟨b, 0, rfl, lt_of_block hb, fun i hi j hj => ?_⟩⟩, fun x hx => ?_⟩
  · obtain rfl : i = 0 := by simp at hi; omega
    rw [cell_at hb]
    simp [encIt]
  · simp at hx
    subst hx
    refine ⟨_, 2, rfl, Nat.le_refl _, by decide, fun _ => ⟨a, 0, rfl, fun i hi => ?_⟩⟩
    rw [cell_at ha]
    match i, hi with
    | 0, _ => rfl
    | 1, _ => rfl
    | n + 2, h => simp at h; omega

set_option maxRecDepth 100000 in
set_option maxHeartbeats 1000000 in
theorem livesD_any (w : World) : Calls Try.prog 17 #[] w (LivesD w) := by
  go_enter Try.func17, Try.ntmps17
  go_wp2_with fail
  refine (encode_any _ [(4119, 0, .slice (some ⟨w.heap.size, 0, none⟩) 2 2, [232, 3])] _ (one_item _ w.heap.size (w.heap.size + 1) (heap_alloc_old (heap_new _ _)) (heap_new_at (by simp))) (by simp) (by simp) (by simp [Rng, bare])).mono ?_
  rintro e w1 ⟨hF1, v1, rfl, hO1⟩
  have hb : encOf (List.map bare [(4119, 0, Value.slice (some ⟨w.heap.size, 0, none⟩) 2 2, [232, 3])]) = [1, 0, 0, 0, 23, 16, 0, 2, 0, 0, 0, 232, 3] := enc_one
  rw [hb] at hO1
  have hB1 : BytesAt w1 v1 [1, 0, 0, 0, 23, 16, 0, 2, 0, 0, 0, 232, 3] := BytesAt.of_row hO1
  have hF1 : Frm (fun _ => False) w w1 := Frm.trans' (by (repeat' (first | (with_reducible exact Frm.refl _ _) | (with_reducible assumption) | (with_reducible refine Frm.alloc ?_ _) | (with_reducible refine Frm.drew ?_) | (with_reducible refine Frm.drewN ?_ _) | (with_reducible refine Frm.set1 ?_ _) | (with_reducible refine Frm.setCell ?_ ?_ _) | (intro hlt; simp [World.size_alloc, One] at hlt ⊢; omega)))) hF1
  have HB1 := Lib.hid hB1
  have HF1 := Lib.hid hF1
  clear hb hO1 hB1 hF1
  go_wp2_with fail
  refine (decode_any v1 _ w1 HB1.out (by decide)).mono ?_
  rintro e w2 ⟨hF2, v2, xs, code, rfl, hx, hR⟩
  rw [dec_one] at hx
  simp only [Prod.mk.injEq] at hx
  obtain ⟨hx, rfl⟩ := hx
  obtain ⟨x, rfl⟩ : ∃ x, xs = [x] := by
    refine List.length_eq_one_iff.1 ?_
    have := congrArg List.length hx
    simpa using this
  obtain ⟨A2, c2, rfl, _, ho⟩ := hR.at_.open_
  obtain ⟨g2, o2, Ab, cb, rfl, _, _, d0, _, _⟩ := ho 0 (by simp)
  simp only [List.getElem_cons_zero, List.length_singleton, Nat.zero_mul, Nat.add_zero] at d0
  have hx0 : x.1 = 4119 := by simpa [bare] using congrArg (fun l => (l.map (·.1)).headD 0) hx
  rw [hx0] at d0
  have hcv := conv_bytes (HB1.out.grow hF2)
  have HF2 := Lib.hid hF2
  clear hx hR ho hx0 hF2
  simp only [List.length_singleton]
  have hs : ((strB [1, 0, 0, 0, 23, 16, 0, 2, 0, 0, 0, 232, 3]).toList == [1, 0, 0, 0, 23, 16, 0, 2, 0, 0, 0, 232, 3]) = true := by decide +kernel
  go_wp2_with fail
  go_ret
  exact ⟨rfl, HF1.out.trans' HF2.out⟩
end Go.Proofs.Ytmkkeglcjbogcaa
