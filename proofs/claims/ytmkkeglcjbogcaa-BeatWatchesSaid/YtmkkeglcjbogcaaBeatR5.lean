/-
  BeatWatches: a watcher tells the document's news, and each in its order. Proved for every argument that the row's form reads, with no further condition.
-/
import Derived.Test.YtmkkeglcjbogcaaWatches
import Derived.Test.YtmkkeglcjbogcaaBeatR3
namespace Go.Proofs.Ytmkkeglcjbogcaa
open Go.ChangeShapes Go.WideShapes Go.ChangeAt Go.RowKit Go.Deep
set_option linter.unusedVariables false

set_option maxRecDepth 100000 in
theorem beatWatches_lifted (os : Os) (started : os.Started) (H : Type) (enc : TypeId × Value → H) :
    ReturnsInHanded {} Try.checked os 10 .any (Rows.beatWatchesSpec.pre6 enc Try.prog Try.f10 Rows.beatWatchesRow.domain false) (Rows.beatWatchesSpec.post enc Try.prog Try.f10 false true false false) := by
  refine law_lift os started (by kernel_rfl) Try.func10 (fun t ht => ?_) (tb := 4) (by kernel_rfl) Try.underlying4 rfl (fun ds hl => ?_)
    (ChangeSpec.witness6 (enc := enc) (C := Try.checked) false ⟨#[], #[.slice none 0 0, .slice none 0 0], []⟩ 8 (by kernel_rfl) (by kernel_rfl) (by kernel_rfl) (by kernel_rfl)) ?_
  · rw [Try.params10] at ht
    simp only [List.mem_cons, List.not_mem_nil, or_false] at ht
    first | (rcases ht with rfl | rfl | rfl <;> exact ⟨by kernel_rfl, of_decide_eq_true (by kernel_rfl)⟩) | (rcases ht with rfl | rfl <;> exact ⟨by kernel_rfl, of_decide_eq_true (by kernel_rfl)⟩) | (subst ht; exact ⟨by kernel_rfl, of_decide_eq_true (by kernel_rfl)⟩)
  · rw [Try.params10] at hl
    first | (match ds, hl with | [d1, d2, d3], _ => exact ⟨rfl, rfl, rfl⟩) | (match ds, hl with | [d1, d2], _ => exact ⟨rfl, rfl, rfl⟩) | (match ds, hl with | [d1], _ => exact ⟨rfl, rfl, rfl⟩)
  · intro W base vs ds ps hval hA hlt hw
    rw [Try.params10] at hA hval hw
    obtain ⟨v0, vs, d0, ds, p0, q0, rfl, rfl, rfl, h0, hA⟩ := trodAll_cons hA
    obtain ⟨v1, vs, d1, ds, p1, q1, rfl, rfl, rfl, h1, hA⟩ := trodAll_cons hA
    obtain ⟨rfl, rfl, rfl⟩ := trodAll_nil hA
    obtain ⟨v, ws, hv, hb, hg, hl⟩ := rd_slS (encα := encW) (sz := 2) (fun x => 0 ≤ x.2) Try.underlying38 (by kernel_rfl) (by decide) rd_watch (arg_slice Try.underlying38 (hval 0 38 v0 rfl rfl) h0) (sz_arg hw (j := 0) rfl rfl)
    obtain rfl : v0 = v := by simpa using hv
    obtain ⟨u, as', hu, hb2, hg2, hl2⟩ := rd_slS (encα := encAct) (sz := 3) (fun x => BytesAt W x.2.2.1 x.2.2.2 ∧ x.2.2.2.length ≤ 140737488351232) Try.underlying44 (by kernel_rfl) (by decide) rd_act (arg_slice Try.underlying44 (hval 1 44 v1 rfl rfl) h1) (sz_arg hw (j := 1) rfl rfl)
    obtain rfl : v1 = u := by simpa using hu
    have b1 : Try.prog.bytesOf 37 = 16 := by kernel_rfl
    have b2 : Try.prog.bytesOf 46 = 40 := by kernel_rfl
    rw [b1] at hl
    rw [b2] at hl2
    exact watches_any v0 v1 ws as' W hb hb2 hl hl2 hg hg2

theorem beatWatches_holds : Rows.BeatWatchesSaid :=
  OpenClaim.holds_of_wide 10 Try.f10 rfl rfl rfl rfl rfl rfl rfl ⟨rfl, rfl, rfl, rfl, rfl⟩ rfl rfl rfl rfl rfl (by kernel_rfl) Try.func10 (by kernel_rfl)
    (of_decide_eq_true (by kernel_rfl)) (by unfold Func.isWrapper; first | (rw [if_pos (by decide +kernel)]; kernel_rfl) | (rw [if_neg (by decide +kernel)]; exact ⟨rfl, rfl⟩))
    (fun os started H enc _ => beatWatches_lifted os started H enc)
#print axioms beatWatches_holds
end Go.Proofs.Ytmkkeglcjbogcaa
