/-
  BootMay: only nodes that must be there keep the network from running. Proved for every argument that the row's form reads, with no further condition.
-/
import Derived.Test.YtjjmkpjclhielaaBootA
import Derived.Test.YtjjmkpjclhielaaBootX
namespace Go.Proofs.Ytjjmkpjclhielaa
open Go.ChangeShapes Go.WideShapes Go.ChangeAt Go.RowKit Go.Deep
set_option linter.unusedVariables false

set_option maxRecDepth 100000 in
theorem bootMay_lifted (os : Os) (started : os.Started) (H : Type) (enc : TypeId × Value → H) :
    ReturnsInHanded {} Try.checked os 5 .any (Rows.bootMaySpec.pre6 enc Try.prog Try.f5 Rows.bootMayRow.domain false) (Rows.bootMaySpec.post enc Try.prog Try.f5 false true false false) := by
  refine law_lift os started (by kernel_rfl) Try.func5 (fun t ht => ?_) (tb := 4) (by kernel_rfl) Try.underlying4 rfl (fun ds hl => ?_)
    (ChangeSpec.witness6 (enc := enc) (C := Try.checked) false ⟨#[], #[.slice none 0 0], []⟩ 8 (by kernel_rfl) (by kernel_rfl) (by kernel_rfl) (by kernel_rfl)) ?_
  · rw [Try.params5] at ht
    simp only [List.mem_cons, List.not_mem_nil, or_false] at ht
    first | (rcases ht with rfl | rfl | rfl <;> exact ⟨by kernel_rfl, of_decide_eq_true (by kernel_rfl)⟩) | (rcases ht with rfl | rfl <;> exact ⟨by kernel_rfl, of_decide_eq_true (by kernel_rfl)⟩) | (subst ht; exact ⟨by kernel_rfl, of_decide_eq_true (by kernel_rfl)⟩)
  · rw [Try.params5] at hl
    first | (match ds, hl with | [d1, d2, d3], _ => exact ⟨rfl, rfl, rfl⟩) | (match ds, hl with | [d1, d2], _ => exact ⟨rfl, rfl, rfl⟩) | (match ds, hl with | [d1], _ => exact ⟨rfl, rfl, rfl⟩)
  · intro W base vs ds ps hval hA hlt hw
    rw [Try.params5] at hA hval hw
    obtain ⟨v0, vs, d0, ds, p0, q0, rfl, rfl, rfl, h0, hA⟩ := trodAll_cons hA
    obtain ⟨rfl, rfl, rfl⟩ := trodAll_nil hA
    obtain ⟨v, xs, hv, hsl, hg, hl⟩ := rd_slS (encα := encP) (sz := 11) (GoodP W) Try.underlying22 (by kernel_rfl) (by decide) rd_plan (arg_slice Try.underlying22 (hval 0 22 v0 rfl rfl) h0) (sz_arg hw (j := 0) rfl rfl)
    obtain rfl : v0 = v := by simpa using hv
    have hb : Try.prog.bytesOf 38 = 72 := by kernel_rfl
    rw [hb] at hl
    exact lmay_any v0 xs W ⟨hsl, fun x hx => (hg x hx).1⟩ hl (fun x hx => (hg x hx).2.1) (fun x hx => (hg x hx).2.2)

theorem bootMay_holds : Rows.BootMaySaid :=
  OpenClaim.holds_of_wide 5 Try.f5 rfl rfl rfl rfl rfl rfl rfl ⟨rfl, rfl, rfl, rfl, rfl⟩ rfl rfl rfl rfl rfl (by kernel_rfl) Try.func5 (by kernel_rfl)
    (of_decide_eq_true (by kernel_rfl)) (by unfold Func.isWrapper; first | (rw [if_pos (by decide +kernel)]; kernel_rfl) | (rw [if_neg (by decide +kernel)]; exact ⟨rfl, rfl⟩))
    (fun os started H enc _ => bootMay_lifted os started H enc)
#print axioms bootMay_holds
end Go.Proofs.Ytjjmkpjclhielaa
