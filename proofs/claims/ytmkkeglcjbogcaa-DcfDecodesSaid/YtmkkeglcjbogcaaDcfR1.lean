/-
  DcfDecodes: any bytes are read as items, or refused, as the document says, and are written again as they were. Proved for every argument that the row's form reads, with no further condition.
-/
import Derived.Test.YtmkkeglcjbogcaaDcfW
import Derived.Test.YtmkkeglcjbogcaaOpen2
namespace Go.Proofs.Ytmkkeglcjbogcaa
open Go.ChangeShapes Go.WideShapes Go.ChangeAt Go.RowKit Go.Deep
set_option linter.unusedVariables false

set_option maxRecDepth 100000 in
theorem dcfDecodes_lifted (os : Os) (started : os.Started) (H : Type) (enc : TypeId × Value → H) :
    ReturnsInHanded {} Try.checked os 3 .any (Rows.dcfDecodesSpec.pre6 enc Try.prog Try.f3 Rows.dcfDecodesRow.domain false) (Rows.dcfDecodesSpec.post enc Try.prog Try.f3 false true false false) := by
  refine law_lift os started (by kernel_rfl) Try.func3 (fun t ht => ?_) (tb := 4) (by kernel_rfl) Try.underlying4 rfl (fun ds hl => ?_)
    (ChangeSpec.witness6 (enc := enc) (C := Try.checked) false ⟨#[], #[.slice none 0 0], []⟩ 8 (by kernel_rfl) (by kernel_rfl) (by kernel_rfl) (by kernel_rfl)) ?_
  · rw [Try.params3] at ht
    simp only [List.mem_cons, List.not_mem_nil, or_false] at ht
    first | (rcases ht with rfl | rfl | rfl <;> exact ⟨by kernel_rfl, of_decide_eq_true (by kernel_rfl)⟩) | (rcases ht with rfl | rfl <;> exact ⟨by kernel_rfl, of_decide_eq_true (by kernel_rfl)⟩) | (subst ht; exact ⟨by kernel_rfl, of_decide_eq_true (by kernel_rfl)⟩)
  · rw [Try.params3] at hl
    first | (match ds, hl with | [d1, d2, d3], _ => exact ⟨rfl, rfl, rfl⟩) | (match ds, hl with | [d1, d2], _ => exact ⟨rfl, rfl, rfl⟩) | (match ds, hl with | [d1], _ => exact ⟨rfl, rfl, rfl⟩)
  · intro W base vs ds ps hval hA hlt hw
    rw [Try.params3] at hA hval hw
    obtain ⟨v0, vs, d0, ds, p0, q0, rfl, rfl, rfl, h0, hA⟩ := trodAll_cons hA
    obtain ⟨rfl, rfl, rfl⟩ := trodAll_nil hA
    obtain ⟨v, bs, hv, hb, hd⟩ := rd_bytes Try.underlying22 Try.underlying5 (by kernel_rfl) (arg_slice Try.underlying22 (hval 0 22 v0 rfl rfl) h0)
    obtain rfl : v0 = v := by simpa using hv
    have hlen : bs.length ≤ 140737488351232 := by
      rcases hd with ⟨h, _⟩ | ⟨el, sp, rfl, h⟩
      · omega
      · have := sized_slice hw (j := 0) (t := 22) rfl rfl Try.underlying22
        have hb1 : Try.prog.bytesOf 5 = 1 := by kernel_rfl
        rw [hb1] at this
        have hr : reachBytes = 140737488351232 := rfl
        omega
    exact decodes_any v0 bs W hb hlen

theorem dcfDecodes_holds : Rows.DcfDecodesSaid :=
  OpenClaim.holds_of_wide 3 Try.f3 rfl rfl rfl rfl rfl rfl rfl ⟨rfl, rfl, rfl, rfl, rfl⟩ rfl rfl rfl rfl rfl (by kernel_rfl) Try.func3 (by kernel_rfl)
    (of_decide_eq_true (by kernel_rfl)) (by unfold Func.isWrapper; first | (rw [if_pos (by decide +kernel)]; kernel_rfl) | (rw [if_neg (by decide +kernel)]; exact ⟨rfl, rfl⟩))
    (fun os started H enc _ => dcfDecodes_lifted os started H enc)
#print axioms dcfDecodes_holds
end Go.Proofs.Ytmkkeglcjbogcaa
