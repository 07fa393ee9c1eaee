/-
  OdKept: what is saved, and loaded into a dictionary of the same entries, gives these the same values. Proved for every argument that the row's form reads, with no further condition.
-/
import Derived.Test.YtemjdmgfilbfaaaMb4cd4223
import Derived.Test.YtemjdmgfilbfaaaM2a8e0fa2
namespace Go.Proofs.Ytemjdmgfilbfaaa
open Go.ChangeShapes Go.WideShapes Go.ChangeAt Go.RowKit Go.Deep
set_option linter.unusedVariables false
set_option maxRecDepth 100000

set_option maxRecDepth 100000 in
theorem odKept_lifted (os : Os) (started : os.Started) (H : Type) (enc : TypeId × Value → H) :
    ReturnsInHanded {} Try.checked os 6 .any (Rows.odKeptSpec.pre6 enc Try.prog Try.f6 Rows.odKeptRow.domain false) (Rows.odKeptSpec.post enc Try.prog Try.f6 false true false false) := by
  refine law_lift os started (by kernel_rfl) Try.func6 (fun t ht => ?_) (tb := 4) (by kernel_rfl) Try.underlying4 rfl (fun ds hl => ?_)
    (ChangeSpec.witness6 (enc := enc) (C := Try.checked) false ⟨#[], #[.slice none 0 0, .slice none 0 0], []⟩ 8 (by kernel_rfl) (by kernel_rfl) (by kernel_rfl) (by kernel_rfl)) ?_
  · rw [Try.params6] at ht
    simp only [List.mem_cons, List.not_mem_nil, or_false] at ht
    first | (rcases ht with rfl | rfl | rfl <;> exact ⟨by kernel_rfl, of_decide_eq_true (by kernel_rfl)⟩) | (rcases ht with rfl | rfl <;> exact ⟨by kernel_rfl, of_decide_eq_true (by kernel_rfl)⟩) | (subst ht; exact ⟨by kernel_rfl, of_decide_eq_true (by kernel_rfl)⟩)
  · rw [Try.params6] at hl
    first | (match ds, hl with | [d1, d2, d3], _ => exact ⟨rfl, rfl, rfl⟩) | (match ds, hl with | [d1, d2], _ => exact ⟨rfl, rfl, rfl⟩) | (match ds, hl with | [d1], _ => exact ⟨rfl, rfl, rfl⟩)
  · intro W base vs ds ps hval hA hlt hw
    rw [Try.params6] at hA hval hw
    obtain ⟨v0, vs, d0, ds, p0, q0, rfl, rfl, rfl, h0, hA⟩ := trodAll_cons hA
    obtain ⟨v1, vs, d1, ds, p1, q1, rfl, rfl, rfl, h1, hA⟩ := trodAll_cons hA
    obtain ⟨rfl, rfl, rfl⟩ := trodAll_nil hA
    obtain ⟨v, xs, hv, hsl, hg, hl⟩ := rd_slS (encα := cellsE) (sz := 14) (fun x => x.ok) Try.underlying22 (by kernel_rfl) (by decide) rd_en (arg_slice Try.underlying22 (hval 0 22 v0 rfl rfl) h0) (sz_arg hw (j := 0) rfl rfl)
    obtain rfl : v0 = v := by simpa using hv
    obtain ⟨v', acs, hv', hss, hga, _⟩ := rd_slS (encα := encO) (sz := 8) (fun a => a.good W) Try.underlying23 (by kernel_rfl) (by decide) rd_acto (arg_slice Try.underlying23 (hval 1 23 v1 rfl rfl) h1) (sz_arg hw (j := 1) rfl rfl)
    obtain rfl : v1 = v' := by simpa using hv'
    have hb : Try.prog.bytesOf 42 = 120 := by kernel_rfl
    rw [hb] at hl
    exact (kept_any v0 v1 xs acs W hsl hg hl hss hga).mono fun e w' h => ⟨h.1, h.2.below (Nat.le_refl _) (fun _ _ h => h)⟩

theorem odKept_holds : Rows.OdKeptSaid :=
  OpenClaim.holds_of_wide 6 Try.f6 rfl rfl rfl rfl rfl rfl rfl ⟨rfl, rfl, rfl, rfl, rfl⟩ rfl rfl rfl rfl rfl (by kernel_rfl) Try.func6 (by kernel_rfl)
    (of_decide_eq_true (by kernel_rfl)) (by unfold Func.isWrapper; first | (rw [if_pos (by decide +kernel)]; kernel_rfl) | (rw [if_neg (by decide +kernel)]; exact ⟨rfl, rfl⟩))
    (fun os started H enc _ => odKept_lifted os started H enc)
#print axioms odKept_holds
end Go.Proofs.Ytemjdmgfilbfaaa
