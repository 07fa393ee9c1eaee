/-
  WheelEvery: a timer that runs out again and again does so as often as its time comes. Proved for every argument that the row's form reads, with no further condition.
-/
import Derived.OpenShut
import Derived.Test.YtmkkeglcjbogcaaMaff895b4
namespace Go.Proofs.Ytmkkeglcjbogcaa
open Go.ChangeShapes Go.WideShapes Go.ChangeAt Go.RowKit Go.Deep
set_option linter.unusedVariables false
set_option maxRecDepth 100000

set_option maxRecDepth 100000 in
theorem wheelEvery_lifted (os : Os) (started : os.Started) (H : Type) (enc : TypeId × Value → H) :
    ReturnsInHanded {} Try.checked os 12 .any (Rows.wheelEverySpec.pre6 enc Try.prog Try.f12 Rows.wheelEveryRow.domain false) (Rows.wheelEverySpec.post enc Try.prog Try.f12 false true false false) := by
  refine law_lift os started (by kernel_rfl) Try.func12 (fun t ht => ?_) (tb := 4) (by kernel_rfl) Try.underlying4 rfl (fun ds hl => ?_)
    (ChangeSpec.witness6 (enc := enc) (C := Try.checked) false ⟨#[], #[.int .u16 0, .int .u16 0, .int .u16 0], []⟩ 8 (by kernel_rfl) (by kernel_rfl) (by kernel_rfl) (by kernel_rfl)) ?_
  · rw [Try.params12] at ht
    simp only [List.mem_cons, List.not_mem_nil, or_false] at ht
    first | (rcases ht with rfl | rfl | rfl <;> exact ⟨by kernel_rfl, of_decide_eq_true (by kernel_rfl)⟩) | (rcases ht with rfl | rfl <;> exact ⟨by kernel_rfl, of_decide_eq_true (by kernel_rfl)⟩) | (subst ht; exact ⟨by kernel_rfl, of_decide_eq_true (by kernel_rfl)⟩)
  · rw [Try.params12] at hl
    first | (match ds, hl with | [d1, d2, d3], _ => exact ⟨rfl, rfl, rfl⟩) | (match ds, hl with | [d1, d2], _ => exact ⟨rfl, rfl, rfl⟩) | (match ds, hl with | [d1], _ => exact ⟨rfl, rfl, rfl⟩)
  · intro W base vs ds ps hval hA hlt hw
    rw [Try.params12] at hA hval hw
    obtain ⟨v0, vs, d0, ds, p0, q0, rfl, rfl, rfl, h0, hA⟩ := trodAll_cons hA
    obtain ⟨v1, vs, d1, ds, p1, q1, rfl, rfl, rfl, h1, hA⟩ := trodAll_cons hA
    obtain ⟨v2, vs, d2, ds, p2, q2, rfl, rfl, rfl, h2, hA⟩ := trodAll_cons hA
    obtain ⟨rfl, rfl, rfl⟩ := trodAll_nil hA
    obtain ⟨a, rfl, rfl, rfl, wa⟩ := open_int Try.underlying69 (hval 0 69 v0 rfl rfl) h0
    obtain ⟨b, rfl, rfl, rfl, wb⟩ := open_int Try.underlying69 (hval 1 69 v1 rfl rfl) h1
    obtain ⟨c, rfl, rfl, rfl, wc⟩ := open_int Try.underlying69 (hval 2 69 v2 rfl rfl) h2
    exact (wevery_law a b c W (u16_wf wa) (u16_wf wb) (u16_wf wc)).mono fun e w' h => ⟨h.1, h.2.below (Nat.le_refl _) (fun _ _ h => h)⟩

theorem wheelEvery_holds : Rows.WheelEverySaid :=
  OpenClaim.holds_of_wide 12 Try.f12 rfl rfl rfl rfl rfl rfl rfl ⟨rfl, rfl, rfl, rfl, rfl⟩ rfl rfl rfl rfl rfl (by kernel_rfl) Try.func12 (by kernel_rfl)
    (of_decide_eq_true (by kernel_rfl)) (by unfold Func.isWrapper; first | (rw [if_pos (by decide +kernel)]; kernel_rfl) | (rw [if_neg (by decide +kernel)]; exact ⟨rfl, rfl⟩))
    (fun os started H enc _ => wheelEvery_lifted os started H enc)
#print axioms wheelEvery_holds
end Go.Proofs.Ytmkkeglcjbogcaa
