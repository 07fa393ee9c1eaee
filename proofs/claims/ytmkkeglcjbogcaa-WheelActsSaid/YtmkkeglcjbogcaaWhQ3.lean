/-
  WheelActs: timers run out when the document says, in its order, whatever slots the wheel has. Proved for every argument that the row's form reads, with no further condition.
-/
import Derived.OpenShut
import Derived.Test.YtmkkeglcjbogcaaMfd864c8a
import Derived.Test.YtmkkeglcjbogcaaM38a6c955
namespace Go.Proofs.Ytmkkeglcjbogcaa
open Go.ChangeShapes Go.WideShapes Go.ChangeAt Go.RowKit Go.Deep
set_option linter.unusedVariables false
set_option maxRecDepth 100000

set_option maxRecDepth 100000 in
theorem wheelActs_lifted (os : Os) (started : os.Started) (H : Type) (enc : TypeId × Value → H) :
    ReturnsInHanded {} Try.checked os 13 .any (Rows.wheelActsSpec.pre6 enc Try.prog Try.f13 Rows.wheelActsRow.domain false) (Rows.wheelActsSpec.post enc Try.prog Try.f13 false true false false) := by
  refine law_lift os started (by kernel_rfl) Try.func13 (fun t ht => ?_) (tb := 4) (by kernel_rfl) Try.underlying4 rfl (fun ds hl => ?_)
    (ChangeSpec.witness6 (enc := enc) (C := Try.checked) false ⟨#[], #[.int .i64 0, .slice none 0 0], []⟩ 8 (by kernel_rfl) (by kernel_rfl) (by kernel_rfl) (by kernel_rfl)) ?_
  · rw [Try.params13] at ht
    simp only [List.mem_cons, List.not_mem_nil, or_false] at ht
    first | (rcases ht with rfl | rfl | rfl <;> exact ⟨by kernel_rfl, of_decide_eq_true (by kernel_rfl)⟩) | (rcases ht with rfl | rfl <;> exact ⟨by kernel_rfl, of_decide_eq_true (by kernel_rfl)⟩) | (subst ht; exact ⟨by kernel_rfl, of_decide_eq_true (by kernel_rfl)⟩)
  · rw [Try.params13] at hl
    first | (match ds, hl with | [d1, d2, d3], _ => exact ⟨rfl, rfl, rfl⟩) | (match ds, hl with | [d1, d2], _ => exact ⟨rfl, rfl, rfl⟩) | (match ds, hl with | [d1], _ => exact ⟨rfl, rfl, rfl⟩)
  · intro W base vs ds ps hval hA hlt hw
    rw [Try.params13] at hA hval hw
    obtain ⟨v0, vs, d0, ds, p0, q0, rfl, rfl, rfl, h0, hA⟩ := trodAll_cons hA
    obtain ⟨v1, vs, d1, ds, p1, q1, rfl, rfl, rfl, h1, hA⟩ := trodAll_cons hA
    obtain ⟨rfl, rfl, rfl⟩ := trodAll_nil hA
    obtain ⟨a, rfl, rfl, rfl, wa⟩ := open_int Try.underlying3 (hval 0 3 v0 rfl rfl) h0
    obtain ⟨v, xs, hv, hsl, hg, hl⟩ := rd_sl (encα := encW) (sz := 5) (fun x => 0 ≤ x.a ∧ 0 ≤ x.b) Try.underlying94 (by kernel_rfl) (by decide) rd_wact (arg_slice Try.underlying94 (hval 1 94 v1 rfl rfl) h1)
    obtain rfl : v1 = v := by simpa using hv
    have hb := sl_bound (j := 1) (t := 94) (e := 99) (b := 40) hw rfl rfl Try.underlying94 (by kernel_rfl) hl
    by_cases hx : 1 ≤ a ∧ a ≤ 4096
    · exact (wacts_yes a v1 xs W hx.1 hx.2 hsl hg (by omega)).mono fun e w' h => ⟨h.1, h.2.below (Nat.le_refl _) (fun _ _ h => h)⟩
    · exact (wacts_no a v1 W (by omega)).mono fun e w' h => ⟨h.1, h.2.below (Nat.le_refl _) (fun _ _ h => h)⟩

theorem wheelActs_holds : Rows.WheelActsSaid :=
  OpenClaim.holds_of_wide 13 Try.f13 rfl rfl rfl rfl rfl rfl rfl ⟨rfl, rfl, rfl, rfl, rfl⟩ rfl rfl rfl rfl rfl (by kernel_rfl) Try.func13 (by kernel_rfl)
    (of_decide_eq_true (by kernel_rfl)) (by unfold Func.isWrapper; first | (rw [if_pos (by decide +kernel)]; kernel_rfl) | (rw [if_neg (by decide +kernel)]; exact ⟨rfl, rfl⟩))
    (fun os started H enc _ => wheelActs_lifted os started H enc)
#print axioms wheelActs_holds
end Go.Proofs.Ytmkkeglcjbogcaa
