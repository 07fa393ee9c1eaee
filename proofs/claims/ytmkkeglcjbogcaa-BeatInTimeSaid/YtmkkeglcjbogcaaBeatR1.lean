/-
  BeatInTime: a node that beats often enough is never lost, and one that stops is told just so many ticks behind its last beat. Proved for every argument that the row's form reads, with no further condition.
-/
import Derived.Test.YtmkkeglcjbogcaaInTime
import Derived.Test.YtmkkeglcjbogcaaOpen
namespace Go.Proofs.Ytmkkeglcjbogcaa
open Go.ChangeShapes Go.WideShapes Go.ChangeAt Go.RowKit Go.Deep
set_option linter.unusedVariables false

set_option maxRecDepth 100000 in
theorem intime_lifted (os : Os) (started : os.Started) (H : Type) (enc : TypeId × Value → H) :
    ReturnsInHanded {} Try.checked os 4 .any (Rows.beatInTimeSpec.pre6 enc Try.prog Try.f4 Rows.beatInTimeRow.domain false) (Rows.beatInTimeSpec.post enc Try.prog Try.f4 false true false false) := by
  refine law_lift os started (by kernel_rfl) Try.func4 (fun t ht => ?_) (tb := 4) (by kernel_rfl) Try.underlying4 rfl (fun ds hl => ?_)
    (ChangeSpec.witness6 (enc := enc) (C := Try.checked) false ⟨#[], #[.int .u8 0, .slice none 0 0], []⟩ 8 (by kernel_rfl) (by kernel_rfl) (by kernel_rfl) (by kernel_rfl)) ?_
  · rw [Try.params4] at ht
    simp at ht
    rcases ht with rfl | rfl <;> exact ⟨by kernel_rfl, of_decide_eq_true (by kernel_rfl)⟩
  · rw [Try.params4] at hl
    match ds, hl with
    | [d1, d2], _ => exact ⟨rfl, rfl, rfl⟩
  · intro W base vs ds ps hval hA hlt hw
    rw [Try.params4] at hA hval hw
    obtain ⟨v0, vs, d0, ds, p0, q0, rfl, rfl, rfl, h0, hA⟩ := trodAll_cons hA
    obtain ⟨v1, vs, d1, ds, p1, q1, rfl, rfl, rfl, h1, hA⟩ := trodAll_cons hA
    obtain ⟨rfl, rfl, rfl⟩ := trodAll_nil hA
    obtain ⟨a, rfl, rfl, rfl, wa⟩ := open_int Try.underlying5 (hval 0 5 v0 rfl rfl) h0
    obtain ⟨v, bs, hv, hb, hd⟩ := rd_bytes Try.underlying22 Try.underlying5 (by kernel_rfl) (arg_slice Try.underlying22 (hval 1 22 v1 rfl rfl) h1)
    obtain rfl : v1 = v := by simpa using hv
    have hw8 := u8_wf wa
    have hlen : bs.length ≤ 140737488351232 := by
      rcases hd with ⟨h, _⟩ | ⟨el, sp, rfl, h⟩
      · omega
      · have := sized_slice hw (j := 1) (t := 22) rfl rfl Try.underlying22
        have hb1 : Try.prog.bytesOf 5 = 1 := by kernel_rfl
        rw [hb1] at this
        have hr : reachBytes = 140737488351232 := rfl
        omega
    exact intime_any a v1 bs W hw8.1 hw8.2 hb hlen

theorem intime_holds : Rows.BeatInTimeSaid :=
  OpenClaim.holds_of_wide 4 Try.f4 rfl rfl rfl rfl rfl rfl rfl ⟨rfl, rfl, rfl, rfl, rfl⟩ rfl rfl rfl rfl rfl (by kernel_rfl) Try.func4 (by kernel_rfl)
    (of_decide_eq_true (by kernel_rfl)) (by unfold Func.isWrapper; first | (rw [if_pos (by decide +kernel)]; kernel_rfl) | (rw [if_neg (by decide +kernel)]; exact ⟨rfl, rfl⟩))
    (fun os started H enc _ => intime_lifted os started H enc)
#print axioms intime_holds
end Go.Proofs.Ytmkkeglcjbogcaa
