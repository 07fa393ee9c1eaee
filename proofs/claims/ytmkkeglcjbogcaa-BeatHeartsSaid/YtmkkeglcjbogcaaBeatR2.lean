/-
  BeatHearts: a heart beats when the document says, with its node's state. Proved for every argument that the row's form reads, with no further condition.
-/
import Derived.Test.YtmkkeglcjbogcaaHearts
import Derived.Test.YtmkkeglcjbogcaaOpen2
namespace Go.Proofs.Ytmkkeglcjbogcaa
open Go.ChangeShapes Go.WideShapes Go.ChangeAt Go.RowKit Go.Deep
set_option linter.unusedVariables false

set_option maxRecDepth 100000 in
theorem beatHearts_lifted (os : Os) (started : os.Started) (H : Type) (enc : TypeId × Value → H) :
    ReturnsInHanded {} Try.checked os 6 .any (Rows.beatHeartsSpec.pre6 enc Try.prog Try.f6 Rows.beatHeartsRow.domain false) (Rows.beatHeartsSpec.post enc Try.prog Try.f6 false true false false) := by
  refine law_lift os started (by kernel_rfl) Try.func6 (fun t ht => ?_) (tb := 4) (by kernel_rfl) Try.underlying4 rfl (fun ds hl => ?_)
    (ChangeSpec.witness6 (enc := enc) (C := Try.checked) false ⟨#[], #[.int .u64 0, .slice none 0 0], []⟩ 8 (by kernel_rfl) (by kernel_rfl) (by kernel_rfl) (by kernel_rfl)) ?_
  · rw [Try.params6] at ht
    simp only [List.mem_cons, List.not_mem_nil, or_false] at ht
    first | (rcases ht with rfl | rfl | rfl <;> exact ⟨by kernel_rfl, of_decide_eq_true (by kernel_rfl)⟩) | (rcases ht with rfl | rfl <;> exact ⟨by kernel_rfl, of_decide_eq_true (by kernel_rfl)⟩) | (subst ht; exact ⟨by kernel_rfl, of_decide_eq_true (by kernel_rfl)⟩)
  · rw [Try.params6] at hl
    first | (match ds, hl with | [d1, d2, d3], _ => exact ⟨rfl, rfl, rfl⟩) | (match ds, hl with | [d1, d2], _ => exact ⟨rfl, rfl, rfl⟩) | (match ds, hl with | [d1], _ => exact ⟨rfl, rfl, rfl⟩)
  · intro W base vs ds ps hval hA hlt hw
    rw [Try.params6] at hA hval hw
    obtain ⟨v0, vs, d0, ds, p0, q0, rfl, rfl, rfl, h0, hA⟩ := trodAll_cons hA
    obtain ⟨v1, vs, d1, ds, p1, q1, rfl, rfl, rfl, h1, hA⟩ := trodAll_cons hA
    obtain ⟨rfl, rfl, rfl⟩ := trodAll_nil hA
    obtain ⟨a, rfl, rfl, rfl, wa⟩ := open_int Try.underlying32 (hval 0 32 v0 rfl rfl) h0
    obtain ⟨v, ts, hv, hb, hg, hd⟩ := rd_sl (encα := encTurn) (sz := 3) (fun x => 0 ≤ x.2.1) Try.underlying51 (by kernel_rfl) (by decide) (fun cs d h => by
      obtain ⟨c0, c1, c2, d0, d1, d2, rfl, r0, r1, r2⟩ := rd_struct3 Try.underlying56 (by kernel_rfl) rfl rfl rfl (by kernel_rfl) (by kernel_rfl) (by kernel_rfl) h
      obtain ⟨b, hb⟩ := rd_bool Try.underlying4 r0
      obtain ⟨n, hn, wn⟩ := rd_int Try.underlying32 r1
      obtain ⟨m, hm, wm⟩ := rd_int Try.underlying3 r2
      cases hb; cases hn; cases hm
      exact ⟨(b, n, m), rfl, (u64_wf wn).1⟩) (arg_slice Try.underlying51 (hval 1 51 v1 rfl rfl) h1)
    obtain rfl : v1 = v := by simpa using hv
    have hwa := u64_wf wa
    have hlen := sl_bound hw (j := 1) (t := 51) rfl rfl Try.underlying51 (b := 24) (by kernel_rfl) hd
    by_cases hbig : 4294967296 < a
    · exact hearts_big a v1 W hbig
    · exact hearts_any a v1 ts W hwa.1 (by omega) hb (by omega) hg

theorem beatHearts_holds : Rows.BeatHeartsSaid :=
  OpenClaim.holds_of_wide 6 Try.f6 rfl rfl rfl rfl rfl rfl rfl ⟨rfl, rfl, rfl, rfl, rfl⟩ rfl rfl rfl rfl rfl (by kernel_rfl) Try.func6 (by kernel_rfl)
    (of_decide_eq_true (by kernel_rfl)) (by unfold Func.isWrapper; first | (rw [if_pos (by decide +kernel)]; kernel_rfl) | (rw [if_neg (by decide +kernel)]; exact ⟨rfl, rfl⟩))
    (fun os started H enc _ => beatHearts_lifted os started H enc)
#print axioms beatHearts_holds
end Go.Proofs.Ytmkkeglcjbogcaa
