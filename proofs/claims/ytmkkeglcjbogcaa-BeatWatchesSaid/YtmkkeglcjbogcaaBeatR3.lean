/-
  BeatApart: what a watcher tells of a node hangs on that node's beats, and the ticks, alone. Proved for every argument that the row's form reads, with no further condition.
-/
import Derived.Test.YtmkkeglcjbogcaaApart
import Derived.Test.YtmkkeglcjbogcaaOpen3
namespace Go.Proofs.Ytmkkeglcjbogcaa
open Go.ChangeShapes Go.WideShapes Go.ChangeAt Go.RowKit Go.Deep
set_option linter.unusedVariables false

section
variable {H : Type} {enc : TypeId × Value → H}
theorem rd_watch {W : World} (cs : List Value) (d : DataW H) (h : Rd enc W 37 cs d) (hs : Sz 37 d) : ∃ x, cs = encW x ∧ 0 ≤ x.2 := by
  obtain ⟨c0, c1, d0, d1, rfl, r0, r1, _, _⟩ := rd_struct2S Try.underlying37 (by kernel_rfl) rfl rfl (by kernel_rfl) (by kernel_rfl) h hs
  obtain ⟨n, hn, wn⟩ := rd_int Try.underlying3 r0
  obtain ⟨m, hm, wm⟩ := rd_int Try.underlying32 r1
  cases hn; cases hm
  exact ⟨(n, m), rfl, (u64_wf wm).1⟩
theorem rd_act {W : World} (cs : List Value) (d : DataW H) (h : Rd enc W 46 cs d) (hs : Sz 46 d) : ∃ x, cs = encAct x ∧ BytesAt W x.2.2.1 x.2.2.2 ∧ x.2.2.2.length ≤ 140737488351232 := by
  obtain ⟨c0, c1, c2, d0, d1, d2, rfl, r0, r1, r2, _, _, s2⟩ := rd_struct3S Try.underlying46 (by kernel_rfl) rfl rfl rfl (by kernel_rfl) (by kernel_rfl) (by kernel_rfl) h hs
  obtain ⟨b, hb⟩ := rd_bool Try.underlying4 r0
  obtain ⟨n, hn, wn⟩ := rd_int Try.underlying3 r1
  obtain ⟨v, bs, hv, hB, hl⟩ := rd_bytesS Try.underlying22 Try.underlying5 (by kernel_rfl) (by kernel_rfl) r2 s2
  cases hb; cases hn; cases hv
  exact ⟨(b, n, c2, bs), rfl, hB, hl⟩
end

set_option maxRecDepth 100000 in
theorem beatApart_lifted (os : Os) (started : os.Started) (H : Type) (enc : TypeId × Value → H) :
    ReturnsInHanded {} Try.checked os 5 .any (Rows.beatApartSpec.pre6 enc Try.prog Try.f5 Rows.beatApartRow.domain false) (Rows.beatApartSpec.post enc Try.prog Try.f5 false true false false) := by
  refine law_lift os started (by kernel_rfl) Try.func5 (fun t ht => ?_) (tb := 4) (by kernel_rfl) Try.underlying4 rfl (fun ds hl => ?_)
    (ChangeSpec.witness6 (enc := enc) (C := Try.checked) false ⟨#[], #[.slice none 0 0, .slice none 0 0, .int .u8 0], []⟩ 8 (by kernel_rfl) (by kernel_rfl) (by kernel_rfl) (by kernel_rfl)) ?_
  · rw [Try.params5] at ht
    simp only [List.mem_cons, List.not_mem_nil, or_false] at ht
    first | (rcases ht with rfl | rfl | rfl <;> exact ⟨by kernel_rfl, of_decide_eq_true (by kernel_rfl)⟩) | (rcases ht with rfl | rfl <;> exact ⟨by kernel_rfl, of_decide_eq_true (by kernel_rfl)⟩) | (subst ht; exact ⟨by kernel_rfl, of_decide_eq_true (by kernel_rfl)⟩)
  · rw [Try.params5] at hl
    first | (match ds, hl with | [d1, d2, d3], _ => exact ⟨rfl, rfl, rfl⟩) | (match ds, hl with | [d1, d2], _ => exact ⟨rfl, rfl, rfl⟩) | (match ds, hl with | [d1], _ => exact ⟨rfl, rfl, rfl⟩)
  · intro W base vs ds ps hval hA hlt hw
    rw [Try.params5] at hA hval hw
    obtain ⟨v0, vs, d0, ds, p0, q0, rfl, rfl, rfl, h0, hA⟩ := trodAll_cons hA
    obtain ⟨v1, vs, d1, ds, p1, q1, rfl, rfl, rfl, h1, hA⟩ := trodAll_cons hA
    obtain ⟨v2, vs, d2, ds, p2, q2, rfl, rfl, rfl, h2, hA⟩ := trodAll_cons hA
    obtain ⟨rfl, rfl, rfl⟩ := trodAll_nil hA
    obtain ⟨v, ws, hv, hb, hg, hl⟩ := rd_slS (encα := encW) (sz := 2) (fun x => 0 ≤ x.2) Try.underlying38 (by kernel_rfl) (by decide) rd_watch (arg_slice Try.underlying38 (hval 0 38 v0 rfl rfl) h0) (sz_arg hw (j := 0) rfl rfl)
    obtain rfl : v0 = v := by simpa using hv
    obtain ⟨u, as', hu, hb2, hg2, hl2⟩ := rd_slS (encα := encAct) (sz := 3) (fun x => BytesAt W x.2.2.1 x.2.2.2 ∧ x.2.2.2.length ≤ 140737488351232) Try.underlying44 (by kernel_rfl) (by decide) rd_act (arg_slice Try.underlying44 (hval 1 44 v1 rfl rfl) h1) (sz_arg hw (j := 1) rfl rfl)
    obtain rfl : v1 = u := by simpa using hu
    obtain ⟨a, rfl, rfl, rfl, wa⟩ := open_int Try.underlying5 (hval 2 5 v2 rfl rfl) h2
    have hwa := u8_wf wa
    have b1 : Try.prog.bytesOf 37 = 16 := by kernel_rfl
    have b2 : Try.prog.bytesOf 46 = 40 := by kernel_rfl
    rw [b1] at hl
    rw [b2] at hl2
    exact apart_any v0 v1 ws as' a W hb hb2 hl hl2 hg hg2 hwa.1 hwa.2

theorem beatApart_holds : Rows.BeatApartSaid :=
  OpenClaim.holds_of_wide 5 Try.f5 rfl rfl rfl rfl rfl rfl rfl ⟨rfl, rfl, rfl, rfl, rfl⟩ rfl rfl rfl rfl rfl (by kernel_rfl) Try.func5 (by kernel_rfl)
    (of_decide_eq_true (by kernel_rfl)) (by unfold Func.isWrapper; first | (rw [if_pos (by decide +kernel)]; kernel_rfl) | (rw [if_neg (by decide +kernel)]; exact ⟨rfl, rfl⟩))
    (fun os started H enc _ => beatApart_lifted os started H enc)
#print axioms beatApart_holds
end Go.Proofs.Ytmkkeglcjbogcaa
