/-
  BootEnds: in at most so many looks as there are nodes, times the tries, none is open; and where each is seen as it was planned, all run behind one look at each. Proved for every argument that the row's form reads, with no further condition.
-/
import Derived.Test.YtjjmkpjclhielaaBootI
import Derived.Test.YtjjmkpjclhielaaBootX
namespace Go.Proofs.Ytjjmkpjclhielaa
open Go.ChangeShapes Go.WideShapes Go.ChangeAt Go.RowKit Go.Deep
set_option linter.unusedVariables false
set_option maxRecDepth 100000

section
variable {H : Type} {enc : TypeId × Value → H}
theorem rd_looks {W : World} (cs : List Value) (d : DataW H) (h : Rd enc W 25 cs d) (hs : Sz 25 d) : ∃ v well ss, cs = [v, .bool well] ∧ SlAt cellsS 11 W v ss := by
  obtain ⟨hl, _⟩ := rd_struct Try.underlying25 h
  have h3 : Try.prog.cellsOf 25 = 2 := by kernel_rfl
  rw [h3] at hl
  obtain ⟨d0, r0, s0⟩ := fldS Try.underlying25 h hs (i := 0) (off := 0) (n := 1) rfl rfl (by kernel_rfl)
  obtain ⟨d1, r1, _⟩ := fldS Try.underlying25 h hs (i := 1) (off := 1) (n := 1) rfl rfl (by kernel_rfl)
  match cs, hl with
  | [c0, c1], _ =>
    obtain ⟨v, ss, hv, hsl, _, _⟩ := rd_slS (encα := cellsS) (sz := 11) (fun _ => True) Try.underlying23 (by kernel_rfl) (by decide) (fun cs d h hs => by obtain ⟨x, hx⟩ := rd_seen cs d h hs; exact ⟨x, hx, trivial⟩) r0 s0
    obtain ⟨b, hb⟩ := rd_bool Try.underlying4 r1
    simp at hv hb
    exact ⟨v, b, ss, by rw [hv, hb], hsl⟩
end

set_option maxRecDepth 100000 in
theorem bootEnds_lifted (os : Os) (started : os.Started) (H : Type) (enc : TypeId × Value → H) :
    ReturnsInHanded {} Try.checked os 3 .any (Rows.bootEndsSpec.pre6 enc Try.prog Try.f3 Rows.bootEndsRow.domain false) (Rows.bootEndsSpec.post enc Try.prog Try.f3 false true false false) := by
  refine law_lift os started (by kernel_rfl) Try.func3 (fun t ht => ?_) (tb := 4) (by kernel_rfl) Try.underlying4 rfl (fun ds hl => ?_)
    (ChangeSpec.witness6 (enc := enc) (C := Try.checked) false ⟨#[], #[.slice none 0 0, .int .u8 0, .agg #[.slice none 0 0, .bool false]], []⟩ 8 (by kernel_rfl) (by kernel_rfl) (by kernel_rfl) (by kernel_rfl)) ?_
  · rw [Try.params3] at ht
    simp only [List.mem_cons, List.not_mem_nil, or_false] at ht
    first | (rcases ht with rfl | rfl | rfl <;> exact ⟨by kernel_rfl, of_decide_eq_true (by kernel_rfl)⟩) | (rcases ht with rfl | rfl <;> exact ⟨by kernel_rfl, of_decide_eq_true (by kernel_rfl)⟩) | (subst ht; exact ⟨by kernel_rfl, of_decide_eq_true (by kernel_rfl)⟩)
  · rw [Try.params3] at hl
    first | (match ds, hl with | [d1, d2, d3], _ => exact ⟨rfl, rfl, rfl⟩) | (match ds, hl with | [d1, d2], _ => exact ⟨rfl, rfl, rfl⟩) | (match ds, hl with | [d1], _ => exact ⟨rfl, rfl, rfl⟩)
  · intro W base vs ds ps hval hA hlt hw
    rw [Try.params3] at hA hval hw
    obtain ⟨v0, vs, d0, ds, p0, q0, rfl, rfl, rfl, h0, hA⟩ := trodAll_cons hA
    obtain ⟨v1, vs, d1, ds, p1, q1, rfl, rfl, rfl, h1, hA⟩ := trodAll_cons hA
    obtain ⟨v2, vs, d2, ds, p2, q2, rfl, rfl, rfl, h2, hA⟩ := trodAll_cons hA
    obtain ⟨rfl, rfl, rfl⟩ := trodAll_nil hA
    obtain ⟨v, xs, hv, hsl, hg, hl⟩ := rd_slS (encα := encP) (sz := 11) (GoodP W) Try.underlying22 (by kernel_rfl) (by decide) rd_plan (arg_slice Try.underlying22 (hval 0 22 v0 rfl rfl) h0) (sz_arg hw (j := 0) rfl rfl)
    obtain rfl : v0 = v := by simpa using hv
    obtain ⟨a, rfl, rfl, rfl, wa⟩ := open_int Try.underlying5 (hval 1 5 v1 rfl rfl) h1
    have hwa := u8_wf wa
    obtain ⟨c2, rfl, r2⟩ := arg_struct Try.underlying25 (hval 2 25 v2 rfl rfl) h2
    obtain ⟨vs2, well, ss, rfl, hss⟩ := rd_looks _ _ r2 (sz_arg hw (j := 2) rfl rfl)
    have hb : Try.prog.bytesOf 38 = 72 := by kernel_rfl
    rw [hb] at hl
    exact lends_any v0 vs2 xs ss a well W ⟨hsl, fun x hx => (hg x hx).1⟩ hss hl (fun x hx => (hg x hx).2.1) (fun x hx => (hg x hx).2.2) hwa.1 hwa.2

theorem bootEnds_holds : Rows.BootEndsSaid :=
  OpenClaim.holds_of_wide 3 Try.f3 rfl rfl rfl rfl rfl rfl rfl ⟨rfl, rfl, rfl, rfl, rfl⟩ rfl rfl rfl rfl rfl (by kernel_rfl) Try.func3 (by kernel_rfl)
    (of_decide_eq_true (by kernel_rfl)) (by unfold Func.isWrapper; first | (rw [if_pos (by decide +kernel)]; kernel_rfl) | (rw [if_neg (by decide +kernel)]; exact ⟨rfl, rfl⟩))
    (fun os started H enc _ => bootEnds_lifted os started H enc)
#print axioms bootEnds_holds
end Go.Proofs.Ytjjmkpjclhielaa
