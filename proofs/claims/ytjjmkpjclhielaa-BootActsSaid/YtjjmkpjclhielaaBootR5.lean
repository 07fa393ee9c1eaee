/-
  BootActs: a boot looks at its nodes, lets them run, gives them up and halts as the document says, whatever is seen. Proved for every argument that the row's form reads, with no further condition.
-/
import Derived.Test.YtjjmkpjclhielaaBootQ6
import Derived.Test.YtjjmkpjclhielaaBootX
namespace Go.Proofs.Ytjjmkpjclhielaa
open Go.ChangeShapes Go.WideShapes Go.ChangeAt Go.RowKit Go.Deep
set_option linter.unusedVariables false
set_option maxRecDepth 100000

section
variable {H : Type} {enc : TypeId × Value → H}
theorem rd_act {W : World} (cs : List Value) (d : DataW H) (h : Rd enc W 58 cs d) (hs : Sz 58 d) : ∃ x : ActB, cs = encActB x := by
  obtain ⟨hl, _⟩ := rd_struct Try.underlying58 h
  have h3 : Try.prog.cellsOf 58 = 14 := by kernel_rfl
  rw [h3] at hl
  obtain ⟨d0, r0, _⟩ := fldS Try.underlying58 h hs (i := 0) (off := 0) (n := 1) rfl rfl (by kernel_rfl)
  obtain ⟨d1, r1, _⟩ := fldS Try.underlying58 h hs (i := 1) (off := 1) (n := 1) rfl rfl (by kernel_rfl)
  obtain ⟨d2, r2, _⟩ := fldS Try.underlying58 h hs (i := 2) (off := 2) (n := 1) rfl rfl (by kernel_rfl)
  obtain ⟨d3, r3, s3⟩ := fldS Try.underlying58 h hs (i := 3) (off := 3) (n := 11) rfl rfl (by kernel_rfl)
  match cs, hl with
  | [c0, c1, c2, c3, c4, c5, c6, c7, c8, c9, c10, c11, c12, c13], _ =>
    obtain ⟨kd, hkd, _⟩ := rd_int Try.underlying3 r0
    obtain ⟨nd, hnd, _⟩ := rd_int Try.underlying3 r1
    obtain ⟨nx, hnx⟩ := rd_bool Try.underlying4 r2
    obtain ⟨s, hs⟩ := rd_seen _ _ r3 s3
    simp at hkd hnd hnx hs
    exact ⟨(kd, nd, nx, s), by rw [hkd, hnd, hnx]; simp only [encActB, ← hs, List.cons_append, List.nil_append]⟩
theorem arg_block {W : World} {base : Nat} {t e : TypeId} {A : Addr} {n c : Nat} (ht : Try.prog.underlying t = some (.slice e)) (hval : Value.okWide Try.prog W .any base t (.slice (some A) n c)) : A.block < W.heap.size := by
  simp only [Value.okWide, ht, Cell.okWide, Cell.ok] at hval
  obtain ⟨_, _, _, _, row, cells, hs, _⟩ := hval
  unfold World.shape? at hs
  split at hs
  · rename_i h
    exact lt_of_block h
  · cases hs
end

set_option maxRecDepth 100000 in
theorem bootActs_lifted (os : Os) (started : os.Started) (H : Type) (enc : TypeId × Value → H) :
    ReturnsInHanded {} Try.checked os 7 .any (Rows.bootActsSpec.pre6 enc Try.prog Try.f7 Rows.bootActsRow.domain false) (Rows.bootActsSpec.post enc Try.prog Try.f7 false true false false) := by
  refine law_lift os started (by kernel_rfl) Try.func7 (fun t ht => ?_) (tb := 4) (by kernel_rfl) Try.underlying4 rfl (fun ds hl => ?_)
    (ChangeSpec.witness6 (enc := enc) (C := Try.checked) false ⟨#[], #[.slice none 0 0, .int .i64 0, .slice none 0 0], []⟩ 8 (by kernel_rfl) (by kernel_rfl) (by kernel_rfl) (by kernel_rfl)) ?_
  · rw [Try.params7] at ht
    simp only [List.mem_cons, List.not_mem_nil, or_false] at ht
    first | (rcases ht with rfl | rfl | rfl <;> exact ⟨by kernel_rfl, of_decide_eq_true (by kernel_rfl)⟩) | (rcases ht with rfl | rfl <;> exact ⟨by kernel_rfl, of_decide_eq_true (by kernel_rfl)⟩) | (subst ht; exact ⟨by kernel_rfl, of_decide_eq_true (by kernel_rfl)⟩)
  · rw [Try.params7] at hl
    first | (match ds, hl with | [d1, d2, d3], _ => exact ⟨rfl, rfl, rfl⟩) | (match ds, hl with | [d1, d2], _ => exact ⟨rfl, rfl, rfl⟩) | (match ds, hl with | [d1], _ => exact ⟨rfl, rfl, rfl⟩)
  · intro W base vs ds ps hval hA hlt hw
    rw [Try.params7] at hA hval hw
    obtain ⟨v0, vs, d0, ds, p0, q0, rfl, rfl, rfl, h0, hA⟩ := trodAll_cons hA
    obtain ⟨v1, vs, d1, ds, p1, q1, rfl, rfl, rfl, h1, hA⟩ := trodAll_cons hA
    obtain ⟨v2, vs, d2, ds, p2, q2, rfl, rfl, rfl, h2, hA⟩ := trodAll_cons hA
    obtain ⟨rfl, rfl, rfl⟩ := trodAll_nil hA
    obtain ⟨v, xs, hv, hsl, hg, hl⟩ := rd_slS (encα := encP) (sz := 11) (GoodP W) Try.underlying22 (by kernel_rfl) (by decide) rd_plan (arg_slice Try.underlying22 (hval 0 22 v0 rfl rfl) h0) (sz_arg hw (j := 0) rfl rfl)
    obtain rfl : v0 = v := by simpa using hv
    obtain ⟨a, rfl, rfl, rfl, wa⟩ := open_int Try.underlying3 (hval 1 3 v1 rfl rfl) h1
    obtain ⟨v', acs, hv', hss, _, _⟩ := rd_slS (encα := encActB) (sz := 14) (fun _ => True) Try.underlying53 (by kernel_rfl) (by decide) (fun cs d h hs => by obtain ⟨x, hx⟩ := rd_act cs d h hs; exact ⟨x, hx, trivial⟩) (arg_slice Try.underlying53 (hval 2 53 v2 rfl rfl) h2) (sz_arg hw (j := 2) rfl rfl)
    obtain rfl : v2 = v' := by simpa using hv'
    have hb : Try.prog.bytesOf 38 = 72 := by kernel_rfl
    rw [hb] at hl
    exact lacts_any v0 v2 xs acs a W ⟨hsl, fun x hx => (hg x hx).1⟩ hss (fun A n c e => by subst e; exact arg_block Try.underlying22 (hval 0 22 _ rfl rfl)) hl (fun x hx => (hg x hx).2.1) (fun x hx => (hg x hx).2.2)

theorem bootActs_holds : Rows.BootActsSaid :=
  OpenClaim.holds_of_wide 7 Try.f7 rfl rfl rfl rfl rfl rfl rfl ⟨rfl, rfl, rfl, rfl, rfl⟩ rfl rfl rfl rfl rfl (by kernel_rfl) Try.func7 (by kernel_rfl)
    (of_decide_eq_true (by kernel_rfl)) (by unfold Func.isWrapper; first | (rw [if_pos (by decide +kernel)]; kernel_rfl) | (rw [if_neg (by decide +kernel)]; exact ⟨rfl, rfl⟩))
    (fun os started H enc _ => bootActs_lifted os started H enc)
#print axioms bootActs_holds
end Go.Proofs.Ytjjmkpjclhielaa
