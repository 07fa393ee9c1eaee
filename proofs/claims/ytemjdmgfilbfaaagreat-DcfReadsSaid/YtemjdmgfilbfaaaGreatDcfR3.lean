/-
  DcfReads: what Differ tells of a dictionary that took the items. Proved for every argument that the row's form reads, with no further condition.
-/
import Derived.Test.YtemjdmgfilbfaaaGreatMa5648143
import Derived.Test.YtemjdmgfilbfaaaGreatMdcbfd6c7
namespace Go.Proofs.YtemjdmgfilbfaaaGreat
open Go.ChangeShapes Go.WideShapes Go.ChangeAt Go.RowKit Go.Deep
set_option linter.unusedVariables false
set_option maxRecDepth 100000

section
variable {H : Type} {enc : TypeId × Value → H}

theorem rd_item {W : World} (cs : List Value) (d : DataW H) (h : Rd enc W 63 cs d) (hs : Sz 63 d) : ∃ x, cs = encIt x ∧ BytesAt W x.2.2.1 x.2.2.2 ∧ Rng (bare x) ∧ x.2.2.2.length ≤ 140737488351232 := by
  obtain ⟨hl, _⟩ := rd_struct Tryz.underlying63 h
  have h3 : Tryz.prog.cellsOf 63 = 3 := by kernel_rfl
  rw [h3] at hl
  obtain ⟨d0, r0, _⟩ := fldS Tryz.underlying63 h hs (i := 0) (off := 0) (n := 1) rfl rfl (by kernel_rfl)
  obtain ⟨d1, r1, _⟩ := fldS Tryz.underlying63 h hs (i := 1) (off := 1) (n := 1) rfl rfl (by kernel_rfl)
  obtain ⟨d2, r2, s2⟩ := fldS Tryz.underlying63 h hs (i := 2) (off := 2) (n := 1) rfl rfl (by kernel_rfl)
  match cs, hl with
  | [c0, c1, c2], _ =>
    obtain ⟨a, ha, wa⟩ := rd_int Tryz.underlying54 r0
    obtain ⟨b, hb, wb⟩ := rd_int Tryz.underlying5 r1
    obtain ⟨v, bs, hv, hB, hl⟩ := rd_bytesS Tryz.underlying24 Tryz.underlying5 (by kernel_rfl) (by kernel_rfl) r2 s2
    simp at ha hb hv
    have h16 := u16_wf wa
    have h8 := u8_wf wb
    exact ⟨(a, b, v, bs), by rw [ha, hb, hv]; rfl, hB, ⟨h16.1, h16.2, h8.1, h8.2⟩, hl⟩

theorem rd_items {W : World} {c : Value} {d : DataW H} (h : Rd enc W 46 [c] d) (hs : Sz 46 d) : ∃ ys, ItemsAt W c ys ∧ (∀ y ∈ ys, Rng (bare y)) ∧ ys.length * 32 ≤ 140737488351232 ∧ ∀ y ∈ ys, y.2.2.2.length ≤ 140737488351232 := by
  obtain ⟨v, ys, hv, hsl, hg, hl⟩ := rd_slS (encα := encIt) (sz := 3) (fun x => BytesAt W x.2.2.1 x.2.2.2 ∧ Rng (bare x) ∧ x.2.2.2.length ≤ 140737488351232) Tryz.underlying46 (by kernel_rfl) (by decide) rd_item h hs
  obtain rfl : c = v := by simpa using hv
  have hb : Tryz.prog.bytesOf 63 = 32 := by kernel_rfl
  rw [hb] at hl
  exact ⟨ys, ⟨hsl, fun x hx => (hg x hx).1⟩, fun y hy => (hg y hy).2.1, hl, fun y hy => (hg y hy).2.2⟩
end

set_option maxRecDepth 100000 in
theorem dcfReads_lifted (os : Os) (started : os.Started) (H : Type) (enc : TypeId × Value → H) :
    ReturnsInHanded {} Tryz.checked os 5 .any (Rows.dcfReadsSpec.pre6 enc Tryz.prog Tryz.f5 Rows.dcfReadsRow.domain false) (Rows.dcfReadsSpec.post enc Tryz.prog Tryz.f5 false true false false) := by
  refine law_lift os started (by kernel_rfl) Tryz.func5 (fun t ht => ?_) (tb := 4) (by kernel_rfl) Tryz.underlying4 rfl (fun ds hl => ?_)
    (ChangeSpec.witness6 (enc := enc) (C := Tryz.checked) false ⟨#[], #[.slice none 0 0, .slice none 0 0], []⟩ 8 (by kernel_rfl) (by kernel_rfl) (by kernel_rfl) (by kernel_rfl)) ?_
  · rw [Tryz.params5] at ht
    simp only [List.mem_cons, List.not_mem_nil, or_false] at ht
    first | (rcases ht with rfl | rfl | rfl <;> exact ⟨by kernel_rfl, of_decide_eq_true (by kernel_rfl)⟩) | (rcases ht with rfl | rfl <;> exact ⟨by kernel_rfl, of_decide_eq_true (by kernel_rfl)⟩) | (subst ht; exact ⟨by kernel_rfl, of_decide_eq_true (by kernel_rfl)⟩)
  · rw [Tryz.params5] at hl
    first | (match ds, hl with | [d1, d2, d3], _ => exact ⟨rfl, rfl, rfl⟩) | (match ds, hl with | [d1, d2], _ => exact ⟨rfl, rfl, rfl⟩) | (match ds, hl with | [d1], _ => exact ⟨rfl, rfl, rfl⟩)
  · intro W base vs ds ps hval hA hlt hw
    rw [Tryz.params5] at hA hval hw
    obtain ⟨v0, vs, d0, ds, p0, q0, rfl, rfl, rfl, h0, hA⟩ := trodAll_cons hA
    obtain ⟨v1, vs, d1, ds, p1, q1, rfl, rfl, rfl, h1, hA⟩ := trodAll_cons hA
    obtain ⟨rfl, rfl, rfl⟩ := trodAll_nil hA
    obtain ⟨v, xs, hv, hsl, hg, hl⟩ := rd_slS (encα := cellsE) (sz := 14) (fun x => x.ok) Tryz.underlying22 (by kernel_rfl) (by decide) rd_en (arg_slice Tryz.underlying22 (hval 0 22 v0 rfl rfl) h0) (sz_arg hw (j := 0) rfl rfl)
    obtain rfl : v0 = v := by simpa using hv
    obtain ⟨is, hits, hir, hil, hib⟩ := rd_items (arg_slice Tryz.underlying46 (hval 1 46 v1 rfl rfl) h1) (sz_arg hw (j := 1) rfl rfl)
    have hb : Tryz.prog.bytesOf 59 = 120 := by kernel_rfl
    rw [hb] at hl
    exact (dreads_any v0 v1 xs is W hsl hg hl hits hil hir hib).mono fun e w' h => ⟨h.1, h.2.below (Nat.le_refl _) (fun _ _ h => h)⟩

theorem dcfReads_holds : Rows.DcfReadsSaid :=
  OpenClaim.holds_of_wide 5 Tryz.f5 rfl rfl rfl rfl rfl rfl rfl ⟨rfl, rfl, rfl, rfl, rfl⟩ rfl rfl rfl rfl rfl (by kernel_rfl) Tryz.func5 (by kernel_rfl)
    (of_decide_eq_true (by kernel_rfl)) (by unfold Func.isWrapper; first | (rw [if_pos (by decide +kernel)]; kernel_rfl) | (rw [if_neg (by decide +kernel)]; exact ⟨rfl, rfl⟩))
    (fun os started H enc _ => dcfReads_lifted os started H enc)
#print axioms dcfReads_holds
end Go.Proofs.YtemjdmgfilbfaaaGreat
