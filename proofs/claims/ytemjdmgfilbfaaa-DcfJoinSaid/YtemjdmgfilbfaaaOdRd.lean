/-
  What the row's arguments read as: strings, values, entries, calls.
-/
import Derived.Test.YtemjdmgfilbfaaaOdAc
import Derived.Test.YtemjdmgfilbfaaaOpen3
namespace Go.Proofs.Ytemjdmgfilbfaaa
open Go.ChangeShapes Go.WideShapes Go.ChangeAt Go.RowKit Go.Deep
set_option linter.unusedVariables false
set_option maxRecDepth 100000

section
variable {H : Type} {enc : TypeId × Value → H}

theorem fldS {W : World} {t : TypeId} {fs : Array Field} {cs : List Value} {d : DataW H} (ht : Try.prog.underlying t = some (.struct fs)) (h : Rd enc W t cs d) (hs : Sz t d) {i off n : Nat} {f : Field} (hf : fs[i]? = some f) (ho : f.offset = off) (hn : Try.prog.cellsOf f.type = n) :
    ∃ di, Rd enc W f.type ((cs.drop off).take n) di ∧ Sz f.type di := by
  obtain ⟨_, ds, rfl, _, hall⟩ := rd_struct ht h
  obtain ⟨di, hdi, r⟩ := hall i f hf
  subst ho hn
  exact ⟨di, r, sz_struct ht hs hf hdi⟩
theorem rd_str {W : World} {t : TypeId} {cs : List Value} {d : DataW H} (ht : Try.prog.underlying t = some .string) (h : Rd enc W t cs d) (hs : Sz t d) : ∃ b : List UInt8, cs = [.string (strB2 b)] ∧ b.length ≤ 140737488351232 := by
  obtain ⟨fuel, ps, h⟩ := h
  obtain ⟨s, h1, h2, _⟩ := DataW.trod_string ht h
  simp only [Prod.mk.injEq] at h2
  rw [h2.1] at hs
  exact ⟨s.data.toList, h1, sz_string hs⟩
theorem rd_va {W : World} (cs : List Value) (d : DataW H) (h : Rd enc W 36 cs d) (hs : Sz 36 d) : ∃ v : Va, cs = cellsV v ∧ v.ok := by
  obtain ⟨hl, _⟩ := rd_struct Try.underlying36 h
  have h3 : Try.prog.cellsOf 36 = 3 := by kernel_rfl
  rw [h3] at hl
  obtain ⟨d0, r0, _⟩ := fldS Try.underlying36 h hs (i := 0) (off := 0) (n := 1) rfl rfl (by kernel_rfl)
  obtain ⟨d1, r1, _⟩ := fldS Try.underlying36 h hs (i := 1) (off := 1) (n := 1) rfl rfl (by kernel_rfl)
  obtain ⟨d2, r2, s2⟩ := fldS Try.underlying36 h hs (i := 2) (off := 2) (n := 1) rfl rfl (by kernel_rfl)
  match cs, hl with
  | [c0, c1, c2], _ =>
    obtain ⟨a, ha, _⟩ := rd_int Try.underlying3 r0
    obtain ⟨b, hb, wb⟩ := rd_int Try.underlying34 r1
    obtain ⟨s, hs', hl'⟩ := rd_str Try.underlying9 r2 s2
    simp at ha hb hs'
    have h64 := u64_wf wb
    exact ⟨⟨a, b, s⟩, by rw [ha, hb, hs']; rfl, h64.1, by have := h64.2; show b < 18446744073709551616; omega, hl'⟩
theorem rd_en {W : World} (cs : List Value) (d : DataW H) (h : Rd enc W 42 cs d) (hs : Sz 42 d) : ∃ x : En, cs = cellsE x ∧ x.ok := by
  obtain ⟨hl, _⟩ := rd_struct Try.underlying42 h
  have h3 : Try.prog.cellsOf 42 = 14 := by kernel_rfl
  rw [h3] at hl
  obtain ⟨d0, r0, _⟩ := fldS Try.underlying42 h hs (i := 0) (off := 0) (n := 1) rfl rfl (by kernel_rfl)
  obtain ⟨d1, r1, _⟩ := fldS Try.underlying42 h hs (i := 1) (off := 1) (n := 1) rfl rfl (by kernel_rfl)
  obtain ⟨d2, r2, _⟩ := fldS Try.underlying42 h hs (i := 2) (off := 2) (n := 1) rfl rfl (by kernel_rfl)
  obtain ⟨d3, r3, _⟩ := fldS Try.underlying42 h hs (i := 3) (off := 3) (n := 1) rfl rfl (by kernel_rfl)
  obtain ⟨d4, r4, _⟩ := fldS Try.underlying42 h hs (i := 4) (off := 4) (n := 1) rfl rfl (by kernel_rfl)
  obtain ⟨d5, r5, s5⟩ := fldS Try.underlying42 h hs (i := 5) (off := 5) (n := 3) rfl rfl (by kernel_rfl)
  obtain ⟨d6, r6, s6⟩ := fldS Try.underlying42 h hs (i := 6) (off := 8) (n := 3) rfl rfl (by kernel_rfl)
  obtain ⟨d7, r7, s7⟩ := fldS Try.underlying42 h hs (i := 7) (off := 11) (n := 3) rfl rfl (by kernel_rfl)
  match cs, hl with
  | [c0, c1, c2, c3, c4, c5, c6, c7, c8, c9, c10, c11, c12, c13], _ =>
    obtain ⟨a, ha, wa⟩ := rd_int Try.underlying32 r0
    obtain ⟨b, hb, wb⟩ := rd_int Try.underlying5 r1
    obtain ⟨c, hc, _⟩ := rd_int Try.underlying3 r2
    obtain ⟨m, hm⟩ := rd_bool Try.underlying4 r3
    obtain ⟨l, hl⟩ := rd_bool Try.underlying4 r4
    obtain ⟨v5, e5, o5⟩ := rd_va _ _ r5 s5
    obtain ⟨v6, e6, o6⟩ := rd_va _ _ r6 s6
    obtain ⟨v7, e7, o7⟩ := rd_va _ _ r7 s7
    simp [cellsV] at ha hb hc hm hl e5 e6 e7
    have h16 := u16_wf wa
    have h8 := u8_wf wb
    exact ⟨⟨a, b, c, m, l, v5, v6, v7⟩, by rw [ha, hb, hc, hm, hl, e5.1, e5.2.1, e5.2.2, e6.1, e6.2.1, e6.2.2, e7.1, e7.2.1, e7.2.2]; rfl, h16.1, h16.2, h8.1, h8.2, o5, o6, o7⟩
theorem rd_acto {W : World} (cs : List Value) (d : DataW H) (h : Rd enc W 38 cs d) (hs : Sz 38 d) : ∃ x : ActO, cs = encO x ∧ x.good W := by
  obtain ⟨hl, _⟩ := rd_struct Try.underlying38 h
  have h3 : Try.prog.cellsOf 38 = 8 := by kernel_rfl
  rw [h3] at hl
  obtain ⟨d0, r0, _⟩ := fldS Try.underlying38 h hs (i := 0) (off := 0) (n := 1) rfl rfl (by kernel_rfl)
  obtain ⟨d1, r1, _⟩ := fldS Try.underlying38 h hs (i := 1) (off := 1) (n := 1) rfl rfl (by kernel_rfl)
  obtain ⟨d2, r2, _⟩ := fldS Try.underlying38 h hs (i := 2) (off := 2) (n := 1) rfl rfl (by kernel_rfl)
  obtain ⟨d3, r3, s3⟩ := fldS Try.underlying38 h hs (i := 3) (off := 3) (n := 1) rfl rfl (by kernel_rfl)
  obtain ⟨d4, r4, s4⟩ := fldS Try.underlying38 h hs (i := 4) (off := 4) (n := 3) rfl rfl (by kernel_rfl)
  obtain ⟨d5, r5, _⟩ := fldS Try.underlying38 h hs (i := 5) (off := 7) (n := 1) rfl rfl (by kernel_rfl)
  match cs, hl with
  | [c0, c1, c2, c3, c4, c5, c6, c7], _ =>
    obtain ⟨k, hk, _⟩ := rd_int Try.underlying3 r0
    obtain ⟨a, ha, wa⟩ := rd_int Try.underlying32 r1
    obtain ⟨b, hb, wb⟩ := rd_int Try.underlying5 r2
    obtain ⟨v, bs, hv, hB, hl⟩ := rd_bytesS Try.underlying33 Try.underlying5 (by kernel_rfl) (by kernel_rfl) r3 s3
    obtain ⟨va, ev, ov⟩ := rd_va _ _ r4 s4
    obtain ⟨n, hn, wn⟩ := rd_int Try.underlying32 r5
    simp [cellsV] at hk ha hb hv ev hn
    have h16 := u16_wf wa
    have h8 := u8_wf wb
    have hn16 := u16_wf wn
    exact ⟨⟨k, a, b, v, bs, va, n⟩, by rw [hk, ha, hb, hv, ev.1, ev.2.1, ev.2.2, hn]; rfl, h16.1, h16.2, h8.1, h8.2, hB, hl, ov, hn16.1, hn16.2⟩
end
end Go.Proofs.Ytemjdmgfilbfaaa
