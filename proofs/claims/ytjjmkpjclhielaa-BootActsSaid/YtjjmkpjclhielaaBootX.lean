/-
  Plans and what is seen, opened.
-/
import Derived.Test.YtjjmkpjclhielaaBootC
import Derived.Test.YtjjmkpjclhielaaOpen3
import Derived.OpenShut
namespace Go.Proofs.Ytjjmkpjclhielaa
open Go.ChangeShapes Go.WideShapes Go.ChangeAt Go.RowKit Go.Deep
set_option linter.unusedVariables false
set_option maxRecDepth 100000

section
variable {H : Type} {enc : TypeId × Value → H}

theorem arg_struct {W : World} {base : Nat} {t : TypeId} {fs : Array Field} {v : Value} {d : DataW H} {ps : List MemPlace} (ht : Try.prog.underlying t = some (.struct fs)) (hval : Value.okWide Try.prog W .any base t v) (h : DataW.Trod enc Try.prog W 0 (fun _ => true) true t v d ps) : ∃ cs : List Value, v = .agg cs.toArray ∧ Rd enc W t cs d := by
  obtain ⟨cs, rfl, _⟩ := okWide_struct ht hval
  obtain ⟨fuel, hf⟩ := h
  exact ⟨cs.toList, rfl, fuel, ps, hf⟩

theorem rd_arr4 {W : World} {cs : List Value} {d : DataW H} (h : Rd enc W 35 cs d) : ∃ a b c e, cs = [.int .u32 a, .int .u32 b, .int .u32 c, .int .u32 e] := by
  obtain ⟨fuel, ps, h⟩ := h
  obtain ⟨xs, m, _, _, hl, hlen, hel⟩ := DataW.trod_array Try.underlying35 h
  have hc : Try.prog.cellsOf 34 = 1 := by kernel_rfl
  have h4 : Try.prog.cellsOf 35 = 4 := by kernel_rfl
  rw [h4] at hl
  simp only [hc, Nat.mul_one] at hel
  have he : ∀ i, i < 4 → ∃ n, (cs.drop i).take 1 = [.int .u32 n] := fun i hi => by
    have := hel i hi
    rw [List.getElem?_eq_getElem (by omega)] at this
    obtain ⟨n, h1, _⟩ := rd_int (enc := enc) (W := W) (t := 34) Try.underlying34 ⟨m, (xs[i]'(by omega)).2, this⟩
    exact ⟨n, h1⟩
  match cs, hl with
  | [c0, c1, c2, c3], _ =>
    obtain ⟨a, ha⟩ := he 0 (by decide)
    obtain ⟨b, hb⟩ := he 1 (by decide)
    obtain ⟨c, hc⟩ := he 2 (by decide)
    obtain ⟨e, he⟩ := he 3 (by decide)
    simp at ha hb hc he
    exact ⟨a, b, c, e, by rw [ha, hb, hc, he]⟩

theorem fldS {W : World} {t : TypeId} {fs : Array Field} {cs : List Value} {d : DataW H} (ht : Try.prog.underlying t = some (.struct fs)) (h : Rd enc W t cs d) (hs : Sz t d) {i off n : Nat} {f : Field} (hf : fs[i]? = some f) (ho : f.offset = off) (hn : Try.prog.cellsOf f.type = n) :
    ∃ di, Rd enc W f.type ((cs.drop off).take n) di ∧ Sz f.type di := by
  obtain ⟨_, ds, rfl, _, hall⟩ := rd_struct ht h
  obtain ⟨di, hdi, r⟩ := hall i f hf
  subst ho hn
  exact ⟨di, r, sz_struct ht hs hf hdi⟩

theorem rd_item {W : World} (cs : List Value) (d : DataW H) (h : Rd enc W 72 cs d) (hs : Sz 72 d) : ∃ x, cs = encIt x ∧ BytesAt W x.2.2.1 x.2.2.2 ∧ Rng (bare x) ∧ x.2.2.2.length ≤ 140737488351232 := by
  obtain ⟨hl, _⟩ := rd_struct Try.underlying72 h
  have h3 : Try.prog.cellsOf 72 = 3 := by kernel_rfl
  rw [h3] at hl
  obtain ⟨d0, r0, _⟩ := fldS Try.underlying72 h hs (i := 0) (off := 0) (n := 1) rfl rfl (by kernel_rfl)
  obtain ⟨d1, r1, _⟩ := fldS Try.underlying72 h hs (i := 1) (off := 1) (n := 1) rfl rfl (by kernel_rfl)
  obtain ⟨d2, r2, s2⟩ := fldS Try.underlying72 h hs (i := 2) (off := 2) (n := 1) rfl rfl (by kernel_rfl)
  match cs, hl with
  | [c0, c1, c2], _ =>
    obtain ⟨a, ha, wa⟩ := rd_int Try.underlying69 r0
    obtain ⟨b, hb, wb⟩ := rd_int Try.underlying5 r1
    obtain ⟨v, bs, hv, hB, hl⟩ := rd_bytesS Try.underlying70 Try.underlying5 (by kernel_rfl) (by kernel_rfl) r2 s2
    simp at ha hb hv
    have h16 := u16_wf wa
    have h8 := u8_wf wb
    exact ⟨(a, b, v, bs), by rw [ha, hb, hv]; rfl, hB, ⟨h16.1, h16.2, h8.1, h8.2⟩, hl⟩

/-- What holds of a plan that was handed in. -/
def GoodP (W : World) (x : Pla) : Prop := (∃ ys, ItemsAt W x.2 ys ∧ ys.map bare = x.1.its) ∧ (∀ it ∈ x.1.its, Rng it) ∧ x.1.its.length * 32 ≤ 140737488351232 ∧ ∀ it ∈ x.1.its, it.2.2.length ≤ 140737488351232

theorem rd_items {W : World} {c : Value} {d : DataW H} (h : Rd enc W 36 [c] d) (hs : Sz 36 d) : ∃ ys, ItemsAt W c ys ∧ (∀ y ∈ ys, Rng (bare y)) ∧ ys.length * 32 ≤ 140737488351232 ∧ ∀ y ∈ ys, y.2.2.2.length ≤ 140737488351232 := by
  obtain ⟨v, ys, hv, hsl, hg, hl⟩ := rd_slS (encα := encIt) (sz := 3) (fun x => BytesAt W x.2.2.1 x.2.2.2 ∧ Rng (bare x) ∧ x.2.2.2.length ≤ 140737488351232) Try.underlying36 (by kernel_rfl) (by decide) rd_item h hs
  obtain rfl : c = v := by simpa using hv
  have hb : Try.prog.bytesOf 72 = 32 := by kernel_rfl
  rw [hb] at hl
  exact ⟨ys, ⟨hsl, fun x hx => (hg x hx).1⟩, fun y hy => (hg y hy).2.1, hl, fun y hy => (hg y hy).2.2⟩

theorem rd_plan {W : World} (cs : List Value) (d : DataW H) (h : Rd enc W 38 cs d) (hs : Sz 38 d) : ∃ x : Pla, cs = encP x ∧ GoodP W x := by
  obtain ⟨hl, _⟩ := rd_struct Try.underlying38 h
  have h3 : Try.prog.cellsOf 38 = 11 := by kernel_rfl
  rw [h3] at hl
  obtain ⟨d0, r0, _⟩ := fldS Try.underlying38 h hs (i := 0) (off := 0) (n := 1) rfl rfl (by kernel_rfl)
  obtain ⟨d1, r1, _⟩ := fldS Try.underlying38 h hs (i := 1) (off := 1) (n := 1) rfl rfl (by kernel_rfl)
  obtain ⟨d2, r2, _⟩ := fldS Try.underlying38 h hs (i := 2) (off := 2) (n := 4) rfl rfl (by kernel_rfl)
  obtain ⟨d3, r3, _⟩ := fldS Try.underlying38 h hs (i := 3) (off := 6) (n := 1) rfl rfl (by kernel_rfl)
  obtain ⟨d4, r4, _⟩ := fldS Try.underlying38 h hs (i := 4) (off := 7) (n := 1) rfl rfl (by kernel_rfl)
  obtain ⟨d5, r5, s5⟩ := fldS Try.underlying38 h hs (i := 5) (off := 8) (n := 1) rfl rfl (by kernel_rfl)
  obtain ⟨d6, r6, _⟩ := fldS Try.underlying38 h hs (i := 6) (off := 9) (n := 1) rfl rfl (by kernel_rfl)
  obtain ⟨d7, r7, _⟩ := fldS Try.underlying38 h hs (i := 7) (off := 10) (n := 1) rfl rfl (by kernel_rfl)
  match cs, hl with
  | [c0, c1, c2, c3, c4, c5, c6, c7, c8, c9, c10], _ =>
    obtain ⟨n, hn, _⟩ := rd_int Try.underlying3 r0
    obtain ⟨dv, hdv, _⟩ := rd_int Try.underlying34 r1
    obtain ⟨a, b, c, e, har⟩ := rd_arr4 r2
    obtain ⟨dy, hdy, _⟩ := rd_int Try.underlying34 r3
    obtain ⟨tm, htm, _⟩ := rd_int Try.underlying34 r4
    obtain ⟨ys, hys, hrg, hyl, hyb⟩ := rd_items r5 s5
    obtain ⟨md, hmd⟩ := rd_bool Try.underlying4 r6
    obtain ⟨kp, hkp⟩ := rd_bool Try.underlying4 r7
    simp at hn hdv har hdy htm hmd hkp
    refine ⟨(⟨n, dv, a, b, c, e, dy, tm, ys.map bare, md, kp⟩, c8), ?_, ⟨ys, hys, rfl⟩, fun it hit => ?_, by simpa using hyl, fun it hit => ?_⟩
    · simp [encP, hn, hdv, har, hdy, htm, hmd, hkp]
    · obtain ⟨y, hy, rfl⟩ := List.mem_map.1 hit
      exact hrg y hy
    · obtain ⟨y, hy, rfl⟩ := List.mem_map.1 hit
      exact hyb y hy

theorem rd_seen {W : World} (cs : List Value) (d : DataW H) (h : Rd enc W 40 cs d) (hs : Sz 40 d) : ∃ x : Sn, cs = cellsS x := by
  obtain ⟨hl, _⟩ := rd_struct Try.underlying40 h
  have h3 : Try.prog.cellsOf 40 = 11 := by kernel_rfl
  rw [h3] at hl
  obtain ⟨d0, r0, _⟩ := fldS Try.underlying40 h hs (i := 0) (off := 0) (n := 1) rfl rfl (by kernel_rfl)
  obtain ⟨d1, r1, _⟩ := fldS Try.underlying40 h hs (i := 1) (off := 1) (n := 1) rfl rfl (by kernel_rfl)
  obtain ⟨d2, r2, _⟩ := fldS Try.underlying40 h hs (i := 2) (off := 2) (n := 4) rfl rfl (by kernel_rfl)
  obtain ⟨d3, r3, _⟩ := fldS Try.underlying40 h hs (i := 3) (off := 6) (n := 1) rfl rfl (by kernel_rfl)
  obtain ⟨d4, r4, _⟩ := fldS Try.underlying40 h hs (i := 4) (off := 7) (n := 1) rfl rfl (by kernel_rfl)
  obtain ⟨d5, r5, _⟩ := fldS Try.underlying40 h hs (i := 5) (off := 8) (n := 1) rfl rfl (by kernel_rfl)
  obtain ⟨d6, r6, _⟩ := fldS Try.underlying40 h hs (i := 6) (off := 9) (n := 1) rfl rfl (by kernel_rfl)
  obtain ⟨d7, r7, _⟩ := fldS Try.underlying40 h hs (i := 7) (off := 10) (n := 1) rfl rfl (by kernel_rfl)
  match cs, hl with
  | [c0, c1, c2, c3, c4, c5, c6, c7, c8, c9, c10], _ =>
    obtain ⟨th, hth⟩ := rd_bool Try.underlying4 r0
    obtain ⟨dv, hdv, _⟩ := rd_int Try.underlying34 r1
    obtain ⟨a, b, c, e, har⟩ := rd_arr4 r2
    obtain ⟨dy, hdy, _⟩ := rd_int Try.underlying34 r3
    obtain ⟨tm, htm, _⟩ := rd_int Try.underlying34 r4
    obtain ⟨st, hst, _⟩ := rd_int Try.underlying3 r5
    obtain ⟨co, hco, _⟩ := rd_int Try.underlying34 r6
    obtain ⟨be, hbe⟩ := rd_bool Try.underlying4 r7
    simp at hth hdv har hdy htm hst hco hbe
    exact ⟨⟨th, dv, a, b, c, e, dy, tm, st, co, be⟩, by simp [cellsS, hth, hdv, har, hdy, htm, hst, hco, hbe]⟩
end
end Go.Proofs.Ytjjmkpjclhielaa
