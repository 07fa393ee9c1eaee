/-
  The arguments of a law, opened: what lies in memory where the form reads a datum. Slices of structs, opened. What the wheel's acts read as.
-/
import Derived.Test.YtmkkeglcjbogcaaMfd864c8a
import Derived.Test.YtmkkeglcjbogcaaMc1e7d997
import Derived.Test.YtmkkeglcjbogcaaMaa5f9879
set_option linter.unusedVariables false
set_option linter.unusedSimpArgs false
namespace Go.Proofs.Ytmkkeglcjbogcaa
open Go.ChangeShapes Go.WideShapes Go.ChangeAt Go.RowKit Go.Deep
set_option linter.unusedVariables false

section
variable {H : Type} {enc : TypeId × Value → H}

/-- The cells cs read as the datum d of type t. -/
def Rd (enc : TypeId × Value → H) (W : World) (t : TypeId) (cs : List Value) (d : DataW H) : Prop := ∃ fuel ps, DataW.trod enc Try.prog W 0 (fun _ => true) true fuel t cs = some (d, ps)

theorem rd_int {W : World} {t : TypeId} {k : IntKind} {cs : List Value} {d : DataW H} (ht : Try.prog.underlying t = some (.int k)) (h : Rd enc W t cs d) : ∃ n, cs = [.int k n] ∧ (Lit.int k n).wf = true := by
  obtain ⟨fuel, ps, h⟩ := h
  obtain ⟨n, h1, _, h3⟩ := DataW.trod_int ht h
  exact ⟨n, h1, h3⟩

theorem rd_bool {W : World} {t : TypeId} {cs : List Value} {d : DataW H} (ht : Try.prog.underlying t = some .bool) (h : Rd enc W t cs d) : ∃ b, cs = [.bool b] := by
  obtain ⟨fuel, ps, h⟩ := h
  obtain ⟨n, h1, _⟩ := DataW.trod_bool ht h
  exact ⟨n, h1⟩

theorem rd_slice {W : World} {t e : TypeId} {sz : Nat} {cs : List Value} {d : DataW H} (ht : Try.prog.underlying t = some (.slice e)) (hz : Try.prog.cellsOf e = sz) (hz0 : 0 < sz) (h : Rd enc W t cs d) :
    ∃ (A : Option Addr) (n cap : Nat) (D : Nat → DataW H), cs = [.slice A n cap] ∧ n ≤ cap ∧ cap ≤ maxLen ∧ ((n = 0 ∧ cap = 0 ∧ d = .nil) ∨ ∃ sp, d = .slice ((List.range n).map D) sp ∧ sp.length = cap - n) ∧
      (0 < n → ∃ g off, A = some ⟨g, off, none⟩ ∧ g < W.heap.size ∧ ∀ i, i < n → ∃ cs', cs'.length = sz ∧ (∀ j, j < sz → W.cell? ⟨g, off + i * sz + j, none⟩ = cs'[j]?) ∧ Rd enc W e cs' (D i)) := by
  obtain ⟨fuel, ps, h⟩ := h
  rcases open_slice ht h with ⟨rfl, hx⟩ | ⟨a, len, cap, m, n, D, Pl, rfl, hb, hl, hm, hmm, hx, hel⟩
  · simp only [Prod.mk.injEq] at hx
    exact ⟨none, 0, 0, fun _ => .nil, rfl, Nat.le_refl _, Nat.zero_le _, .inl ⟨rfl, rfl, hx.1⟩, fun h => absurd h (by omega)⟩
  · simp only [if_true] at hmm
    subst hmm
    simp only [Prod.mk.injEq] at hx
    refine ⟨some a, len, m, D, rfl, hl, hm, .inr ⟨_, hx.1, by simp⟩, fun h0 => ?_⟩
    have hcell : ∀ i, i < len → ∃ cs', cs'.length = sz ∧ (∀ j, j < sz → W.cell? (a.add (i * sz + j)) = cs'[j]?) ∧ Rd enc W e cs' (D i) := fun i hi => by
      obtain ⟨cs', h1, h2⟩ := hel i (by omega)
      rw [hz] at h1
      obtain ⟨_, h3, h4⟩ := World.cells?_some h1
      exact ⟨cs', h3, fun j hj => by rw [← h4 j hj, add_add], _, _, h2⟩
    obtain ⟨cs0, l0, c0, _⟩ := hcell 0 h0
    have c00 := c0 0 hz0
    obtain ⟨ab, ao, asp⟩ := a
    have hsp : asp = none := by
      have : W.cell? ⟨ab, ao, asp⟩ = cs0[0]? := by simpa [Addr.add] using c00
      rw [List.getElem?_eq_getElem (by omega)] at this
      cases asp with
      | none => rfl
      | some s =>
        unfold World.cell? at this
        split at this <;> simp at this
    subst hsp
    refine ⟨ab, ao, rfl, ?_, fun i hi => ?_⟩
    · rw [List.getElem?_eq_getElem (by omega)] at c00
      have := World.block_lt_of_cell? W _ c00
      simpa [Addr.add] using this
    · obtain ⟨cs', l', c', r'⟩ := hcell i hi
      exact ⟨cs', l', fun j hj => by rw [← c' j hj, add_off, Nat.add_assoc], r'⟩

theorem rd_struct {W : World} {t : TypeId} {fs : Array Field} {cs : List Value} {d : DataW H} (ht : Try.prog.underlying t = some (.struct fs)) (h : Rd enc W t cs d) :
    cs.length = Try.prog.cellsOf t ∧ ∃ ds, d = .agg ds ∧ ds.length = fs.size ∧ ∀ (i : Nat) (f : Field), fs[i]? = some f → ∃ di, ds[i]? = some di ∧ Rd enc W f.type ((cs.drop f.offset).take (Try.prog.cellsOf f.type)) di := by
  obtain ⟨fuel, ps, h⟩ := h
  obtain ⟨xs, n, _, hx, hl, hl2, hf⟩ := DataW.trod_struct ht h
  simp only [Prod.mk.injEq] at hx
  refine ⟨hl, _, hx.1, by simpa using hl2, fun i f hi => ?_⟩
  have := hf i f hi
  have hi' : i < fs.size := (Array.getElem?_eq_some_iff.1 hi).1
  rw [List.getElem?_eq_getElem (by omega)] at this
  exact ⟨(xs[i]'(by omega)).1, by simp [hl2, hi'], n, (xs[i]'(by omega)).2, this⟩

theorem u8_wf {n : Int} (h : (Lit.int .u8 n).wf = true) : 0 ≤ n ∧ n ≤ 255 := by simpa [Lit.wf, IntKind.min, IntKind.max, IntKind.signed, IntKind.bits] using h
theorem u16_wf {n : Int} (h : (Lit.int .u16 n).wf = true) : 0 ≤ n ∧ n ≤ 65535 := by simpa [Lit.wf, IntKind.min, IntKind.max, IntKind.signed, IntKind.bits] using h
theorem u32_wf {n : Int} (h : (Lit.int .u32 n).wf = true) : 0 ≤ n ∧ n ≤ 4294967295 := by simpa [Lit.wf, IntKind.min, IntKind.max, IntKind.signed, IntKind.bits] using h
theorem u64_wf {n : Int} (h : (Lit.int .u64 n).wf = true) : 0 ≤ n ∧ n ≤ 18446744073709551615 := by simpa [Lit.wf, IntKind.min, IntKind.max, IntKind.signed, IntKind.bits] using h
theorem i64_wf {n : Int} (h : (Lit.int .i64 n).wf = true) : -9223372036854775808 ≤ n ∧ n ≤ 9223372036854775807 := by simpa [Lit.wf, IntKind.min, IntKind.max, IntKind.signed, IntKind.bits] using h

/-- From 'for every i < n there is an x' to one list. -/
theorem choose_list {α : Type} {n : Nat} {p : Nat → α → Prop} (h : ∀ i, i < n → ∃ x, p i x) : ∃ l : List α, l.length = n ∧ ∀ i (hi : i < l.length), p i l[i] := by
  induction n with
  | zero => exact ⟨[], rfl, fun i hi => absurd hi (by simp)⟩
  | succ n ih =>
    obtain ⟨l, hl, hp⟩ := ih (fun i hi => h i (by omega))
    obtain ⟨x, hx⟩ := h n (by omega)
    refine ⟨l ++ [x], by simp [hl], fun i hi => ?_⟩
    by_cases hi' : i < l.length
    · rw [List.getElem_append_left hi']; exact hp i hi'
    · have : i = n := by simp at hi; omega
      subst this
      simp only [List.getElem_append, hl, Nat.lt_irrefl, dite_false, Nat.sub_self, List.getElem_cons_zero]
      exact hx

theorem rd_bytes {W : World} {t e : TypeId} {cs : List Value} {d : DataW H} (ht : Try.prog.underlying t = some (.slice e)) (he : Try.prog.underlying e = some (.int .u8)) (hz : Try.prog.cellsOf e = 1) (h : Rd enc W t cs d) :
    ∃ v bs, cs = [v] ∧ BytesAt W v bs ∧ ((bs.length = 0 ∧ d = .nil) ∨ ∃ el sp, d = .slice el sp ∧ el.length = bs.length) := by
  obtain ⟨A, n, cap, D, rfl, h1, h2, hd, hA⟩ := rd_slice ht hz (by decide) h
  obtain ⟨bs, hl, hb⟩ := choose_list (n := n) (p := fun i (b : UInt8) => ∀ g off, A = some ⟨g, off, none⟩ → W.cell? ⟨g, off + i, none⟩ = some (.int .u8 b.toNat)) (fun i hi => by
    obtain ⟨g, off, rfl, _, hc⟩ := hA (by omega)
    obtain ⟨cs', l', c', r'⟩ := hc i hi
    obtain ⟨m, rfl, hw⟩ := rd_int he r'
    have hw := u8_wf hw
    refine ⟨UInt8.ofNat m.toNat, fun g2 off2 e2 => ?_⟩
    cases e2
    have := c' 0 (by decide)
    simp only [Nat.mul_one, Nat.add_zero] at this
    rw [this]
    simp only [List.getElem?_cons_zero, Option.some.injEq, Value.int.injEq, true_and]
    have hm : (UInt8.ofNat m.toNat).toNat = m.toNat := UInt8.toNat_ofNat_of_lt' (by simp only [UInt8.size]; omega)
    rw [hm]
    omega)
  subst hl
  refine ⟨_, bs, rfl, ⟨A, cap, rfl, h1, h2, fun h0 => ?_⟩, ?_⟩
  · obtain ⟨g, off, rfl, _, _⟩ := hA h0
    refine ⟨g, off, rfl, fun i hi => ?_⟩
    have := hb i hi g off rfl
    rw [this]
    simp [hi]
  · rcases hd with ⟨h0, _, hd⟩ | ⟨sp, hd, _⟩
    · exact .inl ⟨h0, hd⟩
    · exact .inr ⟨_, sp, hd, by simp⟩

set_option maxRecDepth 100000 in
theorem arg_slice {W : World} {base : Nat} {t e : TypeId} {v : Value} {d : DataW H} {ps : List MemPlace} (ht : Try.prog.underlying t = some (.slice e)) (hval : Value.okWide Try.prog W .any base t v) (h : DataW.Trod enc Try.prog W 0 (fun _ => true) true t v d ps) : Rd enc W t [v] d := by
  obtain ⟨a, len, cap, rfl⟩ := okWide_slice ht hval
  obtain ⟨fuel, hf⟩ := h
  exact ⟨fuel, ps, hf⟩
end
end Go.Proofs.Ytmkkeglcjbogcaa
namespace Go.Proofs.Ytmkkeglcjbogcaa
open Go.ChangeShapes Go.WideShapes Go.ChangeAt Go.RowKit Go.Deep
set_option linter.unusedVariables false

section
variable {H : Type} {enc : TypeId × Value → H}

theorem rd_sl {α : Type} {encα : α → List Value} {sz : Nat} {W : World} {t e : TypeId} {cs : List Value} {d : DataW H} (good : α → Prop) (ht : Try.prog.underlying t = some (.slice e)) (hz : Try.prog.cellsOf e = sz) (hz0 : 0 < sz)
    (hel : ∀ cs d, Rd enc W e cs d → ∃ x, cs = encα x ∧ good x) (h : Rd enc W t cs d) :
    ∃ v xs, cs = [v] ∧ SlAt encα sz W v xs ∧ (∀ x ∈ xs, good x) ∧ (xs.length = 0 ∨ ∃ el sp, d = .slice el sp ∧ el.length = xs.length) := by
  obtain ⟨A, n, cap, D, rfl, h1, h2, hd, hA⟩ := rd_slice ht hz hz0 h
  obtain ⟨xs, hl, hx⟩ := choose_list (n := n) (p := fun i (x : α) => good x ∧ ∀ g off, A = some ⟨g, off, none⟩ → ∀ j, j < sz → W.cell? ⟨g, off + i * sz + j, none⟩ = (encα x)[j]?) (fun i hi => by
    obtain ⟨g, off, rfl, _, hc⟩ := hA (by omega)
    obtain ⟨cs', l', c', r'⟩ := hc i hi
    obtain ⟨x, rfl, hg⟩ := hel _ _ r'
    exact ⟨x, hg, fun g2 off2 e2 => by cases e2; exact c'⟩)
  subst hl
  refine ⟨_, xs, rfl, ⟨A, cap, rfl, h1, h2, fun h0 => ?_⟩, fun x hx' => ?_, ?_⟩
  · obtain ⟨g, off, rfl, hg, _⟩ := hA h0
    exact ⟨g, off, rfl, hg, fun i hi j hj => (hx i hi).2 g off rfl j hj⟩
  · obtain ⟨i, hi, rfl⟩ := List.getElem_of_mem hx'
    exact (hx i hi).1
  · rcases hd with ⟨h0, _, hd⟩ | ⟨sp, hd, _⟩
    · exact .inl h0
    · exact .inr ⟨_, sp, hd, by simp⟩

set_option maxRecDepth 100000 in
theorem sl_bound {ts : List TypeId} {ds : List (DataW H)} {j : Nat} {t e : TypeId} {d : DataW H} {n b : Nat} (hw : (DataW.weightsEach Try.prog ts ds).all (· ≤ reachBytes) = true) (ht : ts[j]? = some t) (hd : ds[j]? = some d) (hu : Try.prog.underlying t = some (.slice e)) (hb : Try.prog.bytesOf e = b)
    (h : n = 0 ∨ ∃ el sp, d = .slice el sp ∧ el.length = n) : n * b ≤ 140737488351232 := by
  rcases h with h | ⟨el, sp, rfl, h⟩
  · subst h; omega
  · have := sized_slice hw ht hd hu
    rw [hb] at this
    have hr : reachBytes = 140737488351232 := rfl
    have h2 : n * b ≤ (el.length + sp.length) * b := Nat.mul_le_mul_right _ (by omega)
    omega

set_option maxRecDepth 100000 in
/-- A struct of three fields, one cell each. -/
theorem rd_struct3 {W : World} {t : TypeId} {f0 f1 f2 : Field} {cs : List Value} {d : DataW H} (ht : Try.prog.underlying t = some (.struct #[f0, f1, f2])) (hz : Try.prog.cellsOf t = 3) (z0 : f0.offset = 0) (z1 : f1.offset = 1) (z2 : f2.offset = 2)
    (y0 : Try.prog.cellsOf f0.type = 1) (y1 : Try.prog.cellsOf f1.type = 1) (y2 : Try.prog.cellsOf f2.type = 1) (h : Rd enc W t cs d) :
    ∃ c0 c1 c2 d0 d1 d2, cs = [c0, c1, c2] ∧ Rd enc W f0.type [c0] d0 ∧ Rd enc W f1.type [c1] d1 ∧ Rd enc W f2.type [c2] d2 := by
  obtain ⟨hl, ds, _, _, hf⟩ := rd_struct ht h
  rw [hz] at hl
  match cs, hl with
  | [c0, c1, c2], _ =>
    obtain ⟨d0, _, r0⟩ := hf 0 f0 rfl
    obtain ⟨d1, _, r1⟩ := hf 1 f1 rfl
    obtain ⟨d2, _, r2⟩ := hf 2 f2 rfl
    rw [z0, y0] at r0
    rw [z1, y1] at r1
    rw [z2, y2] at r2
    exact ⟨c0, c1, c2, d0, d1, d2, rfl, r0, r1, r2⟩
end
end Go.Proofs.Ytmkkeglcjbogcaa
namespace Go.Proofs.Ytmkkeglcjbogcaa
open Go.ChangeShapes Go.WideShapes Go.ChangeAt Go.RowKit Go.Deep
set_option linter.unusedVariables false
set_option maxRecDepth 100000

section
variable {H : Type} {enc : TypeId × Value → H}
theorem fldN {W : World} {t : TypeId} {fs : Array Field} {cs : List Value} {d : DataW H} (ht : Try.prog.underlying t = some (.struct fs)) (h : Rd enc W t cs d) {i off n : Nat} {f : Field} (hf : fs[i]? = some f) (ho : f.offset = off) (hn : Try.prog.cellsOf f.type = n) :
    ∃ di, Rd enc W f.type ((cs.drop off).take n) di := by
  obtain ⟨_, ds, rfl, _, hall⟩ := rd_struct ht h
  obtain ⟨di, hdi, r⟩ := hall i f hf
  subst ho hn
  exact ⟨di, r⟩
theorem rd_wact {W : World} (cs : List Value) (d : DataW H) (h : Rd enc W 99 cs d) : ∃ x : WAc, cs = encW x ∧ 0 ≤ x.a ∧ 0 ≤ x.b := by
  obtain ⟨hl, _⟩ := rd_struct Try.underlying99 h
  have h3 : Try.prog.cellsOf 99 = 5 := by kernel_rfl
  rw [h3] at hl
  obtain ⟨d0, r0⟩ := fldN Try.underlying99 h (i := 0) (off := 0) (n := 1) rfl rfl (by kernel_rfl)
  obtain ⟨d1, r1⟩ := fldN Try.underlying99 h (i := 1) (off := 1) (n := 1) rfl rfl (by kernel_rfl)
  obtain ⟨d2, r2⟩ := fldN Try.underlying99 h (i := 2) (off := 2) (n := 1) rfl rfl (by kernel_rfl)
  obtain ⟨d3, r3⟩ := fldN Try.underlying99 h (i := 3) (off := 3) (n := 1) rfl rfl (by kernel_rfl)
  obtain ⟨d4, r4⟩ := fldN Try.underlying99 h (i := 4) (off := 4) (n := 1) rfl rfl (by kernel_rfl)
  match cs, hl with
  | [e0, e1, e2, e3, e4], _ =>
    obtain ⟨a0, ha0, _⟩ := rd_int Try.underlying3 r0
    obtain ⟨a1, ha1, _⟩ := rd_int Try.underlying3 r1
    obtain ⟨a2, ha2, _⟩ := rd_int Try.underlying3 r2
    obtain ⟨a3, ha3, w3⟩ := rd_int Try.underlying32 r3
    obtain ⟨a4, ha4, w4⟩ := rd_int Try.underlying32 r4
    simp at ha0 ha1 ha2 ha3 ha4
    refine ⟨⟨a0, a1, a2, a3, a4⟩, ?_, (u64_wf w3).1, (u64_wf w4).1⟩
    rw [ha0, ha1, ha2, ha3, ha4]
    rfl
end
end Go.Proofs.Ytmkkeglcjbogcaa
