/-
  The arguments of a law, opened: what lies in memory where the form reads a datum. Slices of structs, opened. Slices of structs that hold slices, opened, with the form's own reach. What the row's arguments read as: strings, values, entries, calls. The document's Again: whether an item is written again by a later one.
-/
import Derived.Test.YtemjdmgfilbfaaaGreatM85fb667e
import Derived.Test.YtemjdmgfilbfaaaGreatMc6bffdeb
import Derived.Test.YtemjdmgfilbfaaaGreatMddbe9747
import Derived.Test.YtemjdmgfilbfaaaGreatM40cba657
set_option linter.unusedVariables false
set_option linter.unusedSimpArgs false
namespace Go.Proofs.YtemjdmgfilbfaaaGreat
open Go.ChangeShapes Go.WideShapes Go.ChangeAt Go.RowKit Go.Deep
set_option linter.unusedVariables false

section
variable {H : Type} {enc : TypeId × Value → H}

/-- The cells cs read as the datum d of type t. -/
def Rd (enc : TypeId × Value → H) (W : World) (t : TypeId) (cs : List Value) (d : DataW H) : Prop := ∃ fuel ps, DataW.trod enc Tryz.prog W 0 (fun _ => true) true fuel t cs = some (d, ps)

theorem rd_int {W : World} {t : TypeId} {k : IntKind} {cs : List Value} {d : DataW H} (ht : Tryz.prog.underlying t = some (.int k)) (h : Rd enc W t cs d) : ∃ n, cs = [.int k n] ∧ (Lit.int k n).wf = true := by
  obtain ⟨fuel, ps, h⟩ := h
  obtain ⟨n, h1, _, h3⟩ := DataW.trod_int ht h
  exact ⟨n, h1, h3⟩

theorem rd_bool {W : World} {t : TypeId} {cs : List Value} {d : DataW H} (ht : Tryz.prog.underlying t = some .bool) (h : Rd enc W t cs d) : ∃ b, cs = [.bool b] := by
  obtain ⟨fuel, ps, h⟩ := h
  obtain ⟨n, h1, _⟩ := DataW.trod_bool ht h
  exact ⟨n, h1⟩

theorem rd_slice {W : World} {t e : TypeId} {sz : Nat} {cs : List Value} {d : DataW H} (ht : Tryz.prog.underlying t = some (.slice e)) (hz : Tryz.prog.cellsOf e = sz) (hz0 : 0 < sz) (h : Rd enc W t cs d) :
    ∃ (A : Option Addr) (n cap : Nat) (D : Nat → DataW H), cs = [.slice A n cap] ∧ n ≤ cap ∧ cap ≤ maxLen ∧ ((n = 0 ∧ cap = 0 ∧ d = .nil) ∨ ∃ sp, d = .slice ((List.range n).map D) sp ∧ sp.length = cap - n) ∧
      (0 < n → ∃ g off, A = some ⟨g, off, none⟩ ∧ g < W.heap.size ∧ ∀ i, i < n → ∃ cs', cs'.length = sz ∧ (∀ j, j < sz → W.cell? ⟨g, off + i * sz + j, none⟩ = cs'[j]?) ∧ Rd enc W e cs' (D i)) := by
  obtain ⟨fuel, ps, h⟩ := h
  rcases open_slice ht h with ⟨rfl, hx⟩ | ⟨a, len, cap, m, n, D, Pl, rfl, hb, hl, hm, hmm, hx, hel⟩
  · simp only [Prod.mk.injEq] at hx
    exact ⟨none, 0, 0, fun _ => .nil, rfl, Nat.le_refl _, Nat.zero_le _, .inl ⟨rfl, rfl, hx.1⟩, fun h => absurd h (by omega)⟩
  · simp only [if_true] at hmm
    subst hmm
    simp only [Prod.mk.injEq] at hx
    refine ⟨some a, len, m, D, rfl, hl, hm, .inr ⟨_, hx.1, by simp⟩, fun h0 => ?_⟩
    have hcell : ∀ i, i < len → ∃ cs', cs'.length = sz ∧ (∀ j, j < sz → W.cell? (a.add (i * sz + j)) = cs'[j]?) ∧ Rd enc W e cs' (D i) := fun i hi => by
      obtain ⟨cs', h1, h2⟩ := hel i (by omega)
      rw [hz] at h1
      obtain ⟨_, h3, h4⟩ := World.cells?_some h1
      exact ⟨cs', h3, fun j hj => by rw [← h4 j hj, add_add], _, _, h2⟩
    obtain ⟨cs0, l0, c0, _⟩ := hcell 0 h0
    have c00 := c0 0 hz0
    obtain ⟨ab, ao, asp⟩ := a
    have hsp : asp = none := by
      have : W.cell? ⟨ab, ao, asp⟩ = cs0[0]? := by simpa [Addr.add] using c00
      rw [List.getElem?_eq_getElem (by omega)] at this
      cases asp with
      | none => rfl
      | some s =>
        unfold World.cell? at this
        split at this <;> simp at this
    subst hsp
    refine ⟨ab, ao, rfl, ?_, fun i hi => ?_⟩
    · rw [List.getElem?_eq_getElem (by omega)] at c00
      have := World.block_lt_of_cell? W _ c00
      simpa [Addr.add] using this
    · obtain ⟨cs', l', c', r'⟩ := hcell i hi
      exact ⟨cs', l', fun j hj => by rw [← c' j hj, add_off, Nat.add_assoc], r'⟩

theorem rd_struct {W : World} {t : TypeId} {fs : Array Field} {cs : List Value} {d : DataW H} (ht : Tryz.prog.underlying t = some (.struct fs)) (h : Rd enc W t cs d) :
    cs.length = Tryz.prog.cellsOf t ∧ ∃ ds, d = .agg ds ∧ ds.length = fs.size ∧ ∀ (i : Nat) (f : Field), fs[i]? = some f → ∃ di, ds[i]? = some di ∧ Rd enc W f.type ((cs.drop f.offset).take (Tryz.prog.cellsOf f.type)) di := by
  obtain ⟨fuel, ps, h⟩ := h
  obtain ⟨xs, n, _, hx, hl, hl2, hf⟩ := DataW.trod_struct ht h
  simp only [Prod.mk.injEq] at hx
  refine ⟨hl, _, hx.1, by simpa using hl2, fun i f hi => ?_⟩
  have := hf i f hi
  have hi' : i < fs.size := (Array.getElem?_eq_some_iff.1 hi).1
  rw [List.getElem?_eq_getElem (by omega)] at this
  exact ⟨(xs[i]'(by omega)).1, by simp [hl2, hi'], n, (xs[i]'(by omega)).2, this⟩

theorem u8_wf {n : Int} (h : (Lit.int .u8 n).wf = true) : 0 ≤ n ∧ n ≤ 255 := by simpa [Lit.wf, IntKind.min, IntKind.max, IntKind.signed, IntKind.bits] using h
theorem u16_wf {n : Int} (h : (Lit.int .u16 n).wf = true) : 0 ≤ n ∧ n ≤ 65535 := by simpa [Lit.wf, IntKind.min, IntKind.max, IntKind.signed, IntKind.bits] using h
theorem u32_wf {n : Int} (h : (Lit.int .u32 n).wf = true) : 0 ≤ n ∧ n ≤ 4294967295 := by simpa [Lit.wf, IntKind.min, IntKind.max, IntKind.signed, IntKind.bits] using h
theorem u64_wf {n : Int} (h : (Lit.int .u64 n).wf = true) : 0 ≤ n ∧ n ≤ 18446744073709551615 := by simpa [Lit.wf, IntKind.min, IntKind.max, IntKind.signed, IntKind.bits] using h
theorem i64_wf {n : Int} (h : (Lit.int .i64 n).wf = true) : -9223372036854775808 ≤ n ∧ n ≤ 9223372036854775807 := by simpa [Lit.wf, IntKind.min, IntKind.max, IntKind.signed, IntKind.bits] using h

/-- From 'for every i < n there is an x' to one list. -/
theorem choose_list {α : Type} {n : Nat} {p : Nat → α → Prop} (h : ∀ i, i < n → ∃ x, p i x) : ∃ l : List α, l.length = n ∧ ∀ i (hi : i < l.length), p i l[i] := by
  induction n with
  | zero => exact ⟨[], rfl, fun i hi => absurd hi (by simp)⟩
  | succ n ih =>
    obtain ⟨l, hl, hp⟩ := ih (fun i hi => h i (by omega))
    obtain ⟨x, hx⟩ := h n (by omega)
    refine ⟨l ++ [x], by simp [hl], fun i hi => ?_⟩
    by_cases hi' : i < l.length
    · rw [List.getElem_append_left hi']; exact hp i hi'
    · have : i = n := by simp at hi; omega
      subst this
      simp only [List.getElem_append, hl, Nat.lt_irrefl, dite_false, Nat.sub_self, List.getElem_cons_zero]
      exact hx

theorem rd_bytes {W : World} {t e : TypeId} {cs : List Value} {d : DataW H} (ht : Tryz.prog.underlying t = some (.slice e)) (he : Tryz.prog.underlying e = some (.int .u8)) (hz : Tryz.prog.cellsOf e = 1) (h : Rd enc W t cs d) :
    ∃ v bs, cs = [v] ∧ BytesAt W v bs ∧ ((bs.length = 0 ∧ d = .nil) ∨ ∃ el sp, d = .slice el sp ∧ el.length = bs.length) := by
  obtain ⟨A, n, cap, D, rfl, h1, h2, hd, hA⟩ := rd_slice ht hz (by decide) h
  obtain ⟨bs, hl, hb⟩ := choose_list (n := n) (p := fun i (b : UInt8) => ∀ g off, A = some ⟨g, off, none⟩ → W.cell? ⟨g, off + i, none⟩ = some (.int .u8 b.toNat)) (fun i hi => by
    obtain ⟨g, off, rfl, _, hc⟩ := hA (by omega)
    obtain ⟨cs', l', c', r'⟩ := hc i hi
    obtain ⟨m, rfl, hw⟩ := rd_int he r'
    have hw := u8_wf hw
    refine ⟨UInt8.ofNat m.toNat, fun g2 off2 e2 => ?_⟩
    cases e2
    have := c' 0 (by decide)
    simp only [Nat.mul_one, Nat.add_zero] at this
    rw [this]
    simp only [List.getElem?_cons_zero, Option.some.injEq, Value.int.injEq, true_and]
    have hm : (UInt8.ofNat m.toNat).toNat = m.toNat := UInt8.toNat_ofNat_of_lt' (by simp only [UInt8.size]; omega)
    rw [hm]
    omega)
  subst hl
  refine ⟨_, bs, rfl, ⟨A, cap, rfl, h1, h2, fun h0 => ?_⟩, ?_⟩
  · obtain ⟨g, off, rfl, _, _⟩ := hA h0
    refine ⟨g, off, rfl, fun i hi => ?_⟩
    have := hb i hi g off rfl
    rw [this]
    simp [hi]
  · rcases hd with ⟨h0, _, hd⟩ | ⟨sp, hd, _⟩
    · exact .inl ⟨h0, hd⟩
    · exact .inr ⟨_, sp, hd, by simp⟩

set_option maxRecDepth 100000 in
theorem arg_slice {W : World} {base : Nat} {t e : TypeId} {v : Value} {d : DataW H} {ps : List MemPlace} (ht : Tryz.prog.underlying t = some (.slice e)) (hval : Value.okWide Tryz.prog W .any base t v) (h : DataW.Trod enc Tryz.prog W 0 (fun _ => true) true t v d ps) : Rd enc W t [v] d := by
  obtain ⟨a, len, cap, rfl⟩ := okWide_slice ht hval
  obtain ⟨fuel, hf⟩ := h
  exact ⟨fuel, ps, hf⟩
end
end Go.Proofs.YtemjdmgfilbfaaaGreat
namespace Go.Proofs.YtemjdmgfilbfaaaGreat
open Go.ChangeShapes Go.WideShapes Go.ChangeAt Go.RowKit Go.Deep
set_option linter.unusedVariables false

section
variable {H : Type} {enc : TypeId × Value → H}

theorem rd_sl {α : Type} {encα : α → List Value} {sz : Nat} {W : World} {t e : TypeId} {cs : List Value} {d : DataW H} (good : α → Prop) (ht : Tryz.prog.underlying t = some (.slice e)) (hz : Tryz.prog.cellsOf e = sz) (hz0 : 0 < sz)
    (hel : ∀ cs d, Rd enc W e cs d → ∃ x, cs = encα x ∧ good x) (h : Rd enc W t cs d) :
    ∃ v xs, cs = [v] ∧ SlAt encα sz W v xs ∧ (∀ x ∈ xs, good x) ∧ (xs.length = 0 ∨ ∃ el sp, d = .slice el sp ∧ el.length = xs.length) := by
  obtain ⟨A, n, cap, D, rfl, h1, h2, hd, hA⟩ := rd_slice ht hz hz0 h
  obtain ⟨xs, hl, hx⟩ := choose_list (n := n) (p := fun i (x : α) => good x ∧ ∀ g off, A = some ⟨g, off, none⟩ → ∀ j, j < sz → W.cell? ⟨g, off + i * sz + j, none⟩ = (encα x)[j]?) (fun i hi => by
    obtain ⟨g, off, rfl, _, hc⟩ := hA (by omega)
    obtain ⟨cs', l', c', r'⟩ := hc i hi
    obtain ⟨x, rfl, hg⟩ := hel _ _ r'
    exact ⟨x, hg, fun g2 off2 e2 => by cases e2; exact c'⟩)
  subst hl
  refine ⟨_, xs, rfl, ⟨A, cap, rfl, h1, h2, fun h0 => ?_⟩, fun x hx' => ?_, ?_⟩
  · obtain ⟨g, off, rfl, hg, _⟩ := hA h0
    exact ⟨g, off, rfl, hg, fun i hi j hj => (hx i hi).2 g off rfl j hj⟩
  · obtain ⟨i, hi, rfl⟩ := List.getElem_of_mem hx'
    exact (hx i hi).1
  · rcases hd with ⟨h0, _, hd⟩ | ⟨sp, hd, _⟩
    · exact .inl h0
    · exact .inr ⟨_, sp, hd, by simp⟩

set_option maxRecDepth 100000 in
theorem sl_bound {ts : List TypeId} {ds : List (DataW H)} {j : Nat} {t e : TypeId} {d : DataW H} {n b : Nat} (hw : (DataW.weightsEach Tryz.prog ts ds).all (· ≤ reachBytes) = true) (ht : ts[j]? = some t) (hd : ds[j]? = some d) (hu : Tryz.prog.underlying t = some (.slice e)) (hb : Tryz.prog.bytesOf e = b)
    (h : n = 0 ∨ ∃ el sp, d = .slice el sp ∧ el.length = n) : n * b ≤ 140737488351232 := by
  rcases h with h | ⟨el, sp, rfl, h⟩
  · subst h; omega
  · have := sized_slice hw ht hd hu
    rw [hb] at this
    have hr : reachBytes = 140737488351232 := rfl
    have h2 : n * b ≤ (el.length + sp.length) * b := Nat.mul_le_mul_right _ (by omega)
    omega

set_option maxRecDepth 100000 in
/-- A struct of three fields, one cell each. -/
theorem rd_struct3 {W : World} {t : TypeId} {f0 f1 f2 : Field} {cs : List Value} {d : DataW H} (ht : Tryz.prog.underlying t = some (.struct #[f0, f1, f2])) (hz : Tryz.prog.cellsOf t = 3) (z0 : f0.offset = 0) (z1 : f1.offset = 1) (z2 : f2.offset = 2)
    (y0 : Tryz.prog.cellsOf f0.type = 1) (y1 : Tryz.prog.cellsOf f1.type = 1) (y2 : Tryz.prog.cellsOf f2.type = 1) (h : Rd enc W t cs d) :
    ∃ c0 c1 c2 d0 d1 d2, cs = [c0, c1, c2] ∧ Rd enc W f0.type [c0] d0 ∧ Rd enc W f1.type [c1] d1 ∧ Rd enc W f2.type [c2] d2 := by
  obtain ⟨hl, ds, _, _, hf⟩ := rd_struct ht h
  rw [hz] at hl
  match cs, hl with
  | [c0, c1, c2], _ =>
    obtain ⟨d0, _, r0⟩ := hf 0 f0 rfl
    obtain ⟨d1, _, r1⟩ := hf 1 f1 rfl
    obtain ⟨d2, _, r2⟩ := hf 2 f2 rfl
    rw [z0, y0] at r0
    rw [z1, y1] at r1
    rw [z2, y2] at r2
    exact ⟨c0, c1, c2, d0, d1, d2, rfl, r0, r1, r2⟩
end
end Go.Proofs.YtemjdmgfilbfaaaGreat
namespace Go.Proofs.YtemjdmgfilbfaaaGreat
open Go.ChangeShapes Go.WideShapes Go.ChangeAt Go.RowKit Go.Deep
set_option linter.unusedVariables false
set_option maxRecDepth 100000

section
variable {H : Type} {enc : TypeId × Value → H}

/-- Each string, slice and map in the datum is within the form's reach. -/
def Sz (t : TypeId) (d : DataW H) : Prop := ∀ n ∈ DataW.weights Tryz.prog t d, n ≤ reachBytes

theorem sz_arg {ts : List TypeId} {ds : List (DataW H)} {j : Nat} {t : TypeId} {d : DataW H} (hw : (DataW.weightsEach Tryz.prog ts ds).all (· ≤ reachBytes) = true) (ht : ts[j]? = some t) (hd : ds[j]? = some d) : Sz t d := fun n hn => by
  have := List.all_eq_true.1 hw _ (DataW.weights_mem_each ht hd n hn)
  simpa using this

theorem sz_all {e : TypeId} {l : List (DataW H)} (h : ∀ n ∈ DataW.weightsAll Tryz.prog e l, n ≤ reachBytes) : ∀ x ∈ l, Sz e x := by
  induction l with
  | nil => intro x hx; cases hx
  | cons y r ih =>
    intro x hx
    simp only [DataW.weightsAll, List.mem_append] at h
    rcases List.mem_cons.1 hx with rfl | hx
    · exact fun n hn => h n (.inl hn)
    · exact ih (fun n hn => h n (.inr hn)) x hx

theorem sz_slice {t e : TypeId} {el sp : List (DataW H)} (hu : Tryz.prog.underlying t = some (.slice e)) (h : Sz t (.slice el sp)) : (el.length + sp.length) * Tryz.prog.bytesOf e ≤ 140737488351232 ∧ ∀ x ∈ el, Sz e x := by
  have hr : reachBytes = 140737488351232 := rfl
  unfold Sz at h
  simp only [DataW.weights, hu, List.mem_cons, List.mem_append] at h
  exact ⟨by rw [← hr]; exact h _ (.inl rfl), sz_all (fun n hn => h n (.inr (.inl hn)))⟩

theorem sz_string {t : TypeId} {b : List UInt8} (h : Sz (H := H) t (.lit (.string b))) : b.length ≤ 140737488351232 := by
  have hr : reachBytes = 140737488351232 := rfl
  unfold Sz at h
  simp only [DataW.weights, List.mem_cons, List.not_mem_nil, or_false] at h
  rw [← hr]; exact h _ rfl

theorem sz_each {ts : List TypeId} {ds : List (DataW H)} (h : ∀ n ∈ DataW.weightsEach Tryz.prog ts ds, n ≤ reachBytes) {j : Nat} {t : TypeId} {d : DataW H} (ht : ts[j]? = some t) (hd : ds[j]? = some d) : Sz t d :=
  fun n hn => h n (DataW.weights_mem_each ht hd n hn)

theorem sz_struct {t : TypeId} {fs : Array Field} {ds : List (DataW H)} (hu : Tryz.prog.underlying t = some (.struct fs)) (h : Sz t (.agg ds)) {i : Nat} {f : Field} {di : DataW H} (hf : fs[i]? = some f) (hd : ds[i]? = some di) : Sz f.type di := by
  unfold Sz at h
  simp only [DataW.weights, hu] at h
  exact sz_each h (j := i) (by simp [hf]) hd

theorem rd_slS {α : Type} {encα : α → List Value} {sz : Nat} {W : World} {t e : TypeId} {cs : List Value} {d : DataW H} (good : α → Prop) (ht : Tryz.prog.underlying t = some (.slice e)) (hz : Tryz.prog.cellsOf e = sz) (hz0 : 0 < sz)
    (hel : ∀ cs d, Rd enc W e cs d → Sz e d → ∃ x, cs = encα x ∧ good x) (h : Rd enc W t cs d) (hs : Sz t d) :
    ∃ v xs, cs = [v] ∧ SlAt encα sz W v xs ∧ (∀ x ∈ xs, good x) ∧ xs.length * Tryz.prog.bytesOf e ≤ 140737488351232 := by
  obtain ⟨A, n, cap, D, rfl, h1, h2, hd, hA⟩ := rd_slice ht hz hz0 h
  have hsz : n * Tryz.prog.bytesOf e ≤ 140737488351232 ∧ ∀ i, i < n → Sz e (D i) := by
    rcases hd with ⟨h0, _, hd⟩ | ⟨sp, hd, _⟩
    · subst h0; exact ⟨by omega, fun i hi => absurd hi (by omega)⟩
    · subst hd
      obtain ⟨h3, h4⟩ := sz_slice ht hs
      refine ⟨Nat.le_trans (Nat.mul_le_mul_right _ (by simp)) h3, fun i hi => h4 _ (List.mem_map_of_mem (List.mem_range.2 hi))⟩
  obtain ⟨xs, hl, hx⟩ := choose_list (n := n) (p := fun i (x : α) => good x ∧ ∀ g off, A = some ⟨g, off, none⟩ → ∀ j, j < sz → W.cell? ⟨g, off + i * sz + j, none⟩ = (encα x)[j]?) (fun i hi => by
    obtain ⟨g, off, rfl, _, hc⟩ := hA (by omega)
    obtain ⟨cs', l', c', r'⟩ := hc i hi
    obtain ⟨x, rfl, hg⟩ := hel _ _ r' (hsz.2 i hi)
    exact ⟨x, hg, fun g2 off2 e2 => by cases e2; exact c'⟩)
  subst hl
  refine ⟨_, xs, rfl, ⟨A, cap, rfl, h1, h2, fun h0 => ?_⟩, fun x hx' => ?_, hsz.1⟩
  · obtain ⟨g, off, rfl, hg, _⟩ := hA h0
    exact ⟨g, off, rfl, hg, fun i hi j hj => (hx i hi).2 g off rfl j hj⟩
  · obtain ⟨i, hi, rfl⟩ := List.getElem_of_mem hx'
    exact (hx i hi).1

theorem rd_bytesS {W : World} {t e : TypeId} {cs : List Value} {d : DataW H} (ht : Tryz.prog.underlying t = some (.slice e)) (he : Tryz.prog.underlying e = some (.int .u8)) (hz : Tryz.prog.cellsOf e = 1) (hb : Tryz.prog.bytesOf e = 1) (h : Rd enc W t cs d) (hs : Sz t d) :
    ∃ v bs, cs = [v] ∧ BytesAt W v bs ∧ bs.length ≤ 140737488351232 := by
  obtain ⟨v, bs, rfl, hB, hd⟩ := rd_bytes ht he hz h
  refine ⟨v, bs, rfl, hB, ?_⟩
  rcases hd with ⟨h0, _⟩ | ⟨el, sp, rfl, hl⟩
  · omega
  · have := (sz_slice ht hs).1
    rw [hb] at this
    omega

/-- A struct of three fields, one cell each. -/
theorem rd_struct3S {W : World} {t : TypeId} {f0 f1 f2 : Field} {cs : List Value} {d : DataW H} (ht : Tryz.prog.underlying t = some (.struct #[f0, f1, f2])) (hz : Tryz.prog.cellsOf t = 3) (z0 : f0.offset = 0) (z1 : f1.offset = 1) (z2 : f2.offset = 2)
    (y0 : Tryz.prog.cellsOf f0.type = 1) (y1 : Tryz.prog.cellsOf f1.type = 1) (y2 : Tryz.prog.cellsOf f2.type = 1) (h : Rd enc W t cs d) (hs : Sz t d) :
    ∃ c0 c1 c2 d0 d1 d2, cs = [c0, c1, c2] ∧ Rd enc W f0.type [c0] d0 ∧ Rd enc W f1.type [c1] d1 ∧ Rd enc W f2.type [c2] d2 ∧ Sz f0.type d0 ∧ Sz f1.type d1 ∧ Sz f2.type d2 := by
  obtain ⟨hl, ds, rfl, _, hf⟩ := rd_struct ht h
  rw [hz] at hl
  match cs, hl with
  | [c0, c1, c2], _ =>
    obtain ⟨d0, g0, r0⟩ := hf 0 f0 rfl
    obtain ⟨d1, g1, r1⟩ := hf 1 f1 rfl
    obtain ⟨d2, g2, r2⟩ := hf 2 f2 rfl
    rw [z0, y0] at r0
    rw [z1, y1] at r1
    rw [z2, y2] at r2
    exact ⟨c0, c1, c2, d0, d1, d2, rfl, r0, r1, r2, sz_struct ht hs (i := 0) rfl g0, sz_struct ht hs (i := 1) rfl g1, sz_struct ht hs (i := 2) rfl g2⟩

/-- A struct of two fields, one cell each. -/
theorem rd_struct2S {W : World} {t : TypeId} {f0 f1 : Field} {cs : List Value} {d : DataW H} (ht : Tryz.prog.underlying t = some (.struct #[f0, f1])) (hz : Tryz.prog.cellsOf t = 2) (z0 : f0.offset = 0) (z1 : f1.offset = 1)
    (y0 : Tryz.prog.cellsOf f0.type = 1) (y1 : Tryz.prog.cellsOf f1.type = 1) (h : Rd enc W t cs d) (hs : Sz t d) :
    ∃ c0 c1 d0 d1, cs = [c0, c1] ∧ Rd enc W f0.type [c0] d0 ∧ Rd enc W f1.type [c1] d1 ∧ Sz f0.type d0 ∧ Sz f1.type d1 := by
  obtain ⟨hl, ds, rfl, _, hf⟩ := rd_struct ht h
  rw [hz] at hl
  match cs, hl with
  | [c0, c1], _ =>
    obtain ⟨d0, g0, r0⟩ := hf 0 f0 rfl
    obtain ⟨d1, g1, r1⟩ := hf 1 f1 rfl
    rw [z0, y0] at r0
    rw [z1, y1] at r1
    exact ⟨c0, c1, d0, d1, rfl, r0, r1, sz_struct ht hs (i := 0) rfl g0, sz_struct ht hs (i := 1) rfl g1⟩
end
end Go.Proofs.YtemjdmgfilbfaaaGreat
namespace Go.Proofs.YtemjdmgfilbfaaaGreat
open Go.ChangeShapes Go.WideShapes Go.ChangeAt Go.RowKit Go.Deep
set_option linter.unusedVariables false
set_option maxRecDepth 100000

section
variable {H : Type} {enc : TypeId × Value → H}

theorem fldS {W : World} {t : TypeId} {fs : Array Field} {cs : List Value} {d : DataW H} (ht : Tryz.prog.underlying t = some (.struct fs)) (h : Rd enc W t cs d) (hs : Sz t d) {i off n : Nat} {f : Field} (hf : fs[i]? = some f) (ho : f.offset = off) (hn : Tryz.prog.cellsOf f.type = n) :
    ∃ di, Rd enc W f.type ((cs.drop off).take n) di ∧ Sz f.type di := by
  obtain ⟨_, ds, rfl, _, hall⟩ := rd_struct ht h
  obtain ⟨di, hdi, r⟩ := hall i f hf
  subst ho hn
  exact ⟨di, r, sz_struct ht hs hf hdi⟩
theorem rd_str {W : World} {t : TypeId} {cs : List Value} {d : DataW H} (ht : Tryz.prog.underlying t = some .string) (h : Rd enc W t cs d) (hs : Sz t d) : ∃ b : List UInt8, cs = [.string (strB2 b)] ∧ b.length ≤ 140737488351232 := by
  obtain ⟨fuel, ps, h⟩ := h
  obtain ⟨s, h1, h2, _⟩ := DataW.trod_string ht h
  simp only [Prod.mk.injEq] at h2
  rw [h2.1] at hs
  exact ⟨s.data.toList, h1, sz_string hs⟩
theorem rd_va {W : World} (cs : List Value) (d : DataW H) (h : Rd enc W 57 cs d) (hs : Sz 57 d) : ∃ v : Va, cs = cellsV v ∧ v.ok := by
  obtain ⟨hl, _⟩ := rd_struct Tryz.underlying57 h
  have h3 : Tryz.prog.cellsOf 57 = 3 := by kernel_rfl
  rw [h3] at hl
  obtain ⟨d0, r0, _⟩ := fldS Tryz.underlying57 h hs (i := 0) (off := 0) (n := 1) rfl rfl (by kernel_rfl)
  obtain ⟨d1, r1, _⟩ := fldS Tryz.underlying57 h hs (i := 1) (off := 1) (n := 1) rfl rfl (by kernel_rfl)
  obtain ⟨d2, r2, s2⟩ := fldS Tryz.underlying57 h hs (i := 2) (off := 2) (n := 1) rfl rfl (by kernel_rfl)
  match cs, hl with
  | [c0, c1, c2], _ =>
    obtain ⟨a, ha, _⟩ := rd_int Tryz.underlying3 r0
    obtain ⟨b, hb, wb⟩ := rd_int Tryz.underlying55 r1
    obtain ⟨s, hs', hl'⟩ := rd_str Tryz.underlying9 r2 s2
    simp at ha hb hs'
    have h64 := u64_wf wb
    exact ⟨⟨a, b, s⟩, by rw [ha, hb, hs']; rfl, h64.1, by have := h64.2; show b < 18446744073709551616; omega, hl'⟩
theorem rd_en {W : World} (cs : List Value) (d : DataW H) (h : Rd enc W 59 cs d) (hs : Sz 59 d) : ∃ x : En, cs = cellsE x ∧ x.ok := by
  obtain ⟨hl, _⟩ := rd_struct Tryz.underlying59 h
  have h3 : Tryz.prog.cellsOf 59 = 14 := by kernel_rfl
  rw [h3] at hl
  obtain ⟨d0, r0, _⟩ := fldS Tryz.underlying59 h hs (i := 0) (off := 0) (n := 1) rfl rfl (by kernel_rfl)
  obtain ⟨d1, r1, _⟩ := fldS Tryz.underlying59 h hs (i := 1) (off := 1) (n := 1) rfl rfl (by kernel_rfl)
  obtain ⟨d2, r2, _⟩ := fldS Tryz.underlying59 h hs (i := 2) (off := 2) (n := 1) rfl rfl (by kernel_rfl)
  obtain ⟨d3, r3, _⟩ := fldS Tryz.underlying59 h hs (i := 3) (off := 3) (n := 1) rfl rfl (by kernel_rfl)
  obtain ⟨d4, r4, _⟩ := fldS Tryz.underlying59 h hs (i := 4) (off := 4) (n := 1) rfl rfl (by kernel_rfl)
  obtain ⟨d5, r5, s5⟩ := fldS Tryz.underlying59 h hs (i := 5) (off := 5) (n := 3) rfl rfl (by kernel_rfl)
  obtain ⟨d6, r6, s6⟩ := fldS Tryz.underlying59 h hs (i := 6) (off := 8) (n := 3) rfl rfl (by kernel_rfl)
  obtain ⟨d7, r7, s7⟩ := fldS Tryz.underlying59 h hs (i := 7) (off := 11) (n := 3) rfl rfl (by kernel_rfl)
  match cs, hl with
  | [c0, c1, c2, c3, c4, c5, c6, c7, c8, c9, c10, c11, c12, c13], _ =>
    obtain ⟨a, ha, wa⟩ := rd_int Tryz.underlying54 r0
    obtain ⟨b, hb, wb⟩ := rd_int Tryz.underlying5 r1
    obtain ⟨c, hc, _⟩ := rd_int Tryz.underlying3 r2
    obtain ⟨m, hm⟩ := rd_bool Tryz.underlying4 r3
    obtain ⟨l, hl⟩ := rd_bool Tryz.underlying4 r4
    obtain ⟨v5, e5, o5⟩ := rd_va _ _ r5 s5
    obtain ⟨v6, e6, o6⟩ := rd_va _ _ r6 s6
    obtain ⟨v7, e7, o7⟩ := rd_va _ _ r7 s7
    simp [cellsV] at ha hb hc hm hl e5 e6 e7
    have h16 := u16_wf wa
    have h8 := u8_wf wb
    exact ⟨⟨a, b, c, m, l, v5, v6, v7⟩, by rw [ha, hb, hc, hm, hl, e5.1, e5.2.1, e5.2.2, e6.1, e6.2.1, e6.2.2, e7.1, e7.2.1, e7.2.2]; rfl, h16.1, h16.2, h8.1, h8.2, o5, o6, o7⟩
end
end Go.Proofs.YtemjdmgfilbfaaaGreat
namespace Go.Proofs.YtemjdmgfilbfaaaGreat
open Go.RowKit
open List (getElem_toArray getElem_cons_zero getElem_cons_succ setIfInBounds_toArray set_cons_zero set_cons_succ)
set_option linter.unusedVariables false
set_option linter.unusedSimpArgs false

theorem agI_drop (x : Itm) (xs : List Itm) (k : Nat) (hk : k < xs.length) : agI x (xs.drop k) = (samePl xs[k] x || agI x (xs.drop (k + 1))) := by
  unfold agI
  rw [List.drop_eq_getElem_cons hk, List.any_cons]

set_option maxRecDepth 100000 in
set_option maxHeartbeats 4000000 in
theorem again_any (v : Value) (xs : List Itm) (i : Nat) (w : World) (h : SlAt encIt 3 w v xs) (hi : i < xs.length) :
    Calls Tryz.prog 27 #[v, .int .i64 i] w fun e w' => e = .returned (.bool (agI xs[i] (xs.drop (i + 1)))) ∧ Frm (fun _ => False) w w' := by
  have HI := Lib.hid h
  obtain ⟨A, cap, rfl, hn1, hn2, q3⟩ := h
  obtain ⟨g, off, rfl, hgl, hcc⟩ := q3 (by omega)
  have hm : xs.length ≤ 9223372036854775807 := Nat.le_trans hn1 hn2
  have HC := Lib.hid (fun (k o : Nat) (hk : k < xs.length) (ho : o < 3) => (hcc k hk o ho).trans (List.getElem?_eq_getElem (by rw [encIt_len]; exact ho)))
  obtain ⟨x, hx⟩ : ∃ x, x = xs[i] := ⟨_, rfl⟩
  have HX := Lib.hid hx
  obtain ⟨r, hr⟩ : ∃ r, r = agI x (xs.drop (i + 1)) := ⟨_, rfl⟩
  have HR := Lib.hid hr
  rw [← hx, ← hr]
  have hj : (i : Int) < (xs.length : Int) := by omega
  have ha0 := HC.out i 0 hi (by decide)
  have ha1 := HC.out i 1 hi (by decide)
  rw [← hx] at ha0 ha1
  obtain ⟨x0, x1, xv, xb⟩ := x
  simp only [encIt, getElem_cons_succ, getElem_cons_zero, Nat.add_zero] at ha0 ha1
  have HA0 := Lib.hid ha0
  have HA1 := Lib.hid ha1
  clear hx hr q3 hcc hn1 hn2 ha0 ha1
  go_enter Tryz.func27, Tryz.ntmps27
  go_wp2_with fail
  go_loopw [5] (fun j wr => ∃ k : Nat, k ≤ xs.length ∧ j = .int .i64 k ∧ r = agI (x0, x1, xv, xb) (xs.drop k) ∧ Frm (fun _ => False) w wr) (fun j _ => xs.length - (intOf j).toNat)
  case atStart => exact ⟨i + 1, hi, by go_num, HR.out, Frm.refl _ _⟩
  case round =>
    obtain ⟨k, hk, rfl, hcode, hF⟩ := hrel
    by_cases hlt : k < xs.length
    · have hd := agI_drop (x0, x1, xv, xb) xs k hlt
      rw [hd] at hcode
      have hb0 := HC.out k 0 hlt (by decide)
      have hb1 := HC.out k 1 hlt (by decide)
      clear hd
      generalize xs[k] = y at *
      have HKL : Hid (k + 1 ≤ xs.length) := hlt
      obtain ⟨y0, y1, yv, yb⟩ := y
      simp only [encIt, getElem_cons_succ, getElem_cons_zero, Nat.add_zero] at hb0 hb1
      have hC : ∀ Wx, Frm (fun _ => False) wr Wx → Wx.cell? ⟨g, off + k * 3, none⟩ = some (.int .u16 y0) ∧ Wx.cell? ⟨g, off + k * 3 + 1, none⟩ = some (.int .u8 y1) ∧ Wx.cell? ⟨g, off + i * 3, none⟩ = some (.int .u16 x0) ∧ Wx.cell? ⟨g, off + i * 3 + 1, none⟩ = some (.int .u8 x1) := fun Wx h =>
        ⟨(hF.trans' h).cell hb0 (fun h => h), (hF.trans' h).cell hb1 (fun h => h), (hF.trans' h).cell HA0.out (fun h => h), (hF.trans' h).cell HA1.out (fun h => h)⟩
      have HCW := Lib.hid hC
      have HF := Lib.hid hF
      have hsz := hF.size
      have hjk : (k : Int) < (xs.length : Int) := by omega
      have HCO := Lib.hid hcode
      clear hC hF hcode hb0 hb1
      go_upto_region 4 with fail
      by_cases he : y0 = x0
      · subst he
        refine wp_region_held_drew (S := fun W => Frm (fun _ => False) wr W) (by kernel_rfl) ((Frm.refl _ _).drew) (fun hHeld => ?_)
        refine wpAnyH_take (i := 0) (v := ?_) rfl (by kernel_rfl) (by kernel_rfl) (by kernel_rfl) (fun _ _ _ h => h) (Or.inl ⟨by rfl, ?_⟩) (by assumption) ?_; rotate_left; · (intro wq hSq; have hq := HCW.out wq hSq; go_split_ands; go_simp; (try with_reducible rfl))
        try simp only [Act.put, getElem_toArray, getElem_cons_zero, getElem_cons_succ, setIfInBounds_toArray, set_cons_zero, set_cons_succ]
        refine wpAnyH_take (i := 1) (v := ?_) rfl (by kernel_rfl) (by kernel_rfl) (by kernel_rfl) (fun _ _ _ h => h) (Or.inl ⟨by rfl, ?_⟩) (by assumption) ?_; rotate_left; · (intro wq hSq; have hq := HCW.out wq hSq; go_split_ands; go_simp; (try with_reducible rfl))
        try simp only [Act.put, getElem_toArray, getElem_cons_zero, getElem_cons_succ, setIfInBounds_toArray, set_cons_zero, set_cons_succ]
        refine wpAnyH_take (i := 2) (v := ?_) rfl (by kernel_rfl) (by kernel_rfl) (by kernel_rfl) (fun _ _ _ h => h) (Or.inl ⟨by rfl, ?_⟩) (by assumption) ?_; rotate_left; · (intro wq hSq; have hq := HCW.out wq hSq; go_split_ands; go_simp; (try with_reducible rfl))
        try simp only [Act.put, getElem_toArray, getElem_cons_zero, getElem_cons_succ, setIfInBounds_toArray, set_cons_zero, set_cons_succ]
        refine wpAnyH_take (i := 3) (v := ?_) rfl (by kernel_rfl) (by kernel_rfl) (by kernel_rfl) (fun _ _ _ h => h) (Or.inl ⟨by rfl, ?_⟩) (by assumption) ?_; rotate_left; · (intro wq hSq; have hq := HCW.out wq hSq; go_split_ands; go_simp; (try with_reducible rfl))
        try simp only [Act.put, getElem_toArray, getElem_cons_zero, getElem_cons_succ, setIfInBounds_toArray, set_cons_zero, set_cons_succ]
        refine wpAnyH_take (i := 4) (v := ?_) rfl (by kernel_rfl) (by kernel_rfl) (by kernel_rfl) (fun _ _ _ h => h) (Or.inl ⟨by rfl, ?_⟩) (by assumption) ?_; rotate_left; · (intro wq hSq; have hq := HCW.out wq hSq; go_split_ands; go_simp; (try with_reducible rfl))
        try simp only [Act.put, getElem_toArray, getElem_cons_zero, getElem_cons_succ, setIfInBounds_toArray, set_cons_zero, set_cons_succ]
        refine wpAnyH_take (i := 5) (v := ?_) rfl (by kernel_rfl) (by kernel_rfl) (by kernel_rfl) (fun _ _ _ h => h) (Or.inl ⟨by rfl, ?_⟩) (by assumption) ?_; rotate_left; · (intro wq hSq; have hq := HCW.out wq hSq; go_split_ands; go_simp; (try with_reducible rfl))
        try simp only [Act.put, getElem_toArray, getElem_cons_zero, getElem_cons_succ, setIfInBounds_toArray, set_cons_zero, set_cons_succ]
        refine wpAnyH_take (i := 6) (v := ?_) rfl (by kernel_rfl) (by kernel_rfl) (by kernel_rfl) (fun _ _ _ h => h) (Or.inl ⟨by rfl, ?_⟩) (by assumption) ?_; rotate_left; · (intro wq hSq; have hq := HCW.out wq hSq; go_split_ands; go_simp; (try with_reducible rfl))
        try simp only [Act.put, getElem_toArray, getElem_cons_zero, getElem_cons_succ, setIfInBounds_toArray, set_cons_zero, set_cons_succ]
        refine wpAnyH_take (i := 7) (v := ?_) rfl (by kernel_rfl) (by kernel_rfl) (by kernel_rfl) (fun _ _ _ h => h) (Or.inl ⟨by rfl, ?_⟩) (by assumption) ?_; rotate_left; · (intro wq hSq; have hq := HCW.out wq hSq; go_split_ands; go_simp; (try with_reducible rfl))
        try simp only [Act.put, getElem_toArray, getElem_cons_zero, getElem_cons_succ, setIfInBounds_toArray, set_cons_zero, set_cons_succ]
        refine wpAnyH_take (i := 8) (v := ?_) rfl (by kernel_rfl) (by kernel_rfl) (by kernel_rfl) (fun _ _ _ h => h) (Or.inl ⟨by rfl, ?_⟩) (by assumption) ?_; rotate_left; · (intro wq hSq; have hq := HCW.out wq hSq; go_split_ands; go_simp; (try with_reducible rfl))
        try simp only [Act.put, getElem_toArray, getElem_cons_zero, getElem_cons_succ, setIfInBounds_toArray, set_cons_zero, set_cons_succ]
        refine wpAnyH_take (i := 9) (v := ?_) rfl (by kernel_rfl) (by kernel_rfl) (by kernel_rfl) (fun _ _ _ h => h) (Or.inl ⟨by rfl, ?_⟩) (by assumption) ?_; rotate_left; · (intro wq hSq; have hq := HCW.out wq hSq; go_split_ands; go_simp; (try with_reducible rfl))
        try simp only [Act.put, getElem_toArray, getElem_cons_zero, getElem_cons_succ, setIfInBounds_toArray, set_cons_zero, set_cons_succ]
        refine wpAnyH_take (i := 10) (v := ?_) rfl (by kernel_rfl) (by kernel_rfl) (by kernel_rfl) (fun _ _ _ h => h) (Or.inl ⟨by rfl, ?_⟩) (by assumption) ?_; rotate_left; · (intro wq hSq; have hq := HCW.out wq hSq; go_split_ands; go_simp; (try with_reducible rfl))
        try simp only [Act.put, getElem_toArray, getElem_cons_zero, getElem_cons_succ, setIfInBounds_toArray, set_cons_zero, set_cons_succ]
        refine wpAnyH_take (i := 11) (v := ?_) rfl (by kernel_rfl) (by kernel_rfl) (by kernel_rfl) (fun _ _ _ h => h) (Or.inl ⟨by rfl, ?_⟩) (by assumption) ?_; rotate_left; · (intro wq hSq; have hq := HCW.out wq hSq; go_split_ands; go_simp; (try with_reducible rfl))
        try simp only [Act.put, getElem_toArray, getElem_cons_zero, getElem_cons_succ, setIfInBounds_toArray, set_cons_zero, set_cons_succ]
        refine wpAnyH_take (i := 12) (v := ?_) rfl (by kernel_rfl) (by kernel_rfl) (by kernel_rfl) (fun _ _ _ h => h) (Or.inl ⟨by rfl, ?_⟩) (by assumption) ?_; rotate_left; · (intro wq hSq; have hq := HCW.out wq hSq; go_split_ands; go_simp; (try with_reducible rfl))
        try simp only [Act.put, getElem_toArray, getElem_cons_zero, getElem_cons_succ, setIfInBounds_toArray, set_cons_zero, set_cons_succ]
        refine wpAnyH_take (i := 13) (v := ?_) rfl (by kernel_rfl) (by kernel_rfl) (by kernel_rfl) (fun _ _ _ h => h) (Or.inl ⟨by rfl, ?_⟩) (by assumption) ?_; rotate_left; · (intro wq hSq; have hq := HCW.out wq hSq; go_split_ands; go_simp; (try with_reducible rfl))
        try simp only [Act.put, getElem_toArray, getElem_cons_zero, getElem_cons_succ, setIfInBounds_toArray, set_cons_zero, set_cons_succ]
        refine wpAnyH_take (i := 14) (v := ?_) rfl (by kernel_rfl) (by kernel_rfl) (by kernel_rfl) (fun _ _ _ h => h) (Or.inl ⟨by rfl, ?_⟩) (by assumption) ?_; rotate_left; · (intro wq hSq; have hq := HCW.out wq hSq; go_split_ands; go_simp; (try with_reducible rfl))
        try simp only [Act.put, getElem_toArray, getElem_cons_zero, getElem_cons_succ, setIfInBounds_toArray, set_cons_zero, set_cons_succ]
        refine wpAnyH_take (i := 15) (v := ?_) rfl (by kernel_rfl) (by kernel_rfl) (by kernel_rfl) (fun _ _ _ h => h) (Or.inl ⟨by rfl, ?_⟩) (by assumption) ?_; rotate_left; · (intro wq hSq; have hq := HCW.out wq hSq; go_split_ands; go_simp; (try with_reducible rfl))
        try simp only [Act.put, getElem_toArray, getElem_cons_zero, getElem_cons_succ, setIfInBounds_toArray, set_cons_zero, set_cons_succ]
        refine wpAnyH_take (i := 16) (v := ?_) rfl (by kernel_rfl) (by kernel_rfl) (by kernel_rfl) (fun _ _ _ h => h) (Or.inl ⟨by rfl, ?_⟩) (by assumption) ?_; rotate_left; · (intro wq hSq; have hq := HCW.out wq hSq; go_split_ands; go_simp; (try with_reducible rfl))
        try simp only [Act.put, getElem_toArray, getElem_cons_zero, getElem_cons_succ, setIfInBounds_toArray, set_cons_zero, set_cons_succ]
        refine wpAnyH_take (i := 17) (v := ?_) rfl (by kernel_rfl) (by kernel_rfl) (by kernel_rfl) (fun _ _ _ h => h) (Or.inl ⟨by rfl, ?_⟩) (by assumption) ?_; rotate_left; · (intro wq hSq; have hq := HCW.out wq hSq; go_split_ands; go_simp; (try with_reducible rfl))
        try simp only [Act.put, getElem_toArray, getElem_cons_zero, getElem_cons_succ, setIfInBounds_toArray, set_cons_zero, set_cons_succ]
        refine wpAnyH_take (i := 18) (v := ?_) rfl (by kernel_rfl) (by kernel_rfl) (by kernel_rfl) (fun _ _ _ h => h) (Or.inl ⟨by rfl, ?_⟩) (by assumption) ?_; rotate_left; · (intro wq hSq; have hq := HCW.out wq hSq; go_split_ands; go_simp; (try with_reducible rfl))
        try simp only [Act.put, getElem_toArray, getElem_cons_zero, getElem_cons_succ, setIfInBounds_toArray, set_cons_zero, set_cons_succ]
        refine wpAnyH_take (i := 19) (v := ?_) rfl (by kernel_rfl) (by kernel_rfl) (by kernel_rfl) (fun _ _ _ h => h) (Or.inl ⟨by rfl, ?_⟩) (by assumption) ?_; rotate_left; · (intro wq hSq; have hq := HCW.out wq hSq; go_split_ands; go_simp; (try with_reducible rfl))
        try simp only [Act.put, getElem_toArray, getElem_cons_zero, getElem_cons_succ, setIfInBounds_toArray, set_cons_zero, set_cons_succ]
        refine wpAnyH_take (i := 20) (v := ?_) rfl (by kernel_rfl) (by kernel_rfl) (by kernel_rfl) (fun _ _ _ h => h) (Or.inl ⟨by rfl, ?_⟩) (by assumption) ?_; rotate_left; · (intro wq hSq; have hq := HCW.out wq hSq; go_split_ands; go_simp; (try with_reducible rfl))
        try simp only [Act.put, getElem_toArray, getElem_cons_zero, getElem_cons_succ, setIfInBounds_toArray, set_cons_zero, set_cons_succ]
        refine wpAnyH_take (i := 21) (v := ?_) rfl (by kernel_rfl) (by kernel_rfl) (by kernel_rfl) (fun _ _ _ h => h) (Or.inl ⟨by rfl, ?_⟩) (by assumption) ?_; rotate_left; · (intro wq hSq; have hq := HCW.out wq hSq; go_split_ands; go_simp; (try with_reducible rfl))
        try simp only [Act.put, getElem_toArray, getElem_cons_zero, getElem_cons_succ, setIfInBounds_toArray, set_cons_zero, set_cons_succ]
        refine wpAnyH_take (i := 22) (v := ?_) rfl (by kernel_rfl) (by kernel_rfl) (by kernel_rfl) (fun _ _ _ h => h) (Or.inl ⟨by rfl, ?_⟩) (by assumption) ?_; rotate_left; · (intro wq hSq; have hq := HCW.out wq hSq; go_split_ands; go_simp; (try with_reducible rfl))
        try simp only [Act.put, getElem_toArray, getElem_cons_zero, getElem_cons_succ, setIfInBounds_toArray, set_cons_zero, set_cons_succ]
        by_cases he1 : y1 = x1
        · subst he1
          have b1 : (y1 == y1) = true := by simp
          refine wpAnyH_take (i := 23) (v := ?_) rfl (by kernel_rfl) (by kernel_rfl) (by kernel_rfl) (fun _ _ _ h => h) (Or.inl ⟨by rfl, ?_⟩) (by assumption) ?_; rotate_left; · (intro wq hSq; (try dsimp only at hSq); go_split_ands; go_simp; (try with_reducible rfl))
          try simp only [Act.put, getElem_toArray, getElem_cons_zero, getElem_cons_succ, setIfInBounds_toArray, set_cons_zero, set_cons_succ]
          refine wpAnyH_done (by kernel_rfl) ?_ _
          have HH := Lib.hid hHeld
          clear hHeld
          go_wp2_with fail
          go_ret
          exact ⟨by rw [HCO.out]; simp [samePl], HF.out.trans' HH.out⟩
        · have b1 : (y1 == x1) = false := by simpa using he1
          refine wpAnyH_take (i := 23) (v := ?_) rfl (by kernel_rfl) (by kernel_rfl) (by kernel_rfl) (fun _ _ _ h => h) (Or.inl ⟨by rfl, ?_⟩) (by assumption) ?_; rotate_left; · (intro wq hSq; (try dsimp only at hSq); go_split_ands; go_simp; (try with_reducible rfl))
          try simp only [Act.put, getElem_toArray, getElem_cons_zero, getElem_cons_succ, setIfInBounds_toArray, set_cons_zero, set_cons_succ]
          refine wpAnyH_done (by kernel_rfl) ?_ _
          have HH := Lib.hid hHeld
          clear hHeld
          go_wp2_with fail
          go_roundw
          case rel => exact ⟨k + 1, HKL.out, by go_num, by rw [HCO.out]; simp [samePl, b1], HF.out.trans' HH.out⟩
          case measure => have := HKL.out; simp [intOf]; omega
      · have b0 : (y0 == x0) = false := by simpa using he
        refine wp_region_held_drew (S := fun W => Frm (fun _ => False) wr W) (by kernel_rfl) ((Frm.refl _ _).drew) (fun hHeld => ?_)
        refine wpAnyH_take (i := 0) (v := ?_) rfl (by kernel_rfl) (by kernel_rfl) (by kernel_rfl) (fun _ _ _ h => h) (Or.inl ⟨by rfl, ?_⟩) (by assumption) ?_; rotate_left; · (intro wq hSq; have hq := HCW.out wq hSq; go_split_ands; go_simp; (try with_reducible rfl))
        try simp only [Act.put, getElem_toArray, getElem_cons_zero, getElem_cons_succ, setIfInBounds_toArray, set_cons_zero, set_cons_succ]
        refine wpAnyH_take (i := 1) (v := ?_) rfl (by kernel_rfl) (by kernel_rfl) (by kernel_rfl) (fun _ _ _ h => h) (Or.inl ⟨by rfl, ?_⟩) (by assumption) ?_; rotate_left; · (intro wq hSq; have hq := HCW.out wq hSq; go_split_ands; go_simp; (try with_reducible rfl))
        try simp only [Act.put, getElem_toArray, getElem_cons_zero, getElem_cons_succ, setIfInBounds_toArray, set_cons_zero, set_cons_succ]
        refine wpAnyH_take (i := 2) (v := ?_) rfl (by kernel_rfl) (by kernel_rfl) (by kernel_rfl) (fun _ _ _ h => h) (Or.inl ⟨by rfl, ?_⟩) (by assumption) ?_; rotate_left; · (intro wq hSq; have hq := HCW.out wq hSq; go_split_ands; go_simp; (try with_reducible rfl))
        try simp only [Act.put, getElem_toArray, getElem_cons_zero, getElem_cons_succ, setIfInBounds_toArray, set_cons_zero, set_cons_succ]
        refine wpAnyH_take (i := 3) (v := ?_) rfl (by kernel_rfl) (by kernel_rfl) (by kernel_rfl) (fun _ _ _ h => h) (Or.inl ⟨by rfl, ?_⟩) (by assumption) ?_; rotate_left; · (intro wq hSq; have hq := HCW.out wq hSq; go_split_ands; go_simp; (try with_reducible rfl))
        try simp only [Act.put, getElem_toArray, getElem_cons_zero, getElem_cons_succ, setIfInBounds_toArray, set_cons_zero, set_cons_succ]
        refine wpAnyH_take (i := 4) (v := ?_) rfl (by kernel_rfl) (by kernel_rfl) (by kernel_rfl) (fun _ _ _ h => h) (Or.inl ⟨by rfl, ?_⟩) (by assumption) ?_; rotate_left; · (intro wq hSq; have hq := HCW.out wq hSq; go_split_ands; go_simp; (try with_reducible rfl))
        try simp only [Act.put, getElem_toArray, getElem_cons_zero, getElem_cons_succ, setIfInBounds_toArray, set_cons_zero, set_cons_succ]
        refine wpAnyH_take (i := 5) (v := ?_) rfl (by kernel_rfl) (by kernel_rfl) (by kernel_rfl) (fun _ _ _ h => h) (Or.inl ⟨by rfl, ?_⟩) (by assumption) ?_; rotate_left; · (intro wq hSq; have hq := HCW.out wq hSq; go_split_ands; go_simp; (try with_reducible rfl))
        try simp only [Act.put, getElem_toArray, getElem_cons_zero, getElem_cons_succ, setIfInBounds_toArray, set_cons_zero, set_cons_succ]
        refine wpAnyH_take (i := 6) (v := ?_) rfl (by kernel_rfl) (by kernel_rfl) (by kernel_rfl) (fun _ _ _ h => h) (Or.inl ⟨by rfl, ?_⟩) (by assumption) ?_; rotate_left; · (intro wq hSq; have hq := HCW.out wq hSq; go_split_ands; go_simp; (try with_reducible rfl))
        try simp only [Act.put, getElem_toArray, getElem_cons_zero, getElem_cons_succ, setIfInBounds_toArray, set_cons_zero, set_cons_succ]
        refine wpAnyH_take (i := 7) (v := ?_) rfl (by kernel_rfl) (by kernel_rfl) (by kernel_rfl) (fun _ _ _ h => h) (Or.inl ⟨by rfl, ?_⟩) (by assumption) ?_; rotate_left; · (intro wq hSq; have hq := HCW.out wq hSq; go_split_ands; go_simp; (try with_reducible rfl))
        try simp only [Act.put, getElem_toArray, getElem_cons_zero, getElem_cons_succ, setIfInBounds_toArray, set_cons_zero, set_cons_succ]
        refine wpAnyH_take (i := 8) (v := ?_) rfl (by kernel_rfl) (by kernel_rfl) (by kernel_rfl) (fun _ _ _ h => h) (Or.inl ⟨by rfl, ?_⟩) (by assumption) ?_; rotate_left; · (intro wq hSq; have hq := HCW.out wq hSq; go_split_ands; go_simp; (try with_reducible rfl))
        try simp only [Act.put, getElem_toArray, getElem_cons_zero, getElem_cons_succ, setIfInBounds_toArray, set_cons_zero, set_cons_succ]
        refine wpAnyH_take (i := 9) (v := ?_) rfl (by kernel_rfl) (by kernel_rfl) (by kernel_rfl) (fun _ _ _ h => h) (Or.inl ⟨by rfl, ?_⟩) (by assumption) ?_; rotate_left; · (intro wq hSq; have hq := HCW.out wq hSq; go_split_ands; go_simp; (try with_reducible rfl))
        try simp only [Act.put, getElem_toArray, getElem_cons_zero, getElem_cons_succ, setIfInBounds_toArray, set_cons_zero, set_cons_succ]
        refine wpAnyH_take (i := 10) (v := ?_) rfl (by kernel_rfl) (by kernel_rfl) (by kernel_rfl) (fun _ _ _ h => h) (Or.inl ⟨by rfl, ?_⟩) (by assumption) ?_; rotate_left; · (intro wq hSq; have hq := HCW.out wq hSq; go_split_ands; go_simp; (try with_reducible rfl))
        try simp only [Act.put, getElem_toArray, getElem_cons_zero, getElem_cons_succ, setIfInBounds_toArray, set_cons_zero, set_cons_succ]
        refine wpAnyH_take (i := 11) (v := ?_) rfl (by kernel_rfl) (by kernel_rfl) (by kernel_rfl) (fun _ _ _ h => h) (Or.inl ⟨by rfl, ?_⟩) (by assumption) ?_; rotate_left; · (intro wq hSq; have hq := HCW.out wq hSq; go_split_ands; go_simp; (try with_reducible rfl))
        try simp only [Act.put, getElem_toArray, getElem_cons_zero, getElem_cons_succ, setIfInBounds_toArray, set_cons_zero, set_cons_succ]
        refine wpAnyH_take (i := 12) (v := undef) rfl (by kernel_rfl) (by kernel_rfl) (by kernel_rfl) (fun _ _ _ h => h) (Or.inr ⟨by rfl, rfl⟩) (by assumption) ?_
        try simp only [Act.put, getElem_toArray, getElem_cons_zero, getElem_cons_succ, setIfInBounds_toArray, set_cons_zero, set_cons_succ]
        refine wpAnyH_take (i := 13) (v := undef) rfl (by kernel_rfl) (by kernel_rfl) (by kernel_rfl) (fun _ _ _ h => h) (Or.inr ⟨by rfl, rfl⟩) (by assumption) ?_
        try simp only [Act.put, getElem_toArray, getElem_cons_zero, getElem_cons_succ, setIfInBounds_toArray, set_cons_zero, set_cons_succ]
        refine wpAnyH_take (i := 14) (v := undef) rfl (by kernel_rfl) (by kernel_rfl) (by kernel_rfl) (fun _ _ _ h => h) (Or.inr ⟨by rfl, rfl⟩) (by assumption) ?_
        try simp only [Act.put, getElem_toArray, getElem_cons_zero, getElem_cons_succ, setIfInBounds_toArray, set_cons_zero, set_cons_succ]
        refine wpAnyH_take (i := 15) (v := undef) rfl (by kernel_rfl) (by kernel_rfl) (by kernel_rfl) (fun _ _ _ h => h) (Or.inr ⟨by rfl, rfl⟩) (by assumption) ?_
        try simp only [Act.put, getElem_toArray, getElem_cons_zero, getElem_cons_succ, setIfInBounds_toArray, set_cons_zero, set_cons_succ]
        refine wpAnyH_take (i := 16) (v := undef) rfl (by kernel_rfl) (by kernel_rfl) (by kernel_rfl) (fun _ _ _ h => h) (Or.inr ⟨by rfl, rfl⟩) (by assumption) ?_
        try simp only [Act.put, getElem_toArray, getElem_cons_zero, getElem_cons_succ, setIfInBounds_toArray, set_cons_zero, set_cons_succ]
        refine wpAnyH_take (i := 17) (v := undef) rfl (by kernel_rfl) (by kernel_rfl) (by kernel_rfl) (fun _ _ _ h => h) (Or.inr ⟨by rfl, rfl⟩) (by assumption) ?_
        try simp only [Act.put, getElem_toArray, getElem_cons_zero, getElem_cons_succ, setIfInBounds_toArray, set_cons_zero, set_cons_succ]
        refine wpAnyH_take (i := 18) (v := undef) rfl (by kernel_rfl) (by kernel_rfl) (by kernel_rfl) (fun _ _ _ h => h) (Or.inr ⟨by rfl, rfl⟩) (by assumption) ?_
        try simp only [Act.put, getElem_toArray, getElem_cons_zero, getElem_cons_succ, setIfInBounds_toArray, set_cons_zero, set_cons_succ]
        refine wpAnyH_take (i := 19) (v := undef) rfl (by kernel_rfl) (by kernel_rfl) (by kernel_rfl) (fun _ _ _ h => h) (Or.inr ⟨by rfl, rfl⟩) (by assumption) ?_
        try simp only [Act.put, getElem_toArray, getElem_cons_zero, getElem_cons_succ, setIfInBounds_toArray, set_cons_zero, set_cons_succ]
        refine wpAnyH_take (i := 20) (v := undef) rfl (by kernel_rfl) (by kernel_rfl) (by kernel_rfl) (fun _ _ _ h => h) (Or.inr ⟨by rfl, rfl⟩) (by assumption) ?_
        try simp only [Act.put, getElem_toArray, getElem_cons_zero, getElem_cons_succ, setIfInBounds_toArray, set_cons_zero, set_cons_succ]
        refine wpAnyH_take (i := 21) (v := undef) rfl (by kernel_rfl) (by kernel_rfl) (by kernel_rfl) (fun _ _ _ h => h) (Or.inr ⟨by rfl, rfl⟩) (by assumption) ?_
        try simp only [Act.put, getElem_toArray, getElem_cons_zero, getElem_cons_succ, setIfInBounds_toArray, set_cons_zero, set_cons_succ]
        refine wpAnyH_take (i := 22) (v := undef) rfl (by kernel_rfl) (by kernel_rfl) (by kernel_rfl) (fun _ _ _ h => h) (Or.inr ⟨by rfl, rfl⟩) (by assumption) ?_
        try simp only [Act.put, getElem_toArray, getElem_cons_zero, getElem_cons_succ, setIfInBounds_toArray, set_cons_zero, set_cons_succ]
        refine wpAnyH_take (i := 23) (v := ?_) rfl (by kernel_rfl) (by kernel_rfl) (by kernel_rfl) (fun _ _ _ h => h) (Or.inl ⟨by rfl, ?_⟩) (by assumption) ?_; rotate_left; · (intro wq hSq; (try dsimp only at hSq); go_split_ands; go_simp; (try with_reducible rfl))
        try simp only [Act.put, getElem_toArray, getElem_cons_zero, getElem_cons_succ, setIfInBounds_toArray, set_cons_zero, set_cons_succ]
        refine wpAnyH_done (by kernel_rfl) ?_ _
        have HH := Lib.hid hHeld
        clear hHeld
        go_wp2_with fail
        go_roundw
        case rel => exact ⟨k + 1, HKL.out, by go_num, by rw [HCO.out]; simp [samePl, b0], HF.out.trans' HH.out⟩
        case measure => have := HKL.out; simp [intOf]; omega
    · have hkn : k = xs.length := by omega
      subst hkn
      rw [List.drop_length] at hcode
      have HF := Lib.hid hF
      have HCD := Lib.hid hcode
      clear hF hcode
      go_wp2_with fail
      go_ret
      exact ⟨by rw [HCD.out]; rfl, HF.out⟩
end Go.Proofs.YtemjdmgfilbfaaaGreat
