/-
  Slices of structs that hold slices, opened, with the form's own reach.
-/
import Derived.Test.YtemjdmgfilbfaaaOpen2
namespace Go.Proofs.Ytemjdmgfilbfaaa
open Go.ChangeShapes Go.WideShapes Go.ChangeAt Go.RowKit Go.Deep
set_option linter.unusedVariables false
set_option maxRecDepth 100000

section
variable {H : Type} {enc : TypeId × Value → H}

/-- Each string, slice and map in the datum is within the form's reach. -/
def Sz (t : TypeId) (d : DataW H) : Prop := ∀ n ∈ DataW.weights Try.prog t d, n ≤ reachBytes

theorem sz_arg {ts : List TypeId} {ds : List (DataW H)} {j : Nat} {t : TypeId} {d : DataW H} (hw : (DataW.weightsEach Try.prog ts ds).all (· ≤ reachBytes) = true) (ht : ts[j]? = some t) (hd : ds[j]? = some d) : Sz t d := fun n hn => by
  have := List.all_eq_true.1 hw _ (DataW.weights_mem_each ht hd n hn)
  simpa using this

theorem sz_all {e : TypeId} {l : List (DataW H)} (h : ∀ n ∈ DataW.weightsAll Try.prog e l, n ≤ reachBytes) : ∀ x ∈ l, Sz e x := by
  induction l with
  | nil => intro x hx; cases hx
  | cons y r ih =>
    intro x hx
    simp only [DataW.weightsAll, List.mem_append] at h
    rcases List.mem_cons.1 hx with rfl | hx
    · exact fun n hn => h n (.inl hn)
    · exact ih (fun n hn => h n (.inr hn)) x hx

theorem sz_slice {t e : TypeId} {el sp : List (DataW H)} (hu : Try.prog.underlying t = some (.slice e)) (h : Sz t (.slice el sp)) : (el.length + sp.length) * Try.prog.bytesOf e ≤ 140737488351232 ∧ ∀ x ∈ el, Sz e x := by
  have hr : reachBytes = 140737488351232 := rfl
  unfold Sz at h
  simp only [DataW.weights, hu, List.mem_cons, List.mem_append] at h
  exact ⟨by rw [← hr]; exact h _ (.inl rfl), sz_all (fun n hn => h n (.inr (.inl hn)))⟩

theorem sz_string {t : TypeId} {b : List UInt8} (h : Sz (H := H) t (.lit (.string b))) : b.length ≤ 140737488351232 := by
  have hr : reachBytes = 140737488351232 := rfl
  unfold Sz at h
  simp only [DataW.weights, List.mem_cons, List.not_mem_nil, or_false] at h
  rw [← hr]; exact h _ rfl

theorem sz_each {ts : List TypeId} {ds : List (DataW H)} (h : ∀ n ∈ DataW.weightsEach Try.prog ts ds, n ≤ reachBytes) {j : Nat} {t : TypeId} {d : DataW H} (ht : ts[j]? = some t) (hd : ds[j]? = some d) : Sz t d :=
  fun n hn => h n (DataW.weights_mem_each ht hd n hn)

theorem sz_struct {t : TypeId} {fs : Array Field} {ds : List (DataW H)} (hu : Try.prog.underlying t = some (.struct fs)) (h : Sz t (.agg ds)) {i : Nat} {f : Field} {di : DataW H} (hf : fs[i]? = some f) (hd : ds[i]? = some di) : Sz f.type di := by
  unfold Sz at h
  simp only [DataW.weights, hu] at h
  exact sz_each h (j := i) (by simp [hf]) hd

theorem rd_slS {α : Type} {encα : α → List Value} {sz : Nat} {W : World} {t e : TypeId} {cs : List Value} {d : DataW H} (good : α → Prop) (ht : Try.prog.underlying t = some (.slice e)) (hz : Try.prog.cellsOf e = sz) (hz0 : 0 < sz)
    (hel : ∀ cs d, Rd enc W e cs d → Sz e d → ∃ x, cs = encα x ∧ good x) (h : Rd enc W t cs d) (hs : Sz t d) :
    ∃ v xs, cs = [v] ∧ SlAt encα sz W v xs ∧ (∀ x ∈ xs, good x) ∧ xs.length * Try.prog.bytesOf e ≤ 140737488351232 := by
  obtain ⟨A, n, cap, D, rfl, h1, h2, hd, hA⟩ := rd_slice ht hz hz0 h
  have hsz : n * Try.prog.bytesOf e ≤ 140737488351232 ∧ ∀ i, i < n → Sz e (D i) := by
    rcases hd with ⟨h0, _, hd⟩ | ⟨sp, hd, _⟩
    · subst h0; exact ⟨by omega, fun i hi => absurd hi (by omega)⟩
    · subst hd
      obtain ⟨h3, h4⟩ := sz_slice ht hs
      refine ⟨Nat.le_trans (Nat.mul_le_mul_right _ (by simp)) h3, fun i hi => h4 _ (List.mem_map_of_mem (List.mem_range.2 hi))⟩
  obtain ⟨xs, hl, hx⟩ := choose_list (n := n) (p := fun i (x : α) => good x ∧ ∀ g off, A = some ⟨g, off, none⟩ → ∀ j, j < sz → W.cell? ⟨g, off + i * sz + j, none⟩ = (encα x)[j]?) (fun i hi => by
    obtain ⟨g, off, rfl, _, hc⟩ := hA (by omega)
    obtain ⟨cs', l', c', r'⟩ := hc i hi
    obtain ⟨x, rfl, hg⟩ := hel _ _ r' (hsz.2 i hi)
    exact ⟨x, hg, fun g2 off2 e2 => by cases e2; exact c'⟩)
  subst hl
  refine ⟨_, xs, rfl, ⟨A, cap, rfl, h1, h2, fun h0 => ?_⟩, fun x hx' => ?_, hsz.1⟩
  · obtain ⟨g, off, rfl, hg, _⟩ := hA h0
    exact ⟨g, off, rfl, hg, fun i hi j hj => (hx i hi).2 g off rfl j hj⟩
  · obtain ⟨i, hi, rfl⟩ := List.getElem_of_mem hx'
    exact (hx i hi).1

theorem rd_bytesS {W : World} {t e : TypeId} {cs : List Value} {d : DataW H} (ht : Try.prog.underlying t = some (.slice e)) (he : Try.prog.underlying e = some (.int .u8)) (hz : Try.prog.cellsOf e = 1) (hb : Try.prog.bytesOf e = 1) (h : Rd enc W t cs d) (hs : Sz t d) :
    ∃ v bs, cs = [v] ∧ BytesAt W v bs ∧ bs.length ≤ 140737488351232 := by
  obtain ⟨v, bs, rfl, hB, hd⟩ := rd_bytes ht he hz h
  refine ⟨v, bs, rfl, hB, ?_⟩
  rcases hd with ⟨h0, _⟩ | ⟨el, sp, rfl, hl⟩
  · omega
  · have := (sz_slice ht hs).1
    rw [hb] at this
    omega

/-- A struct of three fields, one cell each. -/
theorem rd_struct3S {W : World} {t : TypeId} {f0 f1 f2 : Field} {cs : List Value} {d : DataW H} (ht : Try.prog.underlying t = some (.struct #[f0, f1, f2])) (hz : Try.prog.cellsOf t = 3) (z0 : f0.offset = 0) (z1 : f1.offset = 1) (z2 : f2.offset = 2)
    (y0 : Try.prog.cellsOf f0.type = 1) (y1 : Try.prog.cellsOf f1.type = 1) (y2 : Try.prog.cellsOf f2.type = 1) (h : Rd enc W t cs d) (hs : Sz t d) :
    ∃ c0 c1 c2 d0 d1 d2, cs = [c0, c1, c2] ∧ Rd enc W f0.type [c0] d0 ∧ Rd enc W f1.type [c1] d1 ∧ Rd enc W f2.type [c2] d2 ∧ Sz f0.type d0 ∧ Sz f1.type d1 ∧ Sz f2.type d2 := by
  obtain ⟨hl, ds, rfl, _, hf⟩ := rd_struct ht h
  rw [hz] at hl
  match cs, hl with
  | [c0, c1, c2], _ =>
    obtain ⟨d0, g0, r0⟩ := hf 0 f0 rfl
    obtain ⟨d1, g1, r1⟩ := hf 1 f1 rfl
    obtain ⟨d2, g2, r2⟩ := hf 2 f2 rfl
    rw [z0, y0] at r0
    rw [z1, y1] at r1
    rw [z2, y2] at r2
    exact ⟨c0, c1, c2, d0, d1, d2, rfl, r0, r1, r2, sz_struct ht hs (i := 0) rfl g0, sz_struct ht hs (i := 1) rfl g1, sz_struct ht hs (i := 2) rfl g2⟩

/-- A struct of two fields, one cell each. -/
theorem rd_struct2S {W : World} {t : TypeId} {f0 f1 : Field} {cs : List Value} {d : DataW H} (ht : Try.prog.underlying t = some (.struct #[f0, f1])) (hz : Try.prog.cellsOf t = 2) (z0 : f0.offset = 0) (z1 : f1.offset = 1)
    (y0 : Try.prog.cellsOf f0.type = 1) (y1 : Try.prog.cellsOf f1.type = 1) (h : Rd enc W t cs d) (hs : Sz t d) :
    ∃ c0 c1 d0 d1, cs = [c0, c1] ∧ Rd enc W f0.type [c0] d0 ∧ Rd enc W f1.type [c1] d1 ∧ Sz f0.type d0 ∧ Sz f1.type d1 := by
  obtain ⟨hl, ds, rfl, _, hf⟩ := rd_struct ht h
  rw [hz] at hl
  match cs, hl with
  | [c0, c1], _ =>
    obtain ⟨d0, g0, r0⟩ := hf 0 f0 rfl
    obtain ⟨d1, g1, r1⟩ := hf 1 f1 rfl
    rw [z0, y0] at r0
    rw [z1, y1] at r1
    exact ⟨c0, c1, d0, d1, rfl, r0, r1, sz_struct ht hs (i := 0) rfl g0, sz_struct ht hs (i := 1) rfl g1⟩
end
end Go.Proofs.Ytemjdmgfilbfaaa
