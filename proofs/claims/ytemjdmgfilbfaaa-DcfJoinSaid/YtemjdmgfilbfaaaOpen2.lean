/-
  Slices of structs, opened.
-/
import Derived.Test.YtemjdmgfilbfaaaOpen
import Derived.Test.YtemjdmgfilbfaaaCore2
namespace Go.Proofs.Ytemjdmgfilbfaaa
open Go.ChangeShapes Go.WideShapes Go.ChangeAt Go.RowKit Go.Deep
set_option linter.unusedVariables false

section
variable {H : Type} {enc : TypeId × Value → H}

theorem rd_sl {α : Type} {encα : α → List Value} {sz : Nat} {W : World} {t e : TypeId} {cs : List Value} {d : DataW H} (good : α → Prop) (ht : Try.prog.underlying t = some (.slice e)) (hz : Try.prog.cellsOf e = sz) (hz0 : 0 < sz)
    (hel : ∀ cs d, Rd enc W e cs d → ∃ x, cs = encα x ∧ good x) (h : Rd enc W t cs d) :
    ∃ v xs, cs = [v] ∧ SlAt encα sz W v xs ∧ (∀ x ∈ xs, good x) ∧ (xs.length = 0 ∨ ∃ el sp, d = .slice el sp ∧ el.length = xs.length) := by
  obtain ⟨A, n, cap, D, rfl, h1, h2, hd, hA⟩ := rd_slice ht hz hz0 h
  obtain ⟨xs, hl, hx⟩ := choose_list (n := n) (p := fun i (x : α) => good x ∧ ∀ g off, A = some ⟨g, off, none⟩ → ∀ j, j < sz → W.cell? ⟨g, off + i * sz + j, none⟩ = (encα x)[j]?) (fun i hi => by
    obtain ⟨g, off, rfl, _, hc⟩ := hA (by omega)
    obtain ⟨cs', l', c', r'⟩ := hc i hi
    obtain ⟨x, rfl, hg⟩ := hel _ _ r'
    exact ⟨x, hg, fun g2 off2 e2 => by cases e2; exact c'⟩)
  subst hl
  refine ⟨_, xs, rfl, ⟨A, cap, rfl, h1, h2, fun h0 => ?_⟩, fun x hx' => ?_, ?_⟩
  · obtain ⟨g, off, rfl, hg, _⟩ := hA h0
    exact ⟨g, off, rfl, hg, fun i hi j hj => (hx i hi).2 g off rfl j hj⟩
  · obtain ⟨i, hi, rfl⟩ := List.getElem_of_mem hx'
    exact (hx i hi).1
  · rcases hd with ⟨h0, _, hd⟩ | ⟨sp, hd, _⟩
    · exact .inl h0
    · exact .inr ⟨_, sp, hd, by simp⟩

set_option maxRecDepth 100000 in
theorem sl_bound {ts : List TypeId} {ds : List (DataW H)} {j : Nat} {t e : TypeId} {d : DataW H} {n b : Nat} (hw : (DataW.weightsEach Try.prog ts ds).all (· ≤ reachBytes) = true) (ht : ts[j]? = some t) (hd : ds[j]? = some d) (hu : Try.prog.underlying t = some (.slice e)) (hb : Try.prog.bytesOf e = b)
    (h : n = 0 ∨ ∃ el sp, d = .slice el sp ∧ el.length = n) : n * b ≤ 140737488351232 := by
  rcases h with h | ⟨el, sp, rfl, h⟩
  · subst h; omega
  · have := sized_slice hw ht hd hu
    rw [hb] at this
    have hr : reachBytes = 140737488351232 := rfl
    have h2 : n * b ≤ (el.length + sp.length) * b := Nat.mul_le_mul_right _ (by omega)
    omega

set_option maxRecDepth 100000 in
/-- A struct of three fields, one cell each. -/
theorem rd_struct3 {W : World} {t : TypeId} {f0 f1 f2 : Field} {cs : List Value} {d : DataW H} (ht : Try.prog.underlying t = some (.struct #[f0, f1, f2])) (hz : Try.prog.cellsOf t = 3) (z0 : f0.offset = 0) (z1 : f1.offset = 1) (z2 : f2.offset = 2)
    (y0 : Try.prog.cellsOf f0.type = 1) (y1 : Try.prog.cellsOf f1.type = 1) (y2 : Try.prog.cellsOf f2.type = 1) (h : Rd enc W t cs d) :
    ∃ c0 c1 c2 d0 d1 d2, cs = [c0, c1, c2] ∧ Rd enc W f0.type [c0] d0 ∧ Rd enc W f1.type [c1] d1 ∧ Rd enc W f2.type [c2] d2 := by
  obtain ⟨hl, ds, _, _, hf⟩ := rd_struct ht h
  rw [hz] at hl
  match cs, hl with
  | [c0, c1, c2], _ =>
    obtain ⟨d0, _, r0⟩ := hf 0 f0 rfl
    obtain ⟨d1, _, r1⟩ := hf 1 f1 rfl
    obtain ⟨d2, _, r2⟩ := hf 2 f2 rfl
    rw [z0, y0] at r0
    rw [z1, y1] at r1
    rw [z2, y2] at r2
    exact ⟨c0, c1, c2, d0, d1, d2, rfl, r0, r1, r2⟩
end
end Go.Proofs.Ytemjdmgfilbfaaa
