/-
  ClientExpires: a client that gives up asks nothing any more, tells TimedOut, and can ask again at once. Proved for every argument that the row's form reads, with no further condition.
-/
import Derived.OpenShut
import Derived.Test.YtmkkeglcjbogcaaM65cb01e0
import Derived.Test.YtmkkeglcjbogcaaM30f4fe68
namespace Go.Proofs.Ytmkkeglcjbogcaa
open Go.ChangeShapes Go.WideShapes Go.ChangeAt Go.RowKit Go.Deep
set_option linter.unusedVariables false
set_option maxRecDepth 100000

section
variable {H : Type} {enc : TypeId × Value → H}

theorem rd_arr8 {W : World} {cs : List Value} {d : DataW H} (h : Rd enc W 73 cs d) : ∃ f : F8, cs = f.c.toList ∧ f.ok := by
  obtain ⟨fuel, ps, h⟩ := h
  obtain ⟨xs, m, _, _, hl, hlen, hel⟩ := DataW.trod_array Try.underlying73 h
  have hc : Try.prog.cellsOf 5 = 1 := by kernel_rfl
  have h8 : Try.prog.cellsOf 73 = 8 := by kernel_rfl
  rw [h8] at hl
  simp only [hc, Nat.mul_one] at hel
  have he : ∀ i, i < 8 → ∃ n, (cs.drop i).take 1 = [.int .u8 n] ∧ byteI n := fun i hi => by
    have := hel i hi
    rw [List.getElem?_eq_getElem (by omega)] at this
    obtain ⟨n, h1, w1⟩ := rd_int (enc := enc) (W := W) (t := 5) Try.underlying5 ⟨m, (xs[i]'(by omega)).2, this⟩
    exact ⟨n, h1, u8_wf w1⟩
  match cs, hl with
  | [c0, c1, c2, c3, c4, c5, c6, c7], _ =>
    obtain ⟨n0, e0, w0⟩ := he 0 (by decide)
    obtain ⟨n1, e1, w1⟩ := he 1 (by decide)
    obtain ⟨n2, e2, w2⟩ := he 2 (by decide)
    obtain ⟨n3, e3, w3⟩ := he 3 (by decide)
    obtain ⟨n4, e4, w4⟩ := he 4 (by decide)
    obtain ⟨n5, e5, w5⟩ := he 5 (by decide)
    obtain ⟨n6, e6, w6⟩ := he 6 (by decide)
    obtain ⟨n7, e7, w7⟩ := he 7 (by decide)
    simp at e0 e1 e2 e3 e4 e5 e6 e7
    exact ⟨⟨n0, n1, n2, n3, n4, n5, n6, n7⟩, by rw [e0, e1, e2, e3, e4, e5, e6, e7]; rfl, ⟨w0, w1, w2, w3, w4, w5, w6, w7⟩⟩

theorem rd_cact {W : World} (cs : List Value) (d : DataW H) (h : Rd enc W 75 cs d) (hs : Sz 75 d) : ∃ x : CA, cs = encCA x ∧ x.good W := by
  obtain ⟨hl, _⟩ := rd_struct Try.underlying75 h
  have h3 : Try.prog.cellsOf 75 = 12 := by kernel_rfl
  rw [h3] at hl
  obtain ⟨d0, r0, _⟩ := fldS Try.underlying75 h hs (i := 0) (off := 0) (n := 1) rfl rfl (by kernel_rfl)
  obtain ⟨d1, r1, _⟩ := fldS Try.underlying75 h hs (i := 1) (off := 1) (n := 1) rfl rfl (by kernel_rfl)
  obtain ⟨d2, r2, _⟩ := fldS Try.underlying75 h hs (i := 2) (off := 2) (n := 1) rfl rfl (by kernel_rfl)
  obtain ⟨d3, r3, s3⟩ := fldS Try.underlying75 h hs (i := 3) (off := 3) (n := 1) rfl rfl (by kernel_rfl)
  obtain ⟨d4, r4, _⟩ := fldS Try.underlying75 h hs (i := 4) (off := 4) (n := 8) rfl rfl (by kernel_rfl)
  match cs, hl with
  | [c0, c1, c2, c3, c4, c5, c6, c7, c8, c9, c10, c11], _ =>
    obtain ⟨a, ha, _⟩ := rd_int Try.underlying3 r0
    obtain ⟨b, hb, wb⟩ := rd_int Try.underlying69 r1
    obtain ⟨q, hq, wq⟩ := rd_int Try.underlying5 r2
    obtain ⟨v, bs, hv, hB, hl⟩ := rd_bytesS Try.underlying22 Try.underlying5 (by kernel_rfl) (by kernel_rfl) r3 s3
    obtain ⟨f, hf, hfo⟩ := rd_arr8 r4
    simp at ha hb hq hv
    simp only [List.drop_succ_cons, List.drop_zero, List.take_succ_cons, List.take_zero] at hf
    have h16 := u16_wf wb
    have h8 := u8_wf wq
    refine ⟨⟨a, b, q, v, bs, f⟩, ?_, hB, ⟨⟨h16.1, h16.2⟩, h8.1, h8.2⟩, hfo, hl⟩
    rw [ha, hb, hq, hv]
    show _ = .int .i64 a :: .int .u16 b :: .int .u8 q :: v :: f.c.toList
    rw [← hf]
end

set_option maxRecDepth 100000 in
theorem clientExpires_lifted (os : Os) (started : os.Started) (H : Type) (enc : TypeId × Value → H) :
    ReturnsInHanded {} Try.checked os 8 .any (Rows.clientExpiresSpec.pre6 enc Try.prog Try.f8 Rows.clientExpiresRow.domain false) (Rows.clientExpiresSpec.post enc Try.prog Try.f8 false true false false) := by
  refine law_lift os started (by kernel_rfl) Try.func8 (fun t ht => ?_) (tb := 4) (by kernel_rfl) Try.underlying4 rfl (fun ds hl => ?_)
    (ChangeSpec.witness6 (enc := enc) (C := Try.checked) false ⟨#[], #[.slice none 0 0, .slice none 0 0], []⟩ 8 (by kernel_rfl) (by kernel_rfl) (by kernel_rfl) (by kernel_rfl)) ?_
  · rw [Try.params8] at ht
    simp only [List.mem_cons, List.not_mem_nil, or_false] at ht
    first | (rcases ht with rfl | rfl | rfl <;> exact ⟨by kernel_rfl, of_decide_eq_true (by kernel_rfl)⟩) | (rcases ht with rfl | rfl <;> exact ⟨by kernel_rfl, of_decide_eq_true (by kernel_rfl)⟩) | (subst ht; exact ⟨by kernel_rfl, of_decide_eq_true (by kernel_rfl)⟩)
  · rw [Try.params8] at hl
    first | (match ds, hl with | [d1, d2, d3], _ => exact ⟨rfl, rfl, rfl⟩) | (match ds, hl with | [d1, d2], _ => exact ⟨rfl, rfl, rfl⟩) | (match ds, hl with | [d1], _ => exact ⟨rfl, rfl, rfl⟩)
  · intro W base vs ds ps hval hA hlt hw
    rw [Try.params8] at hA hval hw
    obtain ⟨v0, vs, d0, ds, p0, q0, rfl, rfl, rfl, h0, hA⟩ := trodAll_cons hA
    obtain ⟨v1, vs, d1, ds, p1, q1, rfl, rfl, rfl, h1, hA⟩ := trodAll_cons hA
    obtain ⟨rfl, rfl, rfl⟩ := trodAll_nil hA
    obtain ⟨v, xs, hv, hsl, hg, hl⟩ := rd_slS (encα := encCA) (sz := 12) (fun x => x.good W) Try.underlying64 (by kernel_rfl) (by decide) rd_cact (arg_slice Try.underlying64 (hval 0 64 v0 rfl rfl) h0) (sz_arg hw (j := 0) rfl rfl)
    obtain rfl : v0 = v := by simpa using hv
    obtain ⟨v2, bs, hv2, hB, hbl⟩ := rd_bytesS Try.underlying22 Try.underlying5 (by kernel_rfl) (by kernel_rfl) (arg_slice Try.underlying22 (hval 1 22 v1 rfl rfl) h1) (sz_arg hw (j := 1) rfl rfl)
    obtain rfl : v1 = v2 := by simpa using hv2
    exact (cexpires_any v0 v1 xs bs W hsl hg hB hbl).mono fun e w' h => ⟨h.1, h.2.below (Nat.le_refl _) (fun _ _ h => h)⟩

theorem clientExpires_holds : Rows.ClientExpiresSaid :=
  OpenClaim.holds_of_wide 8 Try.f8 rfl rfl rfl rfl rfl rfl rfl ⟨rfl, rfl, rfl, rfl, rfl⟩ rfl rfl rfl rfl rfl (by kernel_rfl) Try.func8 (by kernel_rfl)
    (of_decide_eq_true (by kernel_rfl)) (by unfold Func.isWrapper; first | (rw [if_pos (by decide +kernel)]; kernel_rfl) | (rw [if_neg (by decide +kernel)]; exact ⟨rfl, rfl⟩))
    (fun os started H enc _ => clientExpires_lifted os started H enc)
#print axioms clientExpires_holds
end Go.Proofs.Ytmkkeglcjbogcaa
