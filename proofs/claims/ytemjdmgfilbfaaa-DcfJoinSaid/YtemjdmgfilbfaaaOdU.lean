/-
  Entry.
-/
import Derived.Test.YtemjdmgfilbfaaaOdT
namespace Go.Proofs.Ytemjdmgfilbfaaa
open Go.RowKit
set_option linter.unusedVariables false

theorem store14a {w : World} {g : Nat} {t : TypeId} {fz : Nat × Nat} {d0 d1 d2 d3 d4 d5 d6 d7 d8 d9 d10 d11 d12 d13 c0 c1 c2 c3 c4 c5 c6 c7 c8 c9 c10 c11 c12 c13 : Value} (h : w.heap[g]? = some (.cells #[d0, d1, d2, d3, d4, d5, d6, d7, d8, d9, d10, d11, d12, d13] t fz)) :
    ((((((((((((((w.setCell ⟨g, 0, none⟩ c0).setCell ⟨g, 1, none⟩ c1).setCell ⟨g, 2, none⟩ c2).setCell ⟨g, 3, none⟩ c3).setCell ⟨g, 4, none⟩ c4).setCell ⟨g, 5, none⟩ c5).setCell ⟨g, 6, none⟩ c6).setCell ⟨g, 7, none⟩ c7).setCell ⟨g, 8, none⟩ c8).setCell ⟨g, 9, none⟩ c9).setCell ⟨g, 10, none⟩ c10).setCell ⟨g, 11, none⟩ c11).setCell ⟨g, 12, none⟩ c12).setCell ⟨g, 13, none⟩ c13).heap[g]? = some (.cells #[c0, c1, c2, c3, c4, c5, c6, c7, c8, c9, c10, c11, c12, c13] t fz) := by
  have h0 : (w.setCell ⟨g, 0, none⟩ c0).heap[g]? = some (.cells #[c0, d1, d2, d3, d4, d5, d6, d7, d8, d9, d10, d11, d12, d13] t fz) := heap_set_at h rfl
  have h1 : ((w.setCell ⟨g, 0, none⟩ c0).setCell ⟨g, 1, none⟩ c1).heap[g]? = some (.cells #[c0, c1, d2, d3, d4, d5, d6, d7, d8, d9, d10, d11, d12, d13] t fz) := heap_set_at h0 rfl
  have h2 : (((w.setCell ⟨g, 0, none⟩ c0).setCell ⟨g, 1, none⟩ c1).setCell ⟨g, 2, none⟩ c2).heap[g]? = some (.cells #[c0, c1, c2, d3, d4, d5, d6, d7, d8, d9, d10, d11, d12, d13] t fz) := heap_set_at h1 rfl
  have h3 : ((((w.setCell ⟨g, 0, none⟩ c0).setCell ⟨g, 1, none⟩ c1).setCell ⟨g, 2, none⟩ c2).setCell ⟨g, 3, none⟩ c3).heap[g]? = some (.cells #[c0, c1, c2, c3, d4, d5, d6, d7, d8, d9, d10, d11, d12, d13] t fz) := heap_set_at h2 rfl
  have h4 : (((((w.setCell ⟨g, 0, none⟩ c0).setCell ⟨g, 1, none⟩ c1).setCell ⟨g, 2, none⟩ c2).setCell ⟨g, 3, none⟩ c3).setCell ⟨g, 4, none⟩ c4).heap[g]? = some (.cells #[c0, c1, c2, c3, c4, d5, d6, d7, d8, d9, d10, d11, d12, d13] t fz) := heap_set_at h3 rfl
  have h5 : ((((((w.setCell ⟨g, 0, none⟩ c0).setCell ⟨g, 1, none⟩ c1).setCell ⟨g, 2, none⟩ c2).setCell ⟨g, 3, none⟩ c3).setCell ⟨g, 4, none⟩ c4).setCell ⟨g, 5, none⟩ c5).heap[g]? = some (.cells #[c0, c1, c2, c3, c4, c5, d6, d7, d8, d9, d10, d11, d12, d13] t fz) := heap_set_at h4 rfl
  have h6 : (((((((w.setCell ⟨g, 0, none⟩ c0).setCell ⟨g, 1, none⟩ c1).setCell ⟨g, 2, none⟩ c2).setCell ⟨g, 3, none⟩ c3).setCell ⟨g, 4, none⟩ c4).setCell ⟨g, 5, none⟩ c5).setCell ⟨g, 6, none⟩ c6).heap[g]? = some (.cells #[c0, c1, c2, c3, c4, c5, c6, d7, d8, d9, d10, d11, d12, d13] t fz) := heap_set_at h5 rfl
  have h7 : ((((((((w.setCell ⟨g, 0, none⟩ c0).setCell ⟨g, 1, none⟩ c1).setCell ⟨g, 2, none⟩ c2).setCell ⟨g, 3, none⟩ c3).setCell ⟨g, 4, none⟩ c4).setCell ⟨g, 5, none⟩ c5).setCell ⟨g, 6, none⟩ c6).setCell ⟨g, 7, none⟩ c7).heap[g]? = some (.cells #[c0, c1, c2, c3, c4, c5, c6, c7, d8, d9, d10, d11, d12, d13] t fz) := heap_set_at h6 rfl
  have h8 : (((((((((w.setCell ⟨g, 0, none⟩ c0).setCell ⟨g, 1, none⟩ c1).setCell ⟨g, 2, none⟩ c2).setCell ⟨g, 3, none⟩ c3).setCell ⟨g, 4, none⟩ c4).setCell ⟨g, 5, none⟩ c5).setCell ⟨g, 6, none⟩ c6).setCell ⟨g, 7, none⟩ c7).setCell ⟨g, 8, none⟩ c8).heap[g]? = some (.cells #[c0, c1, c2, c3, c4, c5, c6, c7, c8, d9, d10, d11, d12, d13] t fz) := heap_set_at h7 rfl
  have h9 : ((((((((((w.setCell ⟨g, 0, none⟩ c0).setCell ⟨g, 1, none⟩ c1).setCell ⟨g, 2, none⟩ c2).setCell ⟨g, 3, none⟩ c3).setCell ⟨g, 4, none⟩ c4).setCell ⟨g, 5, none⟩ c5).setCell ⟨g, 6, none⟩ c6).setCell ⟨g, 7, none⟩ c7).setCell ⟨g, 8, none⟩ c8).setCell ⟨g, 9, none⟩ c9).heap[g]? = some (.cells #[c0, c1, c2, c3, c4, c5, c6, c7, c8, c9, d10, d11, d12, d13] t fz) := heap_set_at h8 rfl
  have h10 : (((((((((((w.setCell ⟨g, 0, none⟩ c0).setCell ⟨g, 1, none⟩ c1).setCell ⟨g, 2, none⟩ c2).setCell ⟨g, 3, none⟩ c3).setCell ⟨g, 4, none⟩ c4).setCell ⟨g, 5, none⟩ c5).setCell ⟨g, 6, none⟩ c6).setCell ⟨g, 7, none⟩ c7).setCell ⟨g, 8, none⟩ c8).setCell ⟨g, 9, none⟩ c9).setCell ⟨g, 10, none⟩ c10).heap[g]? = some (.cells #[c0, c1, c2, c3, c4, c5, c6, c7, c8, c9, c10, d11, d12, d13] t fz) := heap_set_at h9 rfl
  have h11 : ((((((((((((w.setCell ⟨g, 0, none⟩ c0).setCell ⟨g, 1, none⟩ c1).setCell ⟨g, 2, none⟩ c2).setCell ⟨g, 3, none⟩ c3).setCell ⟨g, 4, none⟩ c4).setCell ⟨g, 5, none⟩ c5).setCell ⟨g, 6, none⟩ c6).setCell ⟨g, 7, none⟩ c7).setCell ⟨g, 8, none⟩ c8).setCell ⟨g, 9, none⟩ c9).setCell ⟨g, 10, none⟩ c10).setCell ⟨g, 11, none⟩ c11).heap[g]? = some (.cells #[c0, c1, c2, c3, c4, c5, c6, c7, c8, c9, c10, c11, d12, d13] t fz) := heap_set_at h10 rfl
  have h12 : (((((((((((((w.setCell ⟨g, 0, none⟩ c0).setCell ⟨g, 1, none⟩ c1).setCell ⟨g, 2, none⟩ c2).setCell ⟨g, 3, none⟩ c3).setCell ⟨g, 4, none⟩ c4).setCell ⟨g, 5, none⟩ c5).setCell ⟨g, 6, none⟩ c6).setCell ⟨g, 7, none⟩ c7).setCell ⟨g, 8, none⟩ c8).setCell ⟨g, 9, none⟩ c9).setCell ⟨g, 10, none⟩ c10).setCell ⟨g, 11, none⟩ c11).setCell ⟨g, 12, none⟩ c12).heap[g]? = some (.cells #[c0, c1, c2, c3, c4, c5, c6, c7, c8, c9, c10, c11, c12, d13] t fz) := heap_set_at h11 rfl
  have h13 : ((((((((((((((w.setCell ⟨g, 0, none⟩ c0).setCell ⟨g, 1, none⟩ c1).setCell ⟨g, 2, none⟩ c2).setCell ⟨g, 3, none⟩ c3).setCell ⟨g, 4, none⟩ c4).setCell ⟨g, 5, none⟩ c5).setCell ⟨g, 6, none⟩ c6).setCell ⟨g, 7, none⟩ c7).setCell ⟨g, 8, none⟩ c8).setCell ⟨g, 9, none⟩ c9).setCell ⟨g, 10, none⟩ c10).setCell ⟨g, 11, none⟩ c11).setCell ⟨g, 12, none⟩ c12).setCell ⟨g, 13, none⟩ c13).heap[g]? = some (.cells #[c0, c1, c2, c3, c4, c5, c6, c7, c8, c9, c10, c11, c12, c13] t fz) := heap_set_at h12 rfl
  exact h13
/-- Two results, the first an entry that lies in memory. -/
theorem ret_e2 {fn : Func} {p u : Tmp} (h : fn.results = #[.cell p 42, .tmp u]) (tmps : Array Value) (w : World) (g : Nat) (x : En)
    (hp : tmps.getD p undef = .pointer (some ⟨g, 0, none⟩)) (hg : w.heap[g]? = some (.cells (cellsE x).toArray 42 (0, 0))) :
    (results fn tmps).run Try.prog w = .ok (.tuple #[valE x, tmps.getD u undef]) w := by
  have hp' : tmps[p]?.getD undef = .pointer (some ⟨g, 0, none⟩) := by simpa using hp
  simp [results, h, hp', asAddr, run_loadVar_row w g 42 42 (cellsE x).toArray (0, 0) _ hg Try.underlying42 rfl (by kernel_rfl), cellsE, valE]
def entD (d : List Im) (i s : Int) : En × Bool :=
  match findD d i s with
  | none => (.zero, false)
  | some k => match d[k]? with
    | none => (.zero, false)
    | some x => (x.1, true)

set_option maxRecDepth 100000 in
set_option maxHeartbeats 600000 in
theorem odEnt_any (b : Nat) (l : List (Nat × Im)) (i s : Int) (w : World) (h : DAt w b l) (hd : DOk (im l)) (hs : 0 ≤ s ∧ s ≤ 255) :
    Calls Try.prog 65 #[ptr b, .int .u16 i, .int .u8 s] w fun e w' => e = .returned (.tuple #[valE (entD (im l) i s).1, .bool (entD (im l) i s).2]) ∧ Frm (fun _ => False) w w' := by
  have HFD := Lib.hid (fun W hF => odFind_any b l i s W (h.grow hF) hd hs)
  have HD := Lib.hid h
  clear h hd hs
  unfold ptr at HFD
  unfold ptr
  go_enter Try.func65, Try.ntmps65
  go_wp2_with fail
  refine (HFD.out _ (by (repeat' (first | (with_reducible exact Frm.refl _ _) | (with_reducible assumption) | (with_reducible refine Frm.alloc ?_ _) | (with_reducible refine Frm.drew ?_) | (with_reducible refine Frm.drewN ?_ _) | (with_reducible refine Frm.set1 ?_ _) | (with_reducible refine Frm.setCell ?_ ?_ _) | (exact fun h => absurd h (Nat.lt_irrefl _)) | (intro hlt; simp [World.size_alloc, One] at hlt ⊢; omega))))).mono ?_
  rintro e w1 ⟨hF1, hf⟩
  have k0 := hF1.heap (heap_new w _) (fun h => h)
  have z0 : w1.cell? ⟨w.heap.size, 0, none⟩ = some (.int .u16 0) := cell_at k0
  have z1 : w1.cell? ⟨w.heap.size, 1, none⟩ = some (.int .u8 0) := cell_at k0
  have z2 : w1.cell? ⟨w.heap.size, 2, none⟩ = some (.int .i64 0) := cell_at k0
  have z3 : w1.cell? ⟨w.heap.size, 3, none⟩ = some (.bool false) := cell_at k0
  have z4 : w1.cell? ⟨w.heap.size, 4, none⟩ = some (.bool false) := cell_at k0
  have z5 : w1.cell? ⟨w.heap.size, 5, none⟩ = some (.int .i64 0) := cell_at k0
  have z6 : w1.cell? ⟨w.heap.size, 6, none⟩ = some (.int .u64 0) := cell_at k0
  have z7 : w1.cell? ⟨w.heap.size, 7, none⟩ = some (.string ⟨#[]⟩) := cell_at k0
  have z8 : w1.cell? ⟨w.heap.size, 8, none⟩ = some (.int .i64 0) := cell_at k0
  have z9 : w1.cell? ⟨w.heap.size, 9, none⟩ = some (.int .u64 0) := cell_at k0
  have z10 : w1.cell? ⟨w.heap.size, 10, none⟩ = some (.string ⟨#[]⟩) := cell_at k0
  have z11 : w1.cell? ⟨w.heap.size, 11, none⟩ = some (.int .i64 0) := cell_at k0
  have z12 : w1.cell? ⟨w.heap.size, 12, none⟩ = some (.int .u64 0) := cell_at k0
  have z13 : w1.cell? ⟨w.heap.size, 13, none⟩ = some (.string ⟨#[]⟩) := cell_at k0
  have f0 := frees k0
  have l0 := lt_of_block k0
  have K0 := Lib.hid k0
  have HF : Hid (Frm (fun _ => False) w w1) := Frm.trans' (b := _) (by (repeat' (first | (with_reducible exact Frm.refl _ _) | (with_reducible assumption) | (with_reducible refine Frm.alloc ?_ _) | (with_reducible refine Frm.drew ?_) | (with_reducible refine Frm.drewN ?_ _) | (with_reducible refine Frm.set1 ?_ _) | (with_reducible refine Frm.setCell ?_ ?_ _) | (exact fun h => absurd h (Nat.lt_irrefl _)) | (intro hlt; simp [World.size_alloc, One] at hlt ⊢; omega)))) hF1
  clear hF1 k0 HFD
  rcases hf with ⟨k, hk, hfd, -, -, rfl⟩ | ⟨hfd, hne, rfl⟩
  · have E : Hid (entD (im l) i s = (l[k].2.1, true)) := by
      unfold Hid entD
      rw [hfd]
      simp [hk]
    have hi := HF.out.heap (HD.out.el _ (List.getElem_mem hk)) (fun h => h)
    generalize l[k].1 = p at *
    generalize l[k].2 = x at *
    clear hfd
    have i0 : w1.cell? ⟨p, 0, none⟩ = some (.int .u16 x.1.idx) := cell_at hi
    have i1 : w1.cell? ⟨p, 1, none⟩ = some (.int .u8 x.1.sub) := cell_at hi
    have i2 : w1.cell? ⟨p, 2, none⟩ = some (.int .i64 x.1.acc) := cell_at hi
    have i3 : w1.cell? ⟨p, 3, none⟩ = some (.bool x.1.mp) := cell_at hi
    have i4 : w1.cell? ⟨p, 4, none⟩ = some (.bool x.1.lim) := cell_at hi
    have i5 : w1.cell? ⟨p, 5, none⟩ = some (.int .i64 x.1.mn.ty) := cell_at hi
    have i6 : w1.cell? ⟨p, 6, none⟩ = some (.int .u64 x.1.mn.n) := cell_at hi
    have i7 : w1.cell? ⟨p, 7, none⟩ = some (.string (strB2 x.1.mn.b)) := cell_at hi
    have i8 : w1.cell? ⟨p, 8, none⟩ = some (.int .i64 x.1.mx.ty) := cell_at hi
    have i9 : w1.cell? ⟨p, 9, none⟩ = some (.int .u64 x.1.mx.n) := cell_at hi
    have i10 : w1.cell? ⟨p, 10, none⟩ = some (.string (strB2 x.1.mx.b)) := cell_at hi
    have i11 : w1.cell? ⟨p, 11, none⟩ = some (.int .i64 x.1.df.ty) := cell_at hi
    have i12 : w1.cell? ⟨p, 12, none⟩ = some (.int .u64 x.1.df.n) := cell_at hi
    have i13 : w1.cell? ⟨p, 13, none⟩ = some (.string (strB2 x.1.df.b)) := cell_at hi
    clear hi
    go_wp2_with fail
    refine bodyPost_ret (ret_e2 Try.results65 _ _ _ x.1 rfl (store14a K0.out)) rfl ⟨?_, ?_⟩
    · rw [E.out]; rfl
    · have hf : Frm (fun _ => False) w w1 := HF.out
      (repeat' (first | (with_reducible exact Frm.refl _ _) | (with_reducible assumption) | (with_reducible refine Frm.alloc ?_ _) | (with_reducible refine Frm.drew ?_) | (with_reducible refine Frm.drewN ?_ _) | (with_reducible refine Frm.set1 ?_ _) | (with_reducible refine Frm.setCell ?_ ?_ _) | (exact fun h => absurd h (Nat.lt_irrefl _)) | (intro hlt; simp [World.size_alloc, One] at hlt ⊢; omega)))
  · have E : Hid (entD (im l) i s = (.zero, false)) := by
      unfold Hid entD
      rw [hfd]
    have hb : (findC (im l) i s != 0) = true := by simpa using hne
    generalize findC (im l) i s = c at *
    clear hfd hne
    go_wp2_with fail
    refine bodyPost_ret (ret_e2 Try.results65 _ _ _ .zero rfl (store14a K0.out)) rfl ⟨?_, ?_⟩
    · rw [E.out]; rfl
    · have hf : Frm (fun _ => False) w w1 := HF.out
      (repeat' (first | (with_reducible exact Frm.refl _ _) | (with_reducible assumption) | (with_reducible refine Frm.alloc ?_ _) | (with_reducible refine Frm.drew ?_) | (with_reducible refine Frm.drewN ?_ _) | (with_reducible refine Frm.set1 ?_ _) | (with_reducible refine Frm.setCell ?_ ?_ _) | (exact fun h => absurd h (Nat.lt_irrefl _)) | (intro hlt; simp [World.size_alloc, One] at hlt ⊢; omega)))
end Go.Proofs.Ytemjdmgfilbfaaa
