/-
  BootJudges: what is told of a node, and what is to be done with it, is as the document says. Proved for every argument that the row's form reads, with no further condition.
-/
import Derived.Test.YtjjmkpjclhielaaBootL
import Derived.Test.YtjjmkpjclhielaaBootK
import Derived.Test.YtjjmkpjclhielaaBootX
namespace Go.Proofs.Ytjjmkpjclhielaa
open Go.ChangeShapes Go.WideShapes Go.ChangeAt Go.RowKit Go.Deep
set_option linter.unusedVariables false

set_option maxRecDepth 100000 in
set_option maxHeartbeats 1000000 in
theorem Judge_any (p : Pl) (s : Sn) (A : Option Addr) (c : Nat) (w : World) (hl : p.its.length ≤ 9223372036854775807) :
    Calls Try.prog 15 #[valP p (.slice A p.its.length c), valS s] w (JudgeP p s w) := by
  have H := Lib.hid (fun W => judge_any p s A c W hl)
  unfold JudgeP valP valS at *
  generalize judgeOf p s = r at *
  go_enter Try.func15, Try.ntmps15
  go_wp2_with fail
  refine (H.out _).mono ?_
  rintro e w3 ⟨rfl, hF3⟩
  have HF3 : Hid (Frm (fun _ => False) w w3) := Frm.trans' (by (repeat' (first | (with_reducible exact Frm.refl _ _) | (with_reducible assumption) | (with_reducible refine Frm.alloc ?_ _) | (with_reducible refine Frm.drew ?_) | (with_reducible refine Frm.drewN ?_ _) | (with_reducible refine Frm.set1 ?_ _) | (with_reducible refine Frm.setCell ?_ ?_ _) | (exact fun h => absurd h (Nat.lt_irrefl _)) | (intro hlt; simp [World.size_alloc, One] at hlt ⊢; omega)))) hF3
  clear hF3
  go_wp2_with fail
  go_ret2
  exact ⟨rfl, HF3.out⟩

set_option maxRecDepth 100000 in
set_option maxHeartbeats 1000000 in
theorem judges_any (p : Pl) (s : Sn) (A : Option Addr) (c : Nat) (w : World) (hl : p.its.length ≤ 9223372036854775807) :
    Calls Try.prog 4 #[valP p (.slice A p.its.length c), valS s] w (LawPost w) := by
  have H1 := Lib.hid (fun W => Judge_any p s A c W hl)
  have H2 := Lib.hid (fun W => rjudge_any p s A c W hl)
  unfold JudgeP valP valS at *
  generalize judgeOf p s = r at *
  obtain ⟨r1, r2⟩ := r
  simp only at H1 H2
  go_enter Try.func4, Try.ntmps4
  go_wp2_with fail
  refine (H1.out _).mono ?_
  rintro e w3 ⟨rfl, hF3⟩
  have hT2 := hF3.heap (heap_alloc_old (heap_new w _)) (fun h => h)
  have hT3 := hF3.heap (heap_new_at (k := w.heap.size + 1) (by simp)) (fun h => h)
  have HF3 : Hid (Frm (fun _ => False) w w3) := Frm.trans' (by (repeat' (first | (with_reducible exact Frm.refl _ _) | (with_reducible assumption) | (with_reducible refine Frm.alloc ?_ _) | (with_reducible refine Frm.drew ?_) | (with_reducible refine Frm.drewN ?_ _) | (with_reducible refine Frm.set1 ?_ _) | (with_reducible refine Frm.setCell ?_ ?_ _) | (exact fun h => absurd h (Nat.lt_irrefl _)) | (intro hlt; simp [World.size_alloc, One] at hlt ⊢; omega)))) hF3
  have x0 : w3.cell? ⟨w.heap.size, 0, none⟩ = some (.int .i64 p.node) := cell_at hT2
  have x1 : w3.cell? ⟨w.heap.size, 1, none⟩ = some (.int .u32 p.dev) := cell_at hT2
  have x2 : w3.cell? ⟨w.heap.size, 2, none⟩ = some (.int .u32 p.i0) := cell_at hT2
  have x3 : w3.cell? ⟨w.heap.size, 3, none⟩ = some (.int .u32 p.i1) := cell_at hT2
  have x4 : w3.cell? ⟨w.heap.size, 4, none⟩ = some (.int .u32 p.i2) := cell_at hT2
  have x5 : w3.cell? ⟨w.heap.size, 5, none⟩ = some (.int .u32 p.i3) := cell_at hT2
  have x6 : w3.cell? ⟨w.heap.size, 6, none⟩ = some (.int .u32 p.day) := cell_at hT2
  have x7 : w3.cell? ⟨w.heap.size, 7, none⟩ = some (.int .u32 p.time) := cell_at hT2
  have x8 : w3.cell? ⟨w.heap.size, 8, none⟩ = some (.slice A p.its.length c) := cell_at hT2
  have x9 : w3.cell? ⟨w.heap.size, 9, none⟩ = some (.bool p.mand) := cell_at hT2
  have x10 : w3.cell? ⟨w.heap.size, 10, none⟩ = some (.bool p.keep) := cell_at hT2
  have y0 : w3.cell? ⟨w.heap.size + 1, 0, none⟩ = some (.bool s.there) := cell_at hT3
  have y1 : w3.cell? ⟨w.heap.size + 1, 1, none⟩ = some (.int .u32 s.dev) := cell_at hT3
  have y2 : w3.cell? ⟨w.heap.size + 1, 2, none⟩ = some (.int .u32 s.i0) := cell_at hT3
  have y3 : w3.cell? ⟨w.heap.size + 1, 3, none⟩ = some (.int .u32 s.i1) := cell_at hT3
  have y4 : w3.cell? ⟨w.heap.size + 1, 4, none⟩ = some (.int .u32 s.i2) := cell_at hT3
  have y5 : w3.cell? ⟨w.heap.size + 1, 5, none⟩ = some (.int .u32 s.i3) := cell_at hT3
  have y6 : w3.cell? ⟨w.heap.size + 1, 6, none⟩ = some (.int .u32 s.day) := cell_at hT3
  have y7 : w3.cell? ⟨w.heap.size + 1, 7, none⟩ = some (.int .u32 s.time) := cell_at hT3
  have y8 : w3.cell? ⟨w.heap.size + 1, 8, none⟩ = some (.int .i64 s.state) := cell_at hT3
  have y9 : w3.cell? ⟨w.heap.size + 1, 9, none⟩ = some (.int .u32 s.code) := cell_at hT3
  have y10 : w3.cell? ⟨w.heap.size + 1, 10, none⟩ = some (.bool s.beat) := cell_at hT3
  clear hT2 hT3 hF3
  go_wp2_with fail
  refine (H2.out _).mono ?_
  rintro e w4 ⟨rfl, hF4⟩
  have HF4 := Lib.hid (HF3.out.trans' hF4)
  clear hF4 x0 x1 x2 x3 x4 x5 x6 x7 x8 x9 x10 y0 y1 y2 y3 y4 y5 y6 y7 y8 y9 y10
  go_wp2_with fail
  refine (livesB_any _).mono ?_
  rintro e w5 ⟨rfl, hF5⟩
  have HF5 := Lib.hid (HF4.out.trans' hF5)
  clear hF5
  go_wp2_with fail
  go_ret
  exact ⟨rfl, HF5.out.below (Nat.le_refl _) (fun _ _ h => h)⟩

set_option maxRecDepth 100000 in
theorem bootJudges_lifted (os : Os) (started : os.Started) (H : Type) (enc : TypeId × Value → H) :
    ReturnsInHanded {} Try.checked os 4 .any (Rows.bootJudgesSpec.pre6 enc Try.prog Try.f4 Rows.bootJudgesRow.domain false) (Rows.bootJudgesSpec.post enc Try.prog Try.f4 false true false false) := by
  refine law_lift os started (by kernel_rfl) Try.func4 (fun t ht => ?_) (tb := 4) (by kernel_rfl) Try.underlying4 rfl (fun ds hl => ?_)
    (ChangeSpec.witness6 (enc := enc) (C := Try.checked) false ⟨#[], #[.agg #[.int .i64 0, .int .u32 0, .int .u32 0, .int .u32 0, .int .u32 0, .int .u32 0, .int .u32 0, .int .u32 0, .slice none 0 0, .bool false, .bool false], .agg #[.bool false, .int .u32 0, .int .u32 0, .int .u32 0, .int .u32 0, .int .u32 0, .int .u32 0, .int .u32 0, .int .i64 0, .int .u32 0, .bool false]], []⟩ 8 (by kernel_rfl) (by kernel_rfl) (by kernel_rfl) (by kernel_rfl)) ?_
  · rw [Try.params4] at ht
    simp only [List.mem_cons, List.not_mem_nil, or_false] at ht
    first | (rcases ht with rfl | rfl | rfl <;> exact ⟨by kernel_rfl, of_decide_eq_true (by kernel_rfl)⟩) | (rcases ht with rfl | rfl <;> exact ⟨by kernel_rfl, of_decide_eq_true (by kernel_rfl)⟩) | (subst ht; exact ⟨by kernel_rfl, of_decide_eq_true (by kernel_rfl)⟩)
  · rw [Try.params4] at hl
    first | (match ds, hl with | [d1, d2, d3], _ => exact ⟨rfl, rfl, rfl⟩) | (match ds, hl with | [d1, d2], _ => exact ⟨rfl, rfl, rfl⟩) | (match ds, hl with | [d1], _ => exact ⟨rfl, rfl, rfl⟩)
  · intro W base vs ds ps hval hA hlt hw
    rw [Try.params4] at hA hval hw
    obtain ⟨v0, vs, d0, ds, p0, q0, rfl, rfl, rfl, h0, hA⟩ := trodAll_cons hA
    obtain ⟨v1, vs, d1, ds, p1, q1, rfl, rfl, rfl, h1, hA⟩ := trodAll_cons hA
    obtain ⟨rfl, rfl, rfl⟩ := trodAll_nil hA
    obtain ⟨c0, rfl, r0⟩ := arg_struct Try.underlying38 (hval 0 38 v0 rfl rfl) h0
    obtain ⟨c1, rfl, r1⟩ := arg_struct Try.underlying40 (hval 1 40 v1 rfl rfl) h1
    obtain ⟨⟨p, v⟩, rfl, ⟨ys, hys, hyb⟩, _, hyl, _⟩ := rd_plan _ _ r0 (sz_arg hw (j := 0) rfl rfl)
    obtain ⟨s, rfl⟩ := rd_seen _ _ r1 (sz_arg hw (j := 1) rfl rfl)
    obtain ⟨A, c, hv, _⟩ := hys.open_
    simp only at hv hyb hyl
    subst hv
    have hn : ys.length = p.its.length := by rw [← hyb]; simp
    rw [hn]
    exact judges_any p s A c W (by omega)

theorem bootJudges_holds : Rows.BootJudgesSaid :=
  OpenClaim.holds_of_wide 4 Try.f4 rfl rfl rfl rfl rfl rfl rfl ⟨rfl, rfl, rfl, rfl, rfl⟩ rfl rfl rfl rfl rfl (by kernel_rfl) Try.func4 (by kernel_rfl)
    (of_decide_eq_true (by kernel_rfl)) (by unfold Func.isWrapper; first | (rw [if_pos (by decide +kernel)]; kernel_rfl) | (rw [if_neg (by decide +kernel)]; exact ⟨rfl, rfl⟩))
    (fun os started H enc _ => bootJudges_lifted os started H enc)
#print axioms bootJudges_holds
end Go.Proofs.Ytjjmkpjclhielaa
