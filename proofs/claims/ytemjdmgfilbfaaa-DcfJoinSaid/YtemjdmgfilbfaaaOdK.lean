/-
  Get, Read.
-/
import Derived.Test.YtemjdmgfilbfaaaOdJ
import Derived.Test.YtemjdmgfilbfaaaTyE
import Derived.Test.YtemjdmgfilbfaaaTyF
namespace Go.Proofs.Ytemjdmgfilbfaaa
open Go.RowKit
set_option linter.unusedVariables false

def getD2 (d : List Im) (i s : Int) : Va × Int :=
  match findD d i s with
  | none => (.zero, 4)
  | some k => match d[k]? with
    | none => (.zero, 4)
    | some x => (x.2, 0)
theorem valV_zero : valV Va.zero = .agg #[.int .i64 0, .int .u64 0, .string ⟨#[]⟩] := rfl


set_option maxRecDepth 100000 in
set_option maxHeartbeats 2000000 in
theorem odGet_any (b : Nat) (l : List (Nat × Im)) (i s : Int) (w : World) (h : DAt w b l) (hd : DOk (im l)) (hs : 0 ≤ s ∧ s ≤ 255) :
    Calls Try.prog 16 #[ptr b, .int .u16 i, .int .u8 s] w fun e w' => e = .returned (.tuple #[valV (getD2 (im l) i s).1, .int .i64 (getD2 (im l) i s).2]) ∧ Frm (fun _ => False) w w' := by
  have HFD := Lib.hid (fun W hF => odFind_any b l i s W (h.grow hF) hd hs)
  have HD := Lib.hid h
  clear h hd hs
  unfold ptr at HFD
  unfold ptr
  go_enter Try.func16, Try.ntmps16
  go_wp2_with fail
  refine (HFD.out _ (by (repeat' (first | (with_reducible exact Frm.refl _ _) | (with_reducible assumption) | (with_reducible refine Frm.alloc ?_ _) | (with_reducible refine Frm.drew ?_) | (with_reducible refine Frm.drewN ?_ _) | (with_reducible refine Frm.set1 ?_ _) | (with_reducible refine Frm.setCell ?_ ?_ _) | (exact fun h => absurd h (Nat.lt_irrefl _)) | (intro hlt; simp [World.size_alloc, One] at hlt ⊢; omega))))).mono ?_
  rintro e w1 ⟨hF1, hf⟩
  have k0 := hF1.heap (heap_new w _) (fun h => h)
  have z0 : w1.cell? ⟨w.heap.size, 0, none⟩ = some (.int .i64 0) := cell_at k0
  have z1 : w1.cell? ⟨w.heap.size, 1, none⟩ = some (.int .u64 0) := cell_at k0
  have z2 : w1.cell? ⟨w.heap.size, 2, none⟩ = some (.string ⟨#[]⟩) := cell_at k0
  have f0 := frees k0
  have l0 := lt_of_block k0
  have K0 := Lib.hid k0
  have HF : Hid (Frm (fun _ => False) w w1) := Frm.trans' (b := _) (by (repeat' (first | (with_reducible exact Frm.refl _ _) | (with_reducible assumption) | (with_reducible refine Frm.alloc ?_ _) | (with_reducible refine Frm.drew ?_) | (with_reducible refine Frm.drewN ?_ _) | (with_reducible refine Frm.set1 ?_ _) | (with_reducible refine Frm.setCell ?_ ?_ _) | (exact fun h => absurd h (Nat.lt_irrefl _)) | (intro hlt; simp [World.size_alloc, One] at hlt ⊢; omega)))) hF1
  clear hF1 k0 HFD
  rcases hf with ⟨k, hk, hfd, -, -, rfl⟩ | ⟨hfd, hne, rfl⟩
  · have E : Hid (getD2 (im l) i s = (l[k].2.2, 0)) := by
      unfold Hid getD2
      rw [hfd]
      simp [hk]
    have hi := HF.out.heap (HD.out.el _ (List.getElem_mem hk)) (fun h => h)
    generalize l[k].1 = p at *
    generalize l[k].2 = x at *
    clear hfd
    have y0 : w1.cell? ⟨p, 14, none⟩ = some (.int .i64 x.2.ty) := cell_at hi
    have y1 : w1.cell? ⟨p, 15, none⟩ = some (.int .u64 x.2.n) := cell_at hi
    have y2 : w1.cell? ⟨p, 16, none⟩ = some (.string (strB2 x.2.b)) := cell_at hi
    clear hi
    go_wp2_with fail
    refine bodyPost_ret (ret_v2 Try.results16 _ _ _ _ _ _ rfl (store3 K0.out)) rfl ⟨?_, ?_⟩
    · rw [E.out]; rfl
    · have hf : Frm (fun _ => False) w w1 := HF.out
      (repeat' (first | (with_reducible exact Frm.refl _ _) | (with_reducible assumption) | (with_reducible refine Frm.alloc ?_ _) | (with_reducible refine Frm.drew ?_) | (with_reducible refine Frm.drewN ?_ _) | (with_reducible refine Frm.set1 ?_ _) | (with_reducible refine Frm.setCell ?_ ?_ _) | (exact fun h => absurd h (Nat.lt_irrefl _)) | (intro hlt; simp [World.size_alloc, One] at hlt ⊢; omega)))
  · have E : Hid (getD2 (im l) i s = (.zero, 4)) := by
      unfold Hid getD2
      rw [hfd]
    have hb : (findC (im l) i s != 0) = true := by simpa using hne
    generalize findC (im l) i s = c at *
    clear hfd hne
    go_wp2_with fail
    refine bodyPost_ret (ret_v2 Try.results16 _ _ _ _ _ _ rfl (store3 K0.out)) rfl ⟨?_, ?_⟩
    · rw [E.out]; rfl
    · have hf : Frm (fun _ => False) w w1 := HF.out
      (repeat' (first | (with_reducible exact Frm.refl _ _) | (with_reducible assumption) | (with_reducible refine Frm.alloc ?_ _) | (with_reducible refine Frm.drew ?_) | (with_reducible refine Frm.drewN ?_ _) | (with_reducible refine Frm.set1 ?_ _) | (with_reducible refine Frm.setCell ?_ ?_ _) | (exact fun h => absurd h (Nat.lt_irrefl _)) | (intro hlt; simp [World.size_alloc, One] at hlt ⊢; omega)))

def ReadP (d : List Im) (i s : Int) (w : World) (e : Ending) (w' : World) : Prop := ∃ v, e = .returned (.tuple #[v, .int .u32 (readD d i s).2]) ∧ Fresh8 w.heap.size w' v (readD d i s).1 ∧ Frm (fun _ => False) w w'

set_option maxRecDepth 100000 in
set_option maxHeartbeats 2000000 in
theorem odRead_any (b : Nat) (l : List (Nat × Im)) (i s : Int) (w : World) (h : DAt w b l) (hd : DOk (im l)) (hs : 0 ≤ s ∧ s ≤ 255) :
    Calls Try.prog 43 #[ptr b, .int .u16 i, .int .u8 s] w (ReadP (im l) i s w) := by
  have HFD := Lib.hid (fun W hF => odFind_any b l i s W (h.grow hF) hd hs)
  have HD := Lib.hid h
  have HOK := Lib.hid hd
  clear h hd hs
  unfold ptr at HFD
  unfold ptr
  go_enter Try.func43, Try.ntmps43
  go_wp2_with fail
  refine (HFD.out _ (Frm.refl _ _)).mono ?_
  rintro e w1 ⟨hF1, hf⟩
  have HF := Lib.hid hF1
  clear hF1 HFD
  unfold ReadP
  rcases hf with ⟨k, hk, hfd, -, -, rfl⟩ | ⟨hfd, hne, rfl⟩
  · have hm := List.getElem_mem hk
    have E : Hid (readD (im l) i s = if l[k].2.1.acc = 1 then ([], codeNoRead) else ((encV l[k].2.2).1, 0)) := by
      unfold Hid readD
      rw [hfd]
      simp [hk]
    have hi := HF.out.heap (HD.out.el _ hm) (fun h => h)
    have HEN := Lib.hid (fun W => tyEnc_any l[k].2.2 W (HOK.out.ok _ (List.mem_map.2 ⟨_, hm, rfl⟩)).2)
    generalize l[k].1 = p at *
    generalize l[k].2 = x at *
    clear hfd hm
    have y0 : w1.cell? ⟨p, 14, none⟩ = some (.int .i64 x.2.ty) := cell_at hi
    have y1 : w1.cell? ⟨p, 15, none⟩ = some (.int .u64 x.2.n) := cell_at hi
    have y2 : w1.cell? ⟨p, 16, none⟩ = some (.string (strB2 x.2.b)) := cell_at hi
    have y3 : w1.cell? ⟨p, 2, none⟩ = some (.int .i64 x.1.acc) := cell_at hi
    clear hi
    unfold EncP valV at HEN
    generalize (encV x.2).2 = ec at *
    by_cases ha : x.1.acc = 1
    · have E2 : Hid (readD (im l) i s = ([], codeNoRead)) := by unfold Hid; rw [E.out, if_pos ha]
      have hb : (x.1.acc == 1) = true := by simpa using ha
      clear E ha
      go_wp2_with fail
      go_ret2
      exact ⟨_, by rw [E2.out]; rfl, by rw [E2.out]; exact Fresh8.nil _ _, HF.out⟩
    · have E2 : Hid (readD (im l) i s = ((encV x.2).1, 0)) := by unfold Hid; rw [E.out, if_neg ha]
      have hb : (x.1.acc == 1) = false := by simpa using ha
      clear E ha
      go_wp2_with fail
      refine (HEN.out _).mono ?_
      rintro e w2 ⟨sv, rfl, hfr, hF2⟩
      have HFR := Lib.hid hfr
      go_wp2_with fail
      go_ret2
      exact ⟨_, by rw [E2.out]; rfl, by rw [E2.out]; exact HFR.out.base HF.out.size, HF.out.trans' hF2⟩
  · have E : Hid (readD (im l) i s = ([], findC (im l) i s)) := by
      unfold Hid readD
      rw [hfd]
    have hb : (findC (im l) i s != 0) = true := by simpa using hne
    generalize findC (im l) i s = c at *
    clear hfd hne
    go_wp2_with fail
    go_ret2
    exact ⟨_, by rw [E.out]; rfl, by rw [E.out]; exact Fresh8.nil _ _, HF.out⟩
end Go.Proofs.Ytemjdmgfilbfaaa
