/-
  The document's client, new: what its calls do. Frames compared; one call of the statement, by the program and by the document's new client. A string of bytes. One call of the statement, by the program and by the document's new client.
-/
import Derived.Laws.StructEq
import Derived.Laws.BytesArg
import Derived.Test.YtmkkeglcjbogcaaMee54d80e
import Derived.Test.YtmkkeglcjbogcaaMbff6bff6
set_option linter.unusedVariables false
set_option linter.unusedSimpArgs false
namespace Go.Proofs.Ytmkkeglcjbogcaa
open Go.RowKit
set_option linter.unusedVariables false
set_option linter.unusedSimpArgs false

set_option maxHeartbeats 1000000 in
theorem rframe_any (idx sub first n : Int) (w : World) (hi : 0 ≤ idx ∧ idx ≤ 65535) (hn : 0 ≤ n ∧ n ≤ 4294967295) :
    Calls Try.prog 94 #[.int .u8 first, .int .u16 idx, .int .u8 sub, .int .u32 n] w fun e w' => e = .returned (fr8 first idx sub n).v ∧ Frm (fun _ => False) w w' := by
  obtain ⟨hi0, hi1⟩ := hi
  obtain ⟨hn0, hn1⟩ := hn
  have q1 : IntKind.u16.wrap (idx.tdiv 256) = idx / 256 := by rw [Int.tdiv_eq_ediv_of_nonneg hi0]; exact IntWalk.u16_in _ (by omega)
  have q2 : idx / 256 % 256 = idx / 256 := by omega
  go_enter Try.func94, Try.ntmps94
  go_wp2
  exact bodyPost_ret (ret_f8 rfl _ _ w.heap.size (fr8 first idx sub n).c rfl rfl (by (apply heap_fin; (case h => (repeat (first | (with_reducible exact heap_new_at (by simp)) | (with_reducible apply heap_alloc_old) | (with_reducible apply heap_drewN') | (with_reducible apply heap_drew') | (with_reducible apply heap_set_same) | (with_reducible refine heap_set_other ?_ (by simp only []; omega)) | (with_reducible exact heap_new_at (by simp))))); (case e => rfl)))) rfl ⟨rfl, by (repeat' (first | (with_reducible exact Frm.refl _ _) | (with_reducible assumption) | (with_reducible refine Frm.alloc ?_ _) | (with_reducible refine Frm.drew ?_) | (with_reducible refine Frm.drewN ?_ _) | (with_reducible refine Frm.set1 ?_ _) | (with_reducible refine Frm.setCell ?_ ?_ _) | (exact fun h => absurd h (Nat.lt_irrefl _)) | (intro hlt; simp [World.size_alloc, One] at hlt ⊢; omega)))⟩
def rzero : Array Value := #[.int .i64 0, .int .u16 0, .int .u8 0, .slice none 0 0, .int .u8 0, .bool false, .int .i64 0, .slice none 0 0, .int .u32 0, .bool false]
/-- Some frame and a number, or a bool; nothing but the document's client is written. -/
def RAny (d : Nat) (w : World) (e : Ending) (w' : World) : Prop := (∃ (f : F8) (x : Int), e = .returned (.tuple #[f.v, .int .i64 x])) ∧ Frm (One d) w w'
set_option maxRecDepth 100000 in
set_option maxHeartbeats 1000000 in
theorem rcread_any (d : Nat) (i q : Int) (w : World) (hd : w.heap[d]? = some (.cells rzero 72 (0, 0))) (hi : 0 ≤ i ∧ i ≤ 65535) : Calls Try.prog 68 #[ptr d, .int .u16 i, .int .u8 q] w (RAny d w) := by
  have k0 : w.cell? ⟨d, 0, none⟩ = some (.int .i64 0) := cell_at hd
  have k1 : w.cell? ⟨d, 1, none⟩ = some (.int .u16 0) := cell_at hd
  have k2 : w.cell? ⟨d, 2, none⟩ = some (.int .u8 0) := cell_at hd
  have k3 : w.cell? ⟨d, 3, none⟩ = some (.slice none 0 0) := cell_at hd
  have k4 : w.cell? ⟨d, 4, none⟩ = some (.int .u8 0) := cell_at hd
  have k5 : w.cell? ⟨d, 5, none⟩ = some (.bool false) := cell_at hd
  have k6 : w.cell? ⟨d, 6, none⟩ = some (.int .i64 0) := cell_at hd
  have k7 : w.cell? ⟨d, 7, none⟩ = some (.slice none 0 0) := cell_at hd
  have k8 : w.cell? ⟨d, 8, none⟩ = some (.int .u32 0) := cell_at hd
  have k9 : w.cell? ⟨d, 9, none⟩ = some (.bool false) := cell_at hd
  have kf := frees hd
  have hdl := lt_of_block hd
  have HFR := Lib.hid (fun W => rframe_any i q 64 0 W hi (by decide))
  generalize fr8 64 i q 0 = f at *
  unfold ptr F8.v at *
  clear hd hi
  go_enter Try.func68, Try.ntmps68
  go_wp2_with (first | (go_at_call 94; (with_reducible refine (HFR.out _).mono ?_); rintro e w1 ⟨rfl, hF1⟩; have HR1 : Hid (w1.heap[w.heap.size]? = some (.cells #[.int .u8 0, .int .u8 0, .int .u8 0, .int .u8 0, .int .u8 0, .int .u8 0, .int .u8 0, .int .u8 0] 73 (0, 0))) := hF1.heap (by (apply heap_fin; (case h => (repeat (first | (with_reducible exact heap_new_at (by simp)) | (with_reducible apply heap_alloc_old) | (with_reducible apply heap_drewN') | (with_reducible apply heap_drew') | (with_reducible apply heap_set_same) | (with_reducible refine heap_set_other ?_ (by simp only []; omega)) | (with_reducible exact heap_new_at (by simp))))); (case e => rfl))) (fun h => h); have HF1 := Lib.hid hF1; clear hF1) | (refine wpl_store_whole rfl 73 (.tmp 6) (.tmp 48) rfl w.heap.size f.c rfl rfl 73 _ HR1.out info_f8 rfl (F8.one _) ?_; intro wz hwz hFz; have HW2 := Lib.hid hwz; have HF2 := Lib.hid hFz; clear hwz hFz))
  refine bodyPost_ret (ret_f8b rfl _ _ w.heap.size f.c rfl rfl HW2.out) rfl ⟨⟨f, 0, rfl⟩, ?_⟩
  refine Frm.trans (b := w1) ?_ HF2.out (fun i hi h => by simp only [One] at h; omega)
  refine Frm.trans (b := _) ?_ HF1.out (fun i hi h => h.elim)
  (repeat' (first | (with_reducible exact Frm.refl _ _) | (with_reducible assumption) | (with_reducible refine Frm.alloc ?_ _) | (with_reducible refine Frm.drew ?_) | (with_reducible refine Frm.drewN ?_ _) | (with_reducible refine Frm.set1 ?_ _) | (with_reducible refine Frm.setCell ?_ ?_ _) | (exact fun h => absurd h (Nat.lt_irrefl _)) | (intro hlt; simp [World.size_alloc, One] at hlt ⊢; omega)))
def RFd (d : Nat) (w : World) (e : Ending) (w' : World) : Prop := e = .returned (.tuple #[F8.zero.v, .bool false]) ∧ Frm (One d) w w'
set_option maxRecDepth 100000 in
set_option maxHeartbeats 1000000 in
theorem rcfeed_any (d : Nat) (f : F8) (w : World) (hd : w.heap[d]? = some (.cells rzero 72 (0, 0))) : Calls Try.prog 70 #[ptr d, f.v] w (RFd d w) := by
  have HD := Lib.hid hd
  unfold ptr F8.v
  clear hd
  go_enter Try.func70, Try.ntmps70
  go_upto_region 1 with fail
  have hbx : ((w.alloc (.cells f.c 73 (0, 0))).alloc (.cells #[.int .u8 0, .int .u8 0, .int .u8 0, .int .u8 0, .int .u8 0, .int .u8 0, .int .u8 0, .int .u8 0] 73 (0, 0))).heap[w.heap.size]? = some (.cells f.c 73 (0, 0)) := heap_alloc_old (heap_new w _)
  have hrt : ((w.alloc (.cells f.c 73 (0, 0))).alloc (.cells #[.int .u8 0, .int .u8 0, .int .u8 0, .int .u8 0, .int .u8 0, .int .u8 0, .int .u8 0, .int .u8 0] 73 (0, 0))).heap[w.heap.size + 1]? = some (.cells #[.int .u8 0, .int .u8 0, .int .u8 0, .int .u8 0, .int .u8 0, .int .u8 0, .int .u8 0, .int .u8 0] 73 (0, 0)) := heap_new_at (by simp)
  have hfb : Frm (fun _ => False) w ((w.alloc (.cells f.c 73 (0, 0))).alloc (.cells #[.int .u8 0, .int .u8 0, .int .u8 0, .int .u8 0, .int .u8 0, .int .u8 0, .int .u8 0, .int .u8 0] 73 (0, 0))) := by (repeat' (first | (with_reducible exact Frm.refl _ _) | (with_reducible assumption) | (with_reducible refine Frm.alloc ?_ _) | (with_reducible refine Frm.drew ?_) | (with_reducible refine Frm.drewN ?_ _) | (with_reducible refine Frm.set1 ?_ _) | (with_reducible refine Frm.setCell ?_ ?_ _) | (exact fun h => absurd h (Nat.lt_irrefl _)) | (intro hlt; simp [World.size_alloc, One] at hlt ⊢; omega)))
  obtain ⟨wb, hwb⟩ : ∃ wb, wb = (w.alloc (.cells f.c 73 (0, 0))).alloc (.cells #[.int .u8 0, .int .u8 0, .int .u8 0, .int .u8 0, .int .u8 0, .int .u8 0, .int .u8 0, .int .u8 0] 73 (0, 0)) := ⟨_, rfl⟩
  rw [← hwb] at hbx hrt hfb ⊢
  have HBX := Lib.hid hbx
  have HRT := Lib.hid hrt
  have HFB := Lib.hid hfb
  have hwbs := lt_of_block hrt
  clear hbx hrt hfb hwb
  have kc0 : wb.cell? ⟨d, 0, none⟩ = some (.int .i64 0) := cell_at (HFB.out.heap HD.out (fun h => h))
  go_wp2_with (refine wpl_store_whole rfl 73 (.tmp 4) (.tmp 14) rfl (w.heap.size + 1) F8.zero.c rfl rfl 73 _ HRT.out info_f8 rfl (F8.one _) ?_; intro wz hwz hFz; have HW2 := Lib.hid hwz; have HF2 := Lib.hid hFz; clear hwz hFz)
  exact bodyPost_ret (ret_f8b rfl _ _ (w.heap.size + 1) F8.zero.c rfl rfl HW2.out) rfl ⟨rfl, (HFB.out.mono (fun _ _ h => h.elim)).trans HF2.out (fun i hi h => by simp only [One] at h; omega)⟩
def RTk (d : Nat) (w : World) (e : Ending) (w' : World) : Prop := e = .returned (.tuple #[.slice none 0 0, .int .u32 0, .bool false]) ∧ Frm (One d) w w'
set_option maxRecDepth 100000 in
set_option maxHeartbeats 1000000 in
theorem rctake_any (d : Nat) (w : World) (hd : w.heap[d]? = some (.cells rzero 72 (0, 0))) : Calls Try.prog 72 #[ptr d] w (RTk d w) := by
  have k7 : w.cell? ⟨d, 7, none⟩ = some (.slice none 0 0) := cell_at hd
  have k8 : w.cell? ⟨d, 8, none⟩ = some (.int .u32 0) := cell_at hd
  have k9 : w.cell? ⟨d, 9, none⟩ = some (.bool false) := cell_at hd
  have kf := frees hd
  unfold ptr
  clear hd
  go_enter Try.func72, Try.ntmps72
  go_wp2
  go_quiet (fail)
  go_wp2
  go_ret3
  exact ⟨rfl, by (repeat' (first | (with_reducible exact Frm.refl _ _) | (with_reducible assumption) | (with_reducible refine Frm.alloc ?_ _) | (with_reducible refine Frm.drew ?_) | (with_reducible refine Frm.drewN ?_ _) | (with_reducible refine Frm.set1 ?_ _) | (with_reducible refine Frm.setCell ?_ ?_ _) | (exact fun h => absurd h (Nat.lt_irrefl _)) | (intro hlt; simp [World.size_alloc, One] at hlt ⊢; omega)))⟩
theorem store10 {w : World} {d : Nat} {t : TypeId} {x0 x1 x2 x3 x4 x5 x6 x7 x8 x9 c0 c1 c2 c3 c4 c5 c6 c7 c8 c9 : Value} (h : w.heap[d]? = some (.cells #[x0, x1, x2, x3, x4, x5, x6, x7, x8, x9] t (0, 0))) : ((((((((((w.setCell ⟨d, 0, none⟩ c0).setCell ⟨d, 1, none⟩ c1).setCell ⟨d, 2, none⟩ c2).setCell ⟨d, 3, none⟩ c3).setCell ⟨d, 4, none⟩ c4).setCell ⟨d, 5, none⟩ c5).setCell ⟨d, 6, none⟩ c6).setCell ⟨d, 7, none⟩ c7).setCell ⟨d, 8, none⟩ c8).setCell ⟨d, 9, none⟩ c9).heap[d]? = some (.cells #[c0, c1, c2, c3, c4, c5, c6, c7, c8, c9] t (0, 0)) := by
  have h0 := heap_set_at (o := 0) (v := c0) (ds := #[c0, x1, x2, x3, x4, x5, x6, x7, x8, x9]) h rfl
  have h1 := heap_set_at (o := 1) (v := c1) (ds := #[c0, c1, x2, x3, x4, x5, x6, x7, x8, x9]) h0 rfl
  have h2 := heap_set_at (o := 2) (v := c2) (ds := #[c0, c1, c2, x3, x4, x5, x6, x7, x8, x9]) h1 rfl
  have h3 := heap_set_at (o := 3) (v := c3) (ds := #[c0, c1, c2, c3, x4, x5, x6, x7, x8, x9]) h2 rfl
  have h4 := heap_set_at (o := 4) (v := c4) (ds := #[c0, c1, c2, c3, c4, x5, x6, x7, x8, x9]) h3 rfl
  have h5 := heap_set_at (o := 5) (v := c5) (ds := #[c0, c1, c2, c3, c4, c5, x6, x7, x8, x9]) h4 rfl
  have h6 := heap_set_at (o := 6) (v := c6) (ds := #[c0, c1, c2, c3, c4, c5, c6, x7, x8, x9]) h5 rfl
  have h7 := heap_set_at (o := 7) (v := c7) (ds := #[c0, c1, c2, c3, c4, c5, c6, c7, x8, x9]) h6 rfl
  have h8 := heap_set_at (o := 8) (v := c8) (ds := #[c0, c1, c2, c3, c4, c5, c6, c7, c8, x9]) h7 rfl
  have h9 := heap_set_at (o := 9) (v := c9) (ds := #[c0, c1, c2, c3, c4, c5, c6, c7, c8, c9]) h8 rfl
  exact h9
theorem store10o {w : World} {d g : Nat} {o : Option Obj} {c0 c1 c2 c3 c4 c5 c6 c7 c8 c9 : Value} (hg : g ≠ d) (h : w.heap[g]? = o) : ((((((((((w.setCell ⟨d, 0, none⟩ c0).setCell ⟨d, 1, none⟩ c1).setCell ⟨d, 2, none⟩ c2).setCell ⟨d, 3, none⟩ c3).setCell ⟨d, 4, none⟩ c4).setCell ⟨d, 5, none⟩ c5).setCell ⟨d, 6, none⟩ c6).setCell ⟨d, 7, none⟩ c7).setCell ⟨d, 8, none⟩ c8).setCell ⟨d, 9, none⟩ c9).heap[g]? = o := by
  iterate 10 (refine heap_set_other ?_ hg)
  exact h
def RWc (d : Nat) (w wx : World) : Prop := wx.heap[w.heap.size]? = some (.cells #[.int .u8 0, .int .u8 0, .int .u8 0, .int .u8 0, .int .u8 0, .int .u8 0, .int .u8 0, .int .u8 0] 73 (0, 0)) ∧ wx.cell? ⟨d, 0, none⟩ = some (.int .i64 2) ∧ (∀ o, wx.frozen? ⟨d, o, none⟩ = false) ∧ Frm (One d) w wx ∧ d < wx.heap.size
set_option maxRecDepth 100000 in
set_option maxHeartbeats 2000000 in
theorem rcwrite_any (d : Nat) (i q : Int) (v : Value) (bs : List UInt8) (w : World) (hd : w.heap[d]? = some (.cells rzero 72 (0, 0))) (hi : 0 ≤ i ∧ i ≤ 65535) (hv : BytesAt w v bs) (hvd : 0 < bs.length → ∀ k, v.ownBlock = some k → k ≠ d) : Calls Try.prog 66 #[ptr d, .int .u16 i, .int .u8 q, v] w (RAny d w) := by
  have k0 : w.cell? ⟨d, 0, none⟩ = some (.int .i64 0) := cell_at hd
  have k1 : w.cell? ⟨d, 1, none⟩ = some (.int .u16 0) := cell_at hd
  have k2 : w.cell? ⟨d, 2, none⟩ = some (.int .u8 0) := cell_at hd
  have k3 : w.cell? ⟨d, 3, none⟩ = some (.slice none 0 0) := cell_at hd
  have k4 : w.cell? ⟨d, 4, none⟩ = some (.int .u8 0) := cell_at hd
  have k5 : w.cell? ⟨d, 5, none⟩ = some (.bool false) := cell_at hd
  have k6 : w.cell? ⟨d, 6, none⟩ = some (.int .i64 0) := cell_at hd
  have k7 : w.cell? ⟨d, 7, none⟩ = some (.slice none 0 0) := cell_at hd
  have k8 : w.cell? ⟨d, 8, none⟩ = some (.int .u32 0) := cell_at hd
  have k9 : w.cell? ⟨d, 9, none⟩ = some (.bool false) := cell_at hd
  have kf := frees hd
  have hdl := lt_of_block hd
  have HD := Lib.hid hd
  have HV := Lib.hid hv
  have HVD := Lib.hid hvd
  obtain ⟨Av, cv, rfl, hv1, hv2, hnv⟩ := hv.open_
  have HN := Lib.hid hnv
  have hm : bs.length ≤ 9223372036854775807 := Nat.le_trans hv1 hv2
  clear hd hvd hv hv1 hv2 hnv
  by_cases hbig : 65536 < bs.length
  · unfold ptr
    clear hi
    go_enter Try.func66, Try.ntmps66
    go_wp2
    exact bodyPost_ret (ret_f8b rfl _ _ w.heap.size F8.zero.c rfl rfl (by (apply heap_fin; (case h => (repeat (first | (with_reducible exact heap_new_at (by simp)) | (with_reducible apply heap_alloc_old) | (with_reducible apply heap_drewN') | (with_reducible apply heap_drew') | (with_reducible apply heap_set_same) | (with_reducible refine heap_set_other ?_ (by simp only []; omega)) | (with_reducible exact heap_new_at (by simp))))); (case e => rfl)))) rfl ⟨⟨F8.zero, 2, rfl⟩, by (repeat' (first | (with_reducible exact Frm.refl _ _) | (with_reducible assumption) | (with_reducible refine Frm.alloc ?_ _) | (with_reducible refine Frm.drew ?_) | (with_reducible refine Frm.drewN ?_ _) | (with_reducible refine Frm.set1 ?_ _) | (with_reducible refine Frm.setCell ?_ ?_ _) | (exact fun h => absurd h (Nat.lt_irrefl _)) | (intro hlt; simp [World.size_alloc, One] at hlt ⊢; omega)))⟩
  · have hsm : bs.length ≤ 65536 := by omega
    have hm3 : bs.length ≤ maxLen := by unfold maxLen; omega
    have hm4 : bs.length * 1 ≤ 140737488355328 := by omega
    have HONEB := Lib.hid (oneB bs)
    have HLEN : Hid ((bs.map encB).length = bs.length * 1) := by unfold Hid; simp
    unfold ptr
    clear hbig
    go_enter Try.func66, Try.ntmps66
    go_upto_region 5 with fail
    have hrt : (w.alloc (.cells #[.int .u8 0, .int .u8 0, .int .u8 0, .int .u8 0, .int .u8 0, .int .u8 0, .int .u8 0, .int .u8 0] 73 (0, 0))).heap[w.heap.size]? = some (.cells #[.int .u8 0, .int .u8 0, .int .u8 0, .int .u8 0, .int .u8 0, .int .u8 0, .int .u8 0, .int .u8 0] 73 (0, 0)) := heap_new w _
    have hfa : Frm (fun _ => False) w (w.alloc (.cells #[.int .u8 0, .int .u8 0, .int .u8 0, .int .u8 0, .int .u8 0, .int .u8 0, .int .u8 0, .int .u8 0] 73 (0, 0))) := by (repeat' (first | (with_reducible exact Frm.refl _ _) | (with_reducible assumption) | (with_reducible refine Frm.alloc ?_ _) | (with_reducible refine Frm.drew ?_) | (with_reducible refine Frm.drewN ?_ _) | (with_reducible refine Frm.set1 ?_ _) | (with_reducible refine Frm.setCell ?_ ?_ _) | (exact fun h => absurd h (Nat.lt_irrefl _)) | (intro hlt; simp [World.size_alloc, One] at hlt ⊢; omega)))
    obtain ⟨wa, hwa⟩ : ∃ wa, wa = w.alloc (.cells #[.int .u8 0, .int .u8 0, .int .u8 0, .int .u8 0, .int .u8 0, .int .u8 0, .int .u8 0, .int .u8 0] 73 (0, 0)) := ⟨_, rfl⟩
    rw [← hwa] at hrt hfa ⊢
    have HRT := Lib.hid hrt
    have HFA := Lib.hid hfa
    have hwas := lt_of_block hrt
    have HEMP := Lib.hid (empty_row wa 5 1 0 (Nat.zero_le _))
    clear hwa hrt hfa k0 k1 k2 k3 k4 k5 k6 k7 k8 k9 kf
    have HU := Lib.hid (show IntKind.u32.wrap (bs.length : Int) = (bs.length : Int) from IntWalk.u32_in _ (by omega))
    have HFR1 := Lib.hid (fun (n : Int) (hn : 0 ≤ n ∧ n ≤ 4294967295) W => rframe_any i q 33 n W hi hn)
    have HFR2 := Lib.hid (fun (x : Int) W => rframe_any i q x 0 W hi (by decide))
    unfold F8.v at *
    clear hi
    go_cut [] (fun wx => RWc d w wx)
    case first =>
      go_wp2_with (at_builtin; refine wpl_clone rfl el_u8 _ _ rfl rfl rfl (B := 0) (news := bs.map encB) (Frm.row (S := fun _ => False) (by (repeat' (first | (with_reducible exact Frm.refl _ _) | (with_reducible assumption) | (with_reducible refine Frm.alloc ?_ _) | (with_reducible refine Frm.drew ?_) | (with_reducible refine Frm.drewN ?_ _) | (with_reducible refine Frm.set1 ?_ _) | (with_reducible refine Frm.setCell ?_ ?_ _) | (exact fun h => absurd h (Nat.lt_irrefl _)) | (intro hlt; simp [World.size_alloc, One] at hlt ⊢; omega)))) HEMP.out (fun _ _ h => h)) HLEN.out (fun h0 => (HN.out h0).grow (HFA.out.trans' (by (repeat' (first | (with_reducible exact Frm.refl _ _) | (with_reducible assumption) | (with_reducible refine Frm.alloc ?_ _) | (with_reducible refine Frm.drew ?_) | (with_reducible refine Frm.drewN ?_ _) | (with_reducible refine Frm.set1 ?_ _) | (with_reducible refine Frm.setCell ?_ ?_ _) | (exact fun h => absurd h (Nat.lt_irrefl _)) | (intro hlt; simp [World.size_alloc, One] at hlt ⊢; omega)))))) HONEB.out hm3 hm4 (Nat.zero_le _) ?_; intro A3 cap3 w3 hown3 hfr3; have hfr4 : Frm (fun k => k = wa.heap.size) wa w3 := (((Frm.refl _ _).alloc _).trans hfr3 (fun i hi h => by cases h; exact absurd hi (Nat.lt_irrefl _))); have hd3 := hfr4.heap (HFA.out.heap HD.out (fun h => h)) (fun h => by have h : d = wa.heap.size := h; omega); have hr3 := hfr4.heap HRT.out (fun h => by have h : w.heap.size = wa.heap.size := h; omega); have k0 : w3.cell? ⟨d, 0, none⟩ = some (.int .i64 0) := cell_at hd3; have k1 : w3.cell? ⟨d, 1, none⟩ = some (.int .u16 0) := cell_at hd3; have k2 : w3.cell? ⟨d, 2, none⟩ = some (.int .u8 0) := cell_at hd3; have k3 : w3.cell? ⟨d, 3, none⟩ = some (.slice none 0 0) := cell_at hd3; have k4 : w3.cell? ⟨d, 4, none⟩ = some (.int .u8 0) := cell_at hd3; have k5 : w3.cell? ⟨d, 5, none⟩ = some (.bool false) := cell_at hd3; have k6 : w3.cell? ⟨d, 6, none⟩ = some (.int .i64 0) := cell_at hd3; have k7 : w3.cell? ⟨d, 7, none⟩ = some (.slice none 0 0) := cell_at hd3; have k8 : w3.cell? ⟨d, 8, none⟩ = some (.int .u32 0) := cell_at hd3; have k9 : w3.cell? ⟨d, 9, none⟩ = some (.bool false) := cell_at hd3; have kf := frees hd3; have HR3 := Lib.hid hr3; have HF3 := Lib.hid (HFA.out.trans hfr4 (fun i hi h => by have h : i = wa.heap.size := h; have := HFA.out.size; omega) : Frm (fun _ => False) w w3); clear hown3 hfr3 hfr4 hr3)
      go_meet
      have hF3 : Frm (One d) w w3 := HF3.out.mono (fun _ _ h => h.elim)
      have hcs : ∀ wx : World, wx.heap[d]? = some (.cells #[.int .i64 2, .int .u16 i, .int .u8 q, .slice A3 bs.length cap3, .int .u8 0, .bool false, .int .i64 (-1), .slice none 0 0, .int .u32 0, .bool false] 72 (0, 0)) → wx.heap[w.heap.size]? = some (.cells #[.int .u8 0, .int .u8 0, .int .u8 0, .int .u8 0, .int .u8 0, .int .u8 0, .int .u8 0, .int .u8 0] 73 (0, 0)) → Frm (One d) w wx → RWc d w wx := fun wx h1 h2 h3 => ⟨h2, cell_at h1, frees h1, h3, lt_of_block h1⟩
      clear k0 k1 k2 k3 k4 k5 k6 k7 k8 k9 kf
      refine hcs _ ?_ ?_ ?_
      · exact store10 hd3
      · exact store10o (by omega) HR3.out
      · repeat' (first | (with_reducible exact hF3) | (with_reducible refine Frm.set1 ?_ _))
    case rest =>
    obtain ⟨hrc, kc0, kcf, hFc, hdc⟩ := hcut
    have HR3 := Lib.hid hrc
    have HF3 := Lib.hid hFc
    clear hrc hFc
    have hu := HU.out
    by_cases hb1 : bs = []
    · subst hb1
      have HFR := Lib.hid (HFR1.out 0 (by decide))
      generalize fr8 33 i q 0 = f at *
      go_wp2_with (first | (go_at_call 94; (with_reducible refine (HFR.out _).mono ?_); rintro e w4 ⟨rfl, hF4⟩; have HR4 : Hid (w4.heap[w.heap.size]? = some (.cells #[.int .u8 0, .int .u8 0, .int .u8 0, .int .u8 0, .int .u8 0, .int .u8 0, .int .u8 0, .int .u8 0] 73 (0, 0))) := hF4.heap HR3.out (fun h => h); have HF4 := Lib.hid hF4; clear hF4) | (refine wpl_store_whole rfl 73 (.tmp 8) (.tmp 70) rfl w.heap.size f.c rfl rfl 73 _ HR4.out info_f8 rfl (F8.one _) ?_; intro wz hwz hFz; have HW5 := Lib.hid hwz; have HF5 := Lib.hid hFz; clear hwz hFz))
      refine bodyPost_ret (ret_f8b rfl _ _ w.heap.size f.c rfl rfl HW5.out) rfl ⟨⟨f, 0, rfl⟩, ?_⟩
      refine Frm.trans (b := w4) ?_ HF5.out (fun i hi h => by simp only [One] at h; omega)
      exact HF3.out.trans HF4.out (fun i hi h => h.elim)
    · have hz0 : ((bs.length : Int) == 0) = false := by
        have h0 : bs.length ≠ 0 := fun h => hb1 (List.eq_nil_of_length_eq_zero h)
        rw [beq_eq_false_iff_ne]
        omega
      by_cases hb2 : 4 < (bs.length : Int)
      · have HFR := Lib.hid (HFR1.out bs.length (by omega))
        generalize fr8 33 i q bs.length = f at *
        go_wp2_with (first | (go_at_call 94; (with_reducible refine (HFR.out _).mono ?_); rintro e w4 ⟨rfl, hF4⟩; have HR4 : Hid (w4.heap[w.heap.size]? = some (.cells #[.int .u8 0, .int .u8 0, .int .u8 0, .int .u8 0, .int .u8 0, .int .u8 0, .int .u8 0, .int .u8 0] 73 (0, 0))) := hF4.heap HR3.out (fun h => h); have HF4 := Lib.hid hF4; clear hF4) | (refine wpl_store_whole rfl 73 (.tmp 8) (.tmp 70) rfl w.heap.size f.c rfl rfl 73 _ HR4.out info_f8 rfl (F8.one _) ?_; intro wz hwz hFz; have HW5 := Lib.hid hwz; have HF5 := Lib.hid hFz; clear hwz hFz))
        refine bodyPost_ret (ret_f8b rfl _ _ w.heap.size f.c rfl rfl HW5.out) rfl ⟨⟨f, 0, rfl⟩, ?_⟩
        refine Frm.trans (b := w4) ?_ HF5.out (fun i hi h => by simp only [One] at h; omega)
        exact HF3.out.trans HF4.out (fun i hi h => h.elim)
      · have hn4 : bs.length ≤ 4 := by omega
        have HN4 := Lib.hid hn4
        have HFR := Lib.hid (HFR2.out (35 + 4 * (4 - (bs.length : Int))))
        generalize fr8 (35 + 4 * (4 - (bs.length : Int))) i q 0 = f at *
        have HFD0 : Hid (Frm (One d) w (wc.setCell ⟨d, 0, none⟩ (.int .i64 1))) := HF3.out.set1 _
        have HRD : Hid ((wc.setCell ⟨d, 0, none⟩ (.int .i64 1)).heap[w.heap.size]? = some (.cells #[.int .u8 0, .int .u8 0, .int .u8 0, .int .u8 0, .int .u8 0, .int .u8 0, .int .u8 0, .int .u8 0] 73 (0, 0))) := heap_set_other HR3.out (by show w.heap.size ≠ d; omega)
        have HCV := Lib.hid (bytes_cell HV.out)
        clear hn4
        go_wp2_with fail
        refine (HFR.out _).mono ?_
        rintro e w4 ⟨rfl, hF4⟩
        have HR4 := Lib.hid (hF4.heap HRD.out (fun h => h))
        have hs4 := hF4.size
        have HF4 := Lib.hid (HFD0.out.trans hF4 (fun i hi h => h.elim))
        clear hF4
        go_wp2_with (refine wpl_store_whole rfl 73 (.tmp 10) (.tmp 82) rfl w4.heap.size f.c rfl rfl 73 _ (heap_new w4 _) info_f8 rfl (F8.one _) ?_; intro wz hwz hFz; have HW5 := Lib.hid hwz; have HF5 := Lib.hid hFz; clear hwz hFz)
        have hr5 := HF5.out.heap (heap_alloc_old HR4.out) (by have := lt_of_block HR4.out; simp only [One]; omega)
        have hF5 : Frm (One d) w wz := (HF4.out.alloc _).trans HF5.out (fun i hi h => by have := HF4.out.size; simp only [One] at h; omega)
        have HR5 := Lib.hid hr5
        have HFZ := Lib.hid hF5
        have hgz := lt_of_block HW5.out
        have hg4 := HF4.out.size
        have hrl := lt_of_block HR4.out
        clear hr5 hF5 kc0 kcf
        obtain ⟨g, hg⟩ : ∃ g, g = w4.heap.size := ⟨_, rfl⟩
        rw [← hg] at HW5 hgz hg4 hrl ⊢
        clear HF5 hg
        go_loopw [11] (fun iv wr => ∃ (k : Nat) (f2 : F8), k ≤ bs.length ∧ iv = .int .i64 k ∧ wr.heap[g]? = some (.cells f2.c 73 (0, 0)) ∧ Frm (One g) wz wr) (fun iv _ => bs.length - (intOf iv).toNat)
        case atStart => exact ⟨0, f, Nat.zero_le _, rfl, HW5.out, Frm.refl _ _⟩
        case round =>
          obtain ⟨k, f2, hk, rfl, hcf, hFr⟩ := hrel
          have HFr := Lib.hid hFr
          by_cases hlt : k < bs.length
          · obtain ⟨A', cap', e', _, _, hcell⟩ := HCV.out
            simp only [Value.slice.injEq] at e'
            obtain ⟨rfl, -, rfl⟩ := e'
            obtain ⟨gv, ov, rfl, hcb⟩ := hcell (by omega)
            have hgv := HVD.out (by omega) gv rfl
            have hcw0 : w.cell? ⟨gv, ov + k, none⟩ = some (.int .u8 (bs[k].toNat : Int)) := hcb k hlt
            have hgvl := World.block_lt_of_cell? w _ hcw0
            have hcw : wr.cell? ⟨gv, ov + k, none⟩ = some (.int .u8 (bs[k].toNat : Int)) := HFr.out.cell (HFZ.out.cell hcw0 (fun h => hgv h)) (fun h => by have h : gv = g := h; simp only at hgvl; omega)
            have HKL : Hid (k + 1 ≤ bs.length) := hlt
            have hb := bs[k].toNat_lt
            generalize (bs[k].toNat : Int) = b at *
            have kf := frees hcf
            have hkk : k = 0 ∨ k = 1 ∨ k = 2 ∨ k = 3 := by have := HN4.out; omega
            have hkl : (k : Int) < (bs.length : Int) := by omega
            have HCF := Lib.hid hcf
            have HE : Hid (∃ x : Nat, x = k) := ⟨_, rfl⟩
            clear hcb hcell hcw0 hFr
            rcases hkk with rfl | rfl | rfl | rfl
            · have kt : wr.cell? ⟨g, 4, none⟩ = some (.int .u8 f2.a4) := cell_at hcf
              rw [Nat.add_zero] at hcw
              clear hcf
              go_wp2_with fail
              go_roundw
              case rel =>
                refine ⟨1, ⟨f2.a0, f2.a1, f2.a2, f2.a3, b, f2.a5, f2.a6, f2.a7⟩, HKL.out, by go_num, ?_, ?_⟩
                · show _ = some (Obj.cells #[.int .u8 f2.a0, .int .u8 f2.a1, .int .u8 f2.a2, .int .u8 f2.a3, .int .u8 b, .int .u8 f2.a5, .int .u8 f2.a6, .int .u8 f2.a7] 73 (0, 0))
                  (apply heap_fin; (case h => (repeat (first | (with_reducible exact HCF.out) | (with_reducible apply heap_alloc_old) | (with_reducible apply heap_drewN') | (with_reducible apply heap_drew') | (with_reducible apply heap_set_same) | (with_reducible refine heap_set_other ?_ (by simp only []; omega)) | (with_reducible exact heap_new_at (by simp))))); (case e => rfl))
                · exact (HFr.out).set1 _
              case measure => have := HKL.out; simp [intOf]; omega
            · have kt : wr.cell? ⟨g, 5, none⟩ = some (.int .u8 f2.a5) := cell_at hcf
              clear hcf
              go_wp2_with fail
              go_roundw
              case rel =>
                refine ⟨2, ⟨f2.a0, f2.a1, f2.a2, f2.a3, f2.a4, b, f2.a6, f2.a7⟩, HKL.out, by go_num, ?_, ?_⟩
                · show _ = some (Obj.cells #[.int .u8 f2.a0, .int .u8 f2.a1, .int .u8 f2.a2, .int .u8 f2.a3, .int .u8 f2.a4, .int .u8 b, .int .u8 f2.a6, .int .u8 f2.a7] 73 (0, 0))
                  (apply heap_fin; (case h => (repeat (first | (with_reducible exact HCF.out) | (with_reducible apply heap_alloc_old) | (with_reducible apply heap_drewN') | (with_reducible apply heap_drew') | (with_reducible apply heap_set_same) | (with_reducible refine heap_set_other ?_ (by simp only []; omega)) | (with_reducible exact heap_new_at (by simp))))); (case e => rfl))
                · exact (HFr.out).set1 _
              case measure => have := HKL.out; simp [intOf]; omega
            · have kt : wr.cell? ⟨g, 6, none⟩ = some (.int .u8 f2.a6) := cell_at hcf
              clear hcf
              go_wp2_with fail
              go_roundw
              case rel =>
                refine ⟨3, ⟨f2.a0, f2.a1, f2.a2, f2.a3, f2.a4, f2.a5, b, f2.a7⟩, HKL.out, by go_num, ?_, ?_⟩
                · show _ = some (Obj.cells #[.int .u8 f2.a0, .int .u8 f2.a1, .int .u8 f2.a2, .int .u8 f2.a3, .int .u8 f2.a4, .int .u8 f2.a5, .int .u8 b, .int .u8 f2.a7] 73 (0, 0))
                  (apply heap_fin; (case h => (repeat (first | (with_reducible exact HCF.out) | (with_reducible apply heap_alloc_old) | (with_reducible apply heap_drewN') | (with_reducible apply heap_drew') | (with_reducible apply heap_set_same) | (with_reducible refine heap_set_other ?_ (by simp only []; omega)) | (with_reducible exact heap_new_at (by simp))))); (case e => rfl))
                · exact (HFr.out).set1 _
              case measure => have := HKL.out; simp [intOf]; omega
            · have kt : wr.cell? ⟨g, 7, none⟩ = some (.int .u8 f2.a7) := cell_at hcf
              clear hcf
              go_wp2_with fail
              go_roundw
              case rel =>
                refine ⟨4, ⟨f2.a0, f2.a1, f2.a2, f2.a3, f2.a4, f2.a5, f2.a6, b⟩, HKL.out, by go_num, ?_, ?_⟩
                · show _ = some (Obj.cells #[.int .u8 f2.a0, .int .u8 f2.a1, .int .u8 f2.a2, .int .u8 f2.a3, .int .u8 f2.a4, .int .u8 f2.a5, .int .u8 f2.a6, .int .u8 b] 73 (0, 0))
                  (apply heap_fin; (case h => (repeat (first | (with_reducible exact HCF.out) | (with_reducible apply heap_alloc_old) | (with_reducible apply heap_drewN') | (with_reducible apply heap_drew') | (with_reducible apply heap_set_same) | (with_reducible refine heap_set_other ?_ (by simp only []; omega)) | (with_reducible exact heap_new_at (by simp))))); (case e => rfl))
                · exact (HFr.out).set1 _
              case measure => have := HKL.out; simp [intOf]; omega
          · have hkn : k = bs.length := by omega
            subst hkn
            have HCF := Lib.hid hcf
            have HR6 := Lib.hid (hFr.heap HR5.out (by simp only [One]; omega))
            clear hcf hFr
            go_wp2_with (first | (refine wpList_load_row rfl 73 (.tmp 10) rfl g rfl 73 f2.c (0, 0) _ HCF.out Try.underlying73 rfl (by first | exact info_f8 | (rw [F8.size]; exact info_f8)) ?_) | (refine wpl_store_whole rfl 73 (.tmp 8) (.tmp 96) rfl w.heap.size f2.c rfl rfl 73 _ HR6.out info_f8 rfl (F8.one _) ?_; intro wz hwz hFz; have HW7 := Lib.hid hwz; have HF7 := Lib.hid hFz; clear hwz hFz))
            exact bodyPost_ret (ret_f8b rfl _ _ w.heap.size f2.c rfl rfl HW7.out) rfl ⟨⟨f2, 0, rfl⟩, (HFZ.out.trans HFr.out (fun i hi h => by simp only [One] at h; omega)).trans HF7.out (fun i hi h => by simp only [One] at h; omega)⟩
end Go.Proofs.Ytmkkeglcjbogcaa
namespace Go.Proofs.Ytmkkeglcjbogcaa
open Go.RowKit
set_option linter.unusedVariables false
set_option linter.unusedSimpArgs false

def f8eq (f g : F8) : Bool := f.a0 == g.a0 && (f.a1 == g.a1 && (f.a2 == g.a2 && (f.a3 == g.a3 && (f.a4 == g.a4 && (f.a5 == g.a5 && (f.a6 == g.a6 && f.a7 == g.a7))))))
theorem eqLoop {P : Program} (E : Value → Value → Sem Bool) (hE : ∀ a b W, (E (.int .u8 a) (.int .u8 b)).run P W = .ok (a == b) W) (X Y : Nat → Sem Value) (fx fy : Nat → Int) (l : List Nat) (hX : ∀ i ∈ l, ∀ W, (X i).run P W = .ok (.int .u8 (fx i)) W) (hY : ∀ i ∈ l, ∀ W, (Y i).run P W = .ok (.int .u8 (fy i)) W) (w : World) :
    (forIn l ((none, ()) : Option Bool × PUnit) fun i _ => do
      let a ← X i
      let b ← Y i
      let r ← E a b
      if (!r) = true then pure (ForInStep.done (some false, ())) else pure (ForInStep.yield (none, ()))).run P w = .ok (if l.all (fun i => fx i == fy i) then (none, ()) else (some false, ())) w := by
  induction l with
  | nil => simp
  | cons x r ih =>
    have ih' := ih (fun i hi => hX i (List.mem_cons_of_mem _ hi)) (fun i hi => hY i (List.mem_cons_of_mem _ hi))
    have hx := hX x (List.mem_cons_self ..)
    have hy := hY x (List.mem_cons_self ..)
    simp only [List.forIn_cons, Sem.run_bind, hx, hy, hE, Result.andThen_ok, List.all_cons]
    by_cases hb : (fx x == fy x) = true
    · simp only [hb, Bool.not_true, Bool.false_eq_true, if_false, Sem.run_pure, Result.andThen_ok, Bool.true_and]
      exact ih'
    · have hb := Bool.eq_false_iff.2 hb
      simp only [hb, Bool.not_false, if_true, Sem.run_pure, Result.andThen_ok, Bool.false_and, Bool.false_eq_true, if_false]
theorem part_u8 (cs : Array Value) (k : Nat) (x : Int) (W : World) (h : cs[k]? = some (.int .u8 x)) : (part 5 cs (k * 1)).run Try.prog W = .ok (.int .u8 x) W := by
  have hu8 : (underlying 5).run Try.prog W = .ok (.int .u8) W := run_underlying Try.underlying5 W
  rw [Nat.mul_one]
  simp [part, isAgg, Sem.run_bind, hu8, h]
def F8.at_ (f : F8) (i : Nat) : Int := match i with | 0 => f.a0 | 1 => f.a1 | 2 => f.a2 | 3 => f.a3 | 4 => f.a4 | 5 => f.a5 | 6 => f.a6 | _ => f.a7
theorem F8.get (f : F8) (i : Nat) (h : i < 8) : f.c[i]? = some (.int .u8 (f.at_ i)) := by
  match i, h with
  | 0, _ => rfl
  | 1, _ => rfl
  | 2, _ => rfl
  | 3, _ => rfl
  | 4, _ => rfl
  | 5, _ => rfl
  | 6, _ => rfl
  | 7, _ => rfl
theorem equal_f8 (f g : F8) (d e : Nat) (he : e = d + 1) (w : World) : (Op.equalIn (e + 1) 73 (.agg f.c) (.agg g.c)).run Try.prog w = .ok (f8eq f g) w := by
  have hu : Try.prog.underlying 73 = some (.array 8 5) := by kernel_rfl
  have hi : ∀ a b w, (Op.equalIn e 5 (.int .u8 a) (.int .u8 b)).run Try.prog w = .ok (a == b) w := fun a b w => by rw [he]; exact run_equalIn_int (P := Try.prog) w d 5 .u8 .u8 a b Try.underlying5
  unfold Op.equalIn
  simp only [Sem.run_bind, run_underlying hu, Result.andThen_ok, size_u8]
  have hr : ∀ (b : Option Bool × PUnit) (q : Nat → Option Bool × PUnit → Sem (ForInStep (Option Bool × PUnit))), forIn [:8] b q = forIn [0, 1, 2, 3, 4, 5, 6, 7] b q := fun b q => by
    rw [Std.Legacy.Range.forIn_eq_forIn_range']
    rfl
  rw [hr]
  have hl : ∀ i ∈ [0, 1, 2, 3, 4, 5, 6, 7], i < 8 := by decide
  rw [eqLoop (Op.equalIn e 5) hi (fun i => part 5 f.c (i * 1)) (fun i => part 5 g.c (i * 1)) f.at_ g.at_ [0, 1, 2, 3, 4, 5, 6, 7] (fun i h W => part_u8 _ _ _ _ (f.get i (hl i h))) (fun i h W => part_u8 _ _ _ _ (g.get i (hl i h)))]
  have ha : ([0, 1, 2, 3, 4, 5, 6, 7].all fun i => f.at_ i == g.at_ i) = f8eq f g := by simp [f8eq, F8.at_]
  rw [ha]
  cases f8eq f g <;> simp [Result.andThen]
theorem run_eq_f8 (f g : F8) (w : World) : (binOp .eql 73 (.agg f.c) (.agg g.c)).run Try.prog w = .ok (.bool (f8eq f g)) w := by
  rw [run_eql_struct, equal_f8 f g 9998 9999 rfl]
  rfl
end Go.Proofs.Ytmkkeglcjbogcaa
namespace Go.Proofs.Ytmkkeglcjbogcaa
open Go.RowKit
set_option linter.unusedVariables false

/-- The string of bytes. -/
def strB (bs : List UInt8) : ByteArray := strOfNums (bs.map fun b => (b.toNat : Int))
theorem conv_bytes {w : World} {v : Value} {bs : List UInt8} (h : BytesAt w v bs) : (convert 22 9 v).run Try.prog w = .ok (.string (strB bs)) w := by
  obtain ⟨A, cap, rfl, h1, h2, hc⟩ := bytes_cell h
  by_cases h0 : 0 < bs.length
  · obtain ⟨g, off, rfl, hc2⟩ := hc h0
    exact run_convert_bytes_arg (P := Try.prog) w 22 5 Try.underlying22 Try.underlying5 g off bs.length cap (bs.map fun b => (b.toNat : Int)) (by simp) (fun i hi => by
      rw [hc2 i hi]
      simp [List.getD_eq_getElem?_getD, hi]) 9 Try.underlying9
  · obtain rfl : bs = [] := List.eq_nil_of_length_eq_zero (by omega)
    cases A with
    | none => exact run_convert_bytes_nil (P := Try.prog) w 22 5 Try.underlying22 Try.underlying5 _ _ 9 Try.underlying9
    | some a =>
      rw [run_convert_bytes_string w 22 9 5 (some a) _ _ Try.underlying22 Try.underlying5 Try.underlying9]
      exact run_bytesToString w a 0 cap [] (by simp [loadCells, loadCellsFrom])
end Go.Proofs.Ytmkkeglcjbogcaa
namespace Go.Proofs.Ytmkkeglcjbogcaa
open Go.RowKit
set_option linter.unusedVariables false
set_option linter.unusedSimpArgs false

/-- An act: its cells. -/
def actC (kind i q : Int) (vB : Value) (f : F8) : Array Value := #[.int .i64 kind, .int .u16 i, .int .u8 q, vB, .int .u8 f.a0, .int .u8 f.a1, .int .u8 f.a2, .int .u8 f.a3, .int .u8 f.a4, .int .u8 f.a5, .int .u8 f.a6, .int .u8 f.a7]
def ClSome (M : Nat → Prop) (w : World) (c d : Nat) (w' : World) : Prop := ∃ s' M', ClHas M' w' c s' ∧ Frm (fun k => M k ∨ k = d) w w' ∧ ∀ k, M' k → M k ∨ w.heap.size ≤ k
def DoesP (M : Nat → Prop) (c d : Nat) (w : World) (e : Ending) (w' : World) : Prop := (∃ b, e = .returned (.bool b)) ∧ ClSome M w c d w'
theorem ClSome.post {M : Nat → Prop} {w w1 : World} {c d : Nat} {s : Cl} (h : ClPost M w c s w1) : ClSome M w c d w1 := by
  obtain ⟨M', h1, h2, h3⟩ := h
  exact ⟨s, M', h1, h2.mono (fun _ _ h => .inl h), h3⟩
theorem ClSome.frm {M : Nat → Prop} {w w1 w2 : World} {c d : Nat} (h : ClSome M w c d w1) (hd : ¬ M d) (hdl : d < w.heap.size) {S : Nat → Prop} (hF : Frm S w1 w2) (hS : ∀ k, S k → k = d ∨ w1.heap.size ≤ k) : ClSome M w c d w2 := by
  obtain ⟨s, M', h1, h2, h3⟩ := h
  refine ⟨s, M', h1.frm hF (fun k hk hs => ?_), h2.trans hF (fun i hi hs => ?_), h3⟩
  · rcases hS k hs with h | h
    · rcases h3 k hk with h4 | h4
      · exact hd (h ▸ h4)
      · omega
    · have := h1.2.2.1 k hk; omega
  · rcases hS i hs with h | h
    · exact .inr h
    · have := h2.size; omega
theorem ClSome.outer {M : Nat → Prop} {w wb w1 : World} {c d : Nat} (hF0 : Frm (fun _ => False) w wb) (h1 : ClSome M wb c d w1) : ClSome M w c d w1 := by
  obtain ⟨s, M', h3, h4, h5⟩ := h1
  refine ⟨s, M', h3, (hF0.mono (fun _ _ h => h.elim)).trans h4 (fun i hi h => h), fun k hk => ?_⟩
  rcases h5 k hk with h | h
  · exact .inl h
  · exact .inr (Nat.le_trans hF0.size h)
theorem ClSome.kept {M : Nat → Prop} {w w1 : World} {c d t : Nat} {o : Obj} (h1 : ClSome M w c d w1) (ht : ¬ M t) (htd : t ≠ d) (hg : w.heap[t]? = some o) : w1.heap[t]? = some o := by
  obtain ⟨s, M', h3, h4, h5⟩ := h1
  exact h4.heap hg (fun h => h.elim ht htd)
theorem ClPost.keep {M : Nat → Prop} {w w1 : World} {c t : Nat} {s : Cl} {o : Obj} (h1 : ClPost M w c s w1) (ht : ¬ M t) (hg : w.heap[t]? = some o) : w1.heap[t]? = some o := by
  obtain ⟨M', h3, h4, h5⟩ := h1
  exact h4.heap hg ht
theorem act_range {W : World} {g : Nat} {kind i q : Int} {vB : Value} {f : F8} {t : TypeId} (h : W.heap[g]? = some (.cells (actC kind i q vB f) t (0, 0))) : W.rangeAt g 4 f.c.toList := by
  intro j v hv
  rw [cell_at h]
  have hj : j < 8 := (List.getElem?_eq_some_iff.1 hv).1
  have : j = 0 ∨ j = 1 ∨ j = 2 ∨ j = 3 ∨ j = 4 ∨ j = 5 ∨ j = 6 ∨ j = 7 := by omega
  rcases this with rfl | rfl | rfl | rfl | rfl | rfl | rfl | rfl <;> exact hv
theorem wpl_load_act {ops : Array Oper} {rest : List Oper} {o : Oper} {a : Act} {w : World} {Q : Exit → Act → World → Prop} (hgd : o.guard = none) (x : Operand) (ho : o.op = .load 73 x)
    (g : Nat) (hx : a.eval x = .pointer (some ⟨g, 4, none⟩)) {kind i q : Int} {vB : Value} {f : F8} {t : TypeId} (hg : w.heap[g]? = some (.cells (actC kind i q vB f) t (0, 0)))
    (h : wpList Try.prog ops Q rest (a.put o.dst (.agg f.c)) w) : wpList Try.prog ops Q (o :: rest) a w :=
  wpList_load_mid hgd 73 x ho g 4 hx f.c.toList _ (act_range hg) Try.underlying73 rfl info_f8 h
set_option maxRecDepth 100000 in
set_option maxHeartbeats 2000000 in
theorem cdoes_read (M : Nat → Prop) (c d : Nat) (s : Cl) (kind i q : Int) (Ab : Option Addr) (cb : Nat) (bs : List UInt8) (f : F8) (w : World) (h : ClHas M w c s) (hd : w.heap[d]? = some (.cells rzero 72 (0, 0))) (hdM : ¬ M d)
    (hi : (0 ≤ i ∧ i ≤ 65535) ∧ 0 ≤ q ∧ q ≤ 255) (hk : kind = 1) : Calls Try.prog 32 #[ptr c, ptr d, .agg (actC kind i q (.slice Ab bs.length cb) f)] w (DoesP M c d w) := by
  have H := Lib.hid h
  have HLT := Lib.hid h.2.2.1
  have HD := Lib.hid hd
  have HDM := Lib.hid hdM
  have hdl := lt_of_block hd
  have ha : (w.alloc (.cells (actC kind i q (.slice Ab bs.length cb) f) 75 (0, 0))).heap[w.heap.size]? = some (.cells (actC kind i q (.slice Ab bs.length cb) f) 75 (0, 0)) := heap_new w _
  have hF0 : Frm (fun _ => False) w (w.alloc (.cells (actC kind i q (.slice Ab bs.length cb) f) 75 (0, 0))) := (Frm.refl _ _).alloc _
  obtain ⟨wa, hwa⟩ : ∃ wa, wa = w.alloc (.cells (actC kind i q (.slice Ab bs.length cb) f) 75 (0, 0)) := ⟨_, rfl⟩
  rw [← hwa] at ha hF0
  have HA := Lib.hid ha
  have HF0 := Lib.hid hF0
  have HWA := Lib.hid hwa
  have has := lt_of_block ha
  have HIQ := Lib.hid hi
  clear h hd hdM ha hF0 hwa hi
  have HKN := Lib.hid hk
  have HRD := Lib.hid (cread_any M c s i q wa (H.out.grow HF0.out) HIQ.out.1 HIQ.out.2)
  unfold RdPost at HRD
  obtain ⟨r, hr⟩ : ∃ r, r = s.read i q := ⟨_, rfl⟩
  rw [← hr] at HRD
  obtain ⟨s2, f2, b2⟩ := r
  unfold ptr F8.v at *
  simp only at HRD
  clear hr hk
  go_enter Try.func32, Try.ntmps32
  go_upto_region 1 with fail
  rw [← HWA.out]
  have k0 : wa.cell? ⟨w.heap.size, 0, none⟩ = some (.int .i64 1) := by rw [← HKN.out]; exact cell_at HA.out
  have k1 : wa.cell? ⟨w.heap.size, 1, none⟩ = some (.int .u16 i) := cell_at HA.out
  have k2 : wa.cell? ⟨w.heap.size, 2, none⟩ = some (.int .u8 q) := cell_at HA.out
  go_upto_region 8 with (first | (go_at_call 67; refine HRD.out.mono ?_; rintro e w1 ⟨rfl, hp1⟩; have HP1 := Lib.hid hp1; clear hp1) | (refine wpl_store_whole rfl 73 (.tmp 11) (.tmp 74) rfl w1.heap.size f2.c rfl rfl 73 _ (heap_new w1 _) info_f8 rfl (F8.one _) ?_; intro wz hwz hFz; have HW2 := Lib.hid hwz; have HF2 := Lib.hid hFz; clear hwz hFz))
  have hPz : ClSome M w c d wz := (ClSome.outer HF0.out (ClSome.post HP1.out)).frm HDM.out hdl (((Frm.refl _ _).alloc _).trans HF2.out (fun i hi h => h)) (fun k hk => .inr (by simp only [One] at hk; omega))
  have haz : wz.heap[w.heap.size]? = some (.cells (actC kind i q (.slice Ab bs.length cb) f) 75 (0, 0)) := HF2.out.heap (heap_alloc_old (HP1.out.keep (fun h => Nat.lt_irrefl _ (HLT.out _ h)) HA.out)) (by have := lt_of_block (HP1.out.keep (fun h => Nat.lt_irrefl _ (HLT.out _ h)) HA.out); simp only [One]; omega)
  have hdz : wz.heap[d]? = some (.cells rzero 72 (0, 0)) := HF2.out.heap (heap_alloc_old (HP1.out.keep HDM.out (HF0.out.heap HD.out (fun h => h)))) (by have := lt_of_block (HP1.out.keep HDM.out (HF0.out.heap HD.out (fun h => h))); simp only [One]; omega)
  have HD2 := Lib.hid hdz
  have HPZ := Lib.hid hPz
  have HAZ := Lib.hid haz
  have k1z : wz.cell? ⟨w.heap.size, 1, none⟩ = some (.int .u16 i) := cell_at haz
  have k2z : wz.cell? ⟨w.heap.size, 2, none⟩ = some (.int .u8 q) := cell_at haz
  clear hPz haz hdz
  have HRR := Lib.hid (rcread_any d i q wz HD2.out HIQ.out.1)
  unfold RAny ptr at HRR
  go_upto_region 9 with (first | (go_at_call 68; refine HRR.out.mono ?_; rintro e w3 ⟨⟨f3, x3, rfl⟩, hF3⟩; have HF3 := Lib.hid hF3; clear hF3; unfold F8.v) | (refine wpl_store_whole rfl 73 (.tmp 13) (.tmp 83) rfl w3.heap.size f3.c rfl rfl 73 _ (heap_new w3 _) info_f8 rfl (F8.one _) ?_; intro wy hwy hFy; have HW4 := Lib.hid hwy; have HF4 := Lib.hid hFy; clear hwy hFy))
  have hs1 : w1.heap.size < wz.heap.size := lt_of_block HW2.out
  have hs3 := HF3.out.size
  have hd1 : d ≠ w1.heap.size := by have := lt_of_block (HP1.out.keep HDM.out (HF0.out.heap HD.out (fun h => h))); omega
  have H11 := Lib.hid (HF4.out.heap (heap_alloc_old (HF3.out.heap HW2.out (fun h => hd1 h.symm))) (by simp only [One]; omega))
  obtain ⟨bq, hbq⟩ : ∃ bq, bq = f8eq f2 f3 := ⟨_, rfl⟩
  have heq : ∀ W, (binOp .eql 73 (.agg f2.c) (.agg f3.c)).run Try.prog W = .ok (.bool bq) W := fun W => by rw [hbq]; exact run_eq_f8 f2 f3 W
  clear hbq
  have hfin : ClSome M w c d wy := HPZ.out.frm HDM.out hdl (((HF3.out.mono (fun _ _ h => .inl h) : Frm (fun k => k = d ∨ wz.heap.size ≤ k) wz w3).alloc _).trans HF4.out (fun i hi h => .inr (by simp only [One] at h; omega))) (fun k h => h)
  have HFIN := Lib.hid hfin
  clear hfin
  cases bq
  all_goals
    go_wp2_with (first | (refine wpList_load_row rfl 73 (.tmp 11) rfl w1.heap.size rfl 73 f2.c (0, 0) _ H11.out Try.underlying73 rfl (by first | exact info_f8 | (rw [F8.size]; exact info_f8)) ?_) | (refine wpList_load_row rfl 73 (.tmp 13) rfl w3.heap.size rfl 73 f3.c (0, 0) _ HW4.out Try.underlying73 rfl (by first | exact info_f8 | (rw [F8.size]; exact info_f8)) ?_))
    go_ret
    exact ⟨⟨_, rfl⟩, HFIN.out⟩
set_option maxRecDepth 100000 in
set_option maxHeartbeats 2000000 in
theorem cdoes_expire (M : Nat → Prop) (c d : Nat) (s : Cl) (kind i q : Int) (Ab : Option Addr) (cb : Nat) (bs : List UInt8) (f : F8) (w : World) (h : ClHas M w c s) (hd : w.heap[d]? = some (.cells rzero 72 (0, 0))) (hdM : ¬ M d)
    (hi : (0 ≤ i ∧ i ≤ 65535) ∧ 0 ≤ q ∧ q ≤ 255) (hk : kind = 3) : Calls Try.prog 32 #[ptr c, ptr d, .agg (actC kind i q (.slice Ab bs.length cb) f)] w (DoesP M c d w) := by
  have H := Lib.hid h
  have HLT := Lib.hid h.2.2.1
  have HD := Lib.hid hd
  have HDM := Lib.hid hdM
  have hdl := lt_of_block hd
  have ha : (w.alloc (.cells (actC kind i q (.slice Ab bs.length cb) f) 75 (0, 0))).heap[w.heap.size]? = some (.cells (actC kind i q (.slice Ab bs.length cb) f) 75 (0, 0)) := heap_new w _
  have hF0 : Frm (fun _ => False) w (w.alloc (.cells (actC kind i q (.slice Ab bs.length cb) f) 75 (0, 0))) := (Frm.refl _ _).alloc _
  obtain ⟨wa, hwa⟩ : ∃ wa, wa = w.alloc (.cells (actC kind i q (.slice Ab bs.length cb) f) 75 (0, 0)) := ⟨_, rfl⟩
  rw [← hwa] at ha hF0
  have HA := Lib.hid ha
  have HF0 := Lib.hid hF0
  have HWA := Lib.hid hwa
  have has := lt_of_block ha
  have HIQ := Lib.hid hi
  clear h hd hdM ha hF0 hwa hi
  have HKN := Lib.hid hk
  have HRD := Lib.hid (cexpire_any M c s wa (H.out.grow HF0.out))
  unfold ExpPost at HRD
  obtain ⟨r, hr⟩ : ∃ r, r = s.expire := ⟨_, rfl⟩
  rw [← hr] at HRD
  obtain ⟨s2, f2, b2⟩ := r
  unfold ptr F8.v at *
  simp only at HRD
  clear hr hk
  go_enter Try.func32, Try.ntmps32
  go_upto_region 1 with fail
  rw [← HWA.out]
  have k0 : wa.cell? ⟨w.heap.size, 0, none⟩ = some (.int .i64 3) := by rw [← HKN.out]; exact cell_at HA.out
  go_upto_region 16 with (first | (go_at_call 34; refine HRD.out.mono ?_; rintro e w1 ⟨rfl, hp1⟩; have HP1 := Lib.hid hp1; clear hp1) | (refine wpl_store_whole rfl 73 (.tmp 19) (.tmp 122) rfl w1.heap.size f2.c rfl rfl 73 _ (heap_new w1 _) info_f8 rfl (F8.one _) ?_; intro wz hwz hFz; have HW2 := Lib.hid hwz; have HF2 := Lib.hid hFz; clear hwz hFz))
  have hPz : ClSome M w c d wz := (ClSome.outer HF0.out (ClSome.post HP1.out)).frm HDM.out hdl (((Frm.refl _ _).alloc _).trans HF2.out (fun i hi h => h)) (fun k hk => .inr (by simp only [One] at hk; omega))
  have haz : wz.heap[w.heap.size]? = some (.cells (actC kind i q (.slice Ab bs.length cb) f) 75 (0, 0)) := HF2.out.heap (heap_alloc_old (HP1.out.keep (fun h => Nat.lt_irrefl _ (HLT.out _ h)) HA.out)) (by have := lt_of_block (HP1.out.keep (fun h => Nat.lt_irrefl _ (HLT.out _ h)) HA.out); simp only [One]; omega)
  have hdz : wz.heap[d]? = some (.cells rzero 72 (0, 0)) := HF2.out.heap (heap_alloc_old (HP1.out.keep HDM.out (HF0.out.heap HD.out (fun h => h)))) (by have := lt_of_block (HP1.out.keep HDM.out (HF0.out.heap HD.out (fun h => h))); simp only [One]; omega)
  have HD2 := Lib.hid hdz
  have HPZ := Lib.hid hPz
  have HAZ := Lib.hid haz
  have k1z : wz.cell? ⟨w.heap.size, 1, none⟩ = some (.int .u16 i) := cell_at haz
  have k2z : wz.cell? ⟨w.heap.size, 2, none⟩ = some (.int .u8 q) := cell_at haz
  clear hPz haz hdz
  have kd0 : wz.cell? ⟨d, 0, none⟩ = some (.int .i64 0) := cell_at HD2.out
  obtain ⟨bq, hbq⟩ : ∃ bq, bq = f8eq f2 F8.zero := ⟨_, rfl⟩
  have heq : ∀ W, (binOp .eql 73 (.agg f2.c) (.agg #[.int .u8 0, .int .u8 0, .int .u8 0, .int .u8 0, .int .u8 0, .int .u8 0, .int .u8 0, .int .u8 0])).run Try.prog W = .ok (.bool bq) W := fun W => by rw [hbq]; exact run_eq_f8 f2 F8.zero W
  clear hbq
  cases bq
  all_goals
    go_wp2_with (refine wpList_load_row rfl 73 (.tmp 19) rfl w1.heap.size rfl 73 f2.c (0, 0) _ HW2.out Try.underlying73 rfl (by first | exact info_f8 | (rw [F8.size]; exact info_f8)) ?_)
    go_ret
    exact ⟨⟨_, rfl⟩, HPZ.out⟩
set_option maxRecDepth 100000 in
set_option maxHeartbeats 2000000 in
theorem cdoes_none (M : Nat → Prop) (c d : Nat) (s : Cl) (kind i q : Int) (Ab : Option Addr) (cb : Nat) (bs : List UInt8) (f : F8) (w : World) (h : ClHas M w c s) (hd : w.heap[d]? = some (.cells rzero 72 (0, 0))) (hdM : ¬ M d)
    (hi : (0 ≤ i ∧ i ≤ 65535) ∧ 0 ≤ q ∧ q ≤ 255) (hk : kind ≠ 0 ∧ kind ≠ 1 ∧ kind ≠ 2 ∧ kind ≠ 3 ∧ kind ≠ 4) : Calls Try.prog 32 #[ptr c, ptr d, .agg (actC kind i q (.slice Ab bs.length cb) f)] w (DoesP M c d w) := by
  have H := Lib.hid h
  have HLT := Lib.hid h.2.2.1
  have HD := Lib.hid hd
  have HDM := Lib.hid hdM
  have hdl := lt_of_block hd
  have ha : (w.alloc (.cells (actC kind i q (.slice Ab bs.length cb) f) 75 (0, 0))).heap[w.heap.size]? = some (.cells (actC kind i q (.slice Ab bs.length cb) f) 75 (0, 0)) := heap_new w _
  have hF0 : Frm (fun _ => False) w (w.alloc (.cells (actC kind i q (.slice Ab bs.length cb) f) 75 (0, 0))) := (Frm.refl _ _).alloc _
  obtain ⟨wa, hwa⟩ : ∃ wa, wa = w.alloc (.cells (actC kind i q (.slice Ab bs.length cb) f) 75 (0, 0)) := ⟨_, rfl⟩
  rw [← hwa] at ha hF0
  have HA := Lib.hid ha
  have HF0 := Lib.hid hF0
  have HWA := Lib.hid hwa
  have has := lt_of_block ha
  have HIQ := Lib.hid hi
  clear h hd hdM ha hF0 hwa hi
  obtain ⟨h0, h1, h2, h3, h4⟩ := hk
  have b0 : (kind == 0) = false := by simpa using h0
  have b1 : (kind == 1) = false := by simpa using h1
  have b2 : (kind == 2) = false := by simpa using h2
  have b3 : (kind == 3) = false := by simpa using h3
  have b4 : (kind == 4) = false := by simpa using h4
  unfold ptr
  clear h0 h1 h2 h3 h4
  go_enter Try.func32, Try.ntmps32
  go_upto_region 1 with fail
  rw [← HWA.out]
  have k0 : wa.cell? ⟨w.heap.size, 0, none⟩ = some (.int .i64 kind) := cell_at HA.out
  go_wp2
  go_ret
  exact ⟨⟨_, rfl⟩, ClSome.outer HF0.out (ClSome.post (ClPost.same (H.out.grow HF0.out) (Frm.refl _ _)))⟩
set_option maxRecDepth 100000 in
set_option maxHeartbeats 2000000 in
theorem cdoes_feed (M : Nat → Prop) (c d : Nat) (s : Cl) (kind i q : Int) (Ab : Option Addr) (cb : Nat) (bs : List UInt8) (f : F8) (w : World) (h : ClHas M w c s) (hd : w.heap[d]? = some (.cells rzero 72 (0, 0))) (hdM : ¬ M d)
    (hi : (0 ≤ i ∧ i ≤ 65535) ∧ 0 ≤ q ∧ q ≤ 255) (hf : f.ok) (hk : kind = 2) : Calls Try.prog 32 #[ptr c, ptr d, .agg (actC kind i q (.slice Ab bs.length cb) f)] w (DoesP M c d w) := by
  have H := Lib.hid h
  have HLT := Lib.hid h.2.2.1
  have HD := Lib.hid hd
  have HDM := Lib.hid hdM
  have hdl := lt_of_block hd
  have ha : (w.alloc (.cells (actC kind i q (.slice Ab bs.length cb) f) 75 (0, 0))).heap[w.heap.size]? = some (.cells (actC kind i q (.slice Ab bs.length cb) f) 75 (0, 0)) := heap_new w _
  have hF0 : Frm (fun _ => False) w (w.alloc (.cells (actC kind i q (.slice Ab bs.length cb) f) 75 (0, 0))) := (Frm.refl _ _).alloc _
  obtain ⟨wa, hwa⟩ : ∃ wa, wa = w.alloc (.cells (actC kind i q (.slice Ab bs.length cb) f) 75 (0, 0)) := ⟨_, rfl⟩
  rw [← hwa] at ha hF0
  have HA := Lib.hid ha
  have HF0 := Lib.hid hF0
  have HWA := Lib.hid hwa
  have has := lt_of_block ha
  have HIQ := Lib.hid hi
  clear h hd hdM ha hF0 hwa hi
  have HKN := Lib.hid hk
  have HRD := Lib.hid (cfeed_any M c s f wa (H.out.grow HF0.out) hf)
  unfold FdPost at HRD
  obtain ⟨r, hr⟩ : ∃ r, r = s.feed f := ⟨_, rfl⟩
  rw [← hr] at HRD
  obtain ⟨s2, f2, b2⟩ := r
  unfold ptr F8.v at *
  simp only at HRD
  clear hr hk hf
  go_enter Try.func32, Try.ntmps32
  go_upto_region 1 with fail
  rw [← HWA.out]
  have k0 : wa.cell? ⟨w.heap.size, 0, none⟩ = some (.int .i64 2) := by rw [← HKN.out]; exact cell_at HA.out
  go_upto_region 12 with (first | (refine wpl_load_act rfl (.tmp 97) rfl w.heap.size rfl HA.out ?_) | (go_at_call 69; refine HRD.out.mono ?_; rintro e w1 ⟨rfl, hp1⟩; have HP1 := Lib.hid hp1; clear hp1) | (refine wpl_store_whole rfl 73 (.tmp 15) (.tmp 100) rfl w1.heap.size f2.c rfl rfl 73 _ (heap_new w1 _) info_f8 rfl (F8.one _) ?_; intro wz hwz hFz; have HW2 := Lib.hid hwz; have HF2 := Lib.hid hFz; clear hwz hFz))
  have hPz : ClSome M w c d wz := (ClSome.outer HF0.out (ClSome.post HP1.out)).frm HDM.out hdl (((Frm.refl _ _).alloc _).trans HF2.out (fun i hi h => h)) (fun k hk => .inr (by simp only [One] at hk; omega))
  have haz : wz.heap[w.heap.size]? = some (.cells (actC kind i q (.slice Ab bs.length cb) f) 75 (0, 0)) := HF2.out.heap (heap_alloc_old (HP1.out.keep (fun h => Nat.lt_irrefl _ (HLT.out _ h)) HA.out)) (by have := lt_of_block (HP1.out.keep (fun h => Nat.lt_irrefl _ (HLT.out _ h)) HA.out); simp only [One]; omega)
  have hdz : wz.heap[d]? = some (.cells rzero 72 (0, 0)) := HF2.out.heap (heap_alloc_old (HP1.out.keep HDM.out (HF0.out.heap HD.out (fun h => h)))) (by have := lt_of_block (HP1.out.keep HDM.out (HF0.out.heap HD.out (fun h => h))); simp only [One]; omega)
  have HD2 := Lib.hid hdz
  have HPZ := Lib.hid hPz
  have HAZ := Lib.hid haz
  have k1z : wz.cell? ⟨w.heap.size, 1, none⟩ = some (.int .u16 i) := cell_at haz
  have k2z : wz.cell? ⟨w.heap.size, 2, none⟩ = some (.int .u8 q) := cell_at haz
  clear hPz haz hdz
  have HRR := Lib.hid (rcfeed_any d f wz HD2.out)
  unfold RFd ptr F8.v at HRR
  obtain ⟨f3, hf3⟩ : ∃ f3, f3 = F8.zero := ⟨_, rfl⟩
  rw [← hf3] at HRR
  clear hf3
  go_upto_region 13 with (first | (refine wpl_load_act rfl (.tmp 104) rfl w.heap.size rfl HAZ.out ?_) | (go_at_call 70; refine HRR.out.mono ?_; rintro e w3 ⟨rfl, hF3⟩; have HF3 := Lib.hid hF3; clear hF3) | (refine wpl_store_whole rfl 73 (.tmp 17) (.tmp 107) rfl w3.heap.size f3.c rfl rfl 73 _ (heap_new w3 _) info_f8 rfl (F8.one _) ?_; intro wy hwy hFy; have HW4 := Lib.hid hwy; have HF4 := Lib.hid hFy; clear hwy hFy))
  have hs1 : w1.heap.size < wz.heap.size := lt_of_block HW2.out
  have hs3 := HF3.out.size
  have hd1 : d ≠ w1.heap.size := by have := lt_of_block (HP1.out.keep HDM.out (HF0.out.heap HD.out (fun h => h))); omega
  have H11 := Lib.hid (HF4.out.heap (heap_alloc_old (HF3.out.heap HW2.out (fun h => hd1 h.symm))) (by simp only [One]; omega))
  obtain ⟨bq, hbq⟩ : ∃ bq, bq = f8eq f2 f3 := ⟨_, rfl⟩
  have heq : ∀ W, (binOp .eql 73 (.agg f2.c) (.agg f3.c)).run Try.prog W = .ok (.bool bq) W := fun W => by rw [hbq]; exact run_eq_f8 f2 f3 W
  clear hbq
  have hfin : ClSome M w c d wy := HPZ.out.frm HDM.out hdl (((HF3.out.mono (fun _ _ h => .inl h) : Frm (fun k => k = d ∨ wz.heap.size ≤ k) wz w3).alloc _).trans HF4.out (fun i hi h => .inr (by simp only [One] at h; omega))) (fun k h => h)
  have HFIN := Lib.hid hfin
  clear hfin
  cases bq
  all_goals
    go_wp2_with (first | (refine wpList_load_row rfl 73 (.tmp 15) rfl w1.heap.size rfl 73 f2.c (0, 0) _ H11.out Try.underlying73 rfl (by first | exact info_f8 | (rw [F8.size]; exact info_f8)) ?_) | (refine wpList_load_row rfl 73 (.tmp 17) rfl w3.heap.size rfl 73 f3.c (0, 0) _ HW4.out Try.underlying73 rfl (by first | exact info_f8 | (rw [F8.size]; exact info_f8)) ?_))
    go_ret
    exact ⟨⟨_, rfl⟩, HFIN.out⟩
set_option maxRecDepth 100000 in
set_option maxHeartbeats 2000000 in
theorem cdoes_result (M : Nat → Prop) (c d : Nat) (s : Cl) (kind i q : Int) (Ab : Option Addr) (cb : Nat) (bs : List UInt8) (f : F8) (w : World) (h : ClHas M w c s) (hd : w.heap[d]? = some (.cells rzero 72 (0, 0))) (hdM : ¬ M d)
    (hi : (0 ≤ i ∧ i ≤ 65535) ∧ 0 ≤ q ∧ q ≤ 255) (hk : kind = 4) : Calls Try.prog 32 #[ptr c, ptr d, .agg (actC kind i q (.slice Ab bs.length cb) f)] w (DoesP M c d w) := by
  have H := Lib.hid h
  have HLT := Lib.hid h.2.2.1
  have HD := Lib.hid hd
  have HDM := Lib.hid hdM
  have hdl := lt_of_block hd
  have ha : (w.alloc (.cells (actC kind i q (.slice Ab bs.length cb) f) 75 (0, 0))).heap[w.heap.size]? = some (.cells (actC kind i q (.slice Ab bs.length cb) f) 75 (0, 0)) := heap_new w _
  have hF0 : Frm (fun _ => False) w (w.alloc (.cells (actC kind i q (.slice Ab bs.length cb) f) 75 (0, 0))) := (Frm.refl _ _).alloc _
  obtain ⟨wa, hwa⟩ : ∃ wa, wa = w.alloc (.cells (actC kind i q (.slice Ab bs.length cb) f) 75 (0, 0)) := ⟨_, rfl⟩
  rw [← hwa] at ha hF0
  have HA := Lib.hid ha
  have HF0 := Lib.hid hF0
  have HWA := Lib.hid hwa
  have has := lt_of_block ha
  have HIQ := Lib.hid hi
  clear h hd hdM ha hF0 hwa hi
  have HKN := Lib.hid hk
  have HRD := Lib.hid (cresult_any M c s wa (H.out.grow HF0.out))
  unfold ResPost at HRD
  obtain ⟨r, hr⟩ : ∃ r, r = s.result := ⟨_, rfl⟩
  rw [← hr] at HRD
  obtain ⟨s2, l2, c2, b2⟩ := r
  unfold ptr at *
  simp only at HRD
  clear hr hk
  go_enter Try.func32, Try.ntmps32
  go_upto_region 1 with fail
  rw [← HWA.out]
  have k0 : wa.cell? ⟨w.heap.size, 0, none⟩ = some (.int .i64 4) := by rw [← HKN.out]; exact cell_at HA.out
  go_upto_region 22 with (go_at_call 35; refine HRD.out.mono ?_; rintro e w1 ⟨⟨v1, rfl, hB1, hM1⟩, hp1⟩; have HB1 := Lib.hid hB1; have HM1 := Lib.hid hM1; have HP1 := Lib.hid hp1; have HRR := Lib.hid (rctake_any d w1 (hp1.keep HDM.out (HF0.out.heap HD.out (fun h => h)))); clear hp1 hB1 hM1)
  unfold RTk ptr at HRR
  have hdb : ∀ k, v1.ownBlock = some k → k ≠ d := fun k hk e => HDM.out (e ▸ HM1.out k hk)
  go_upto_region 23 with (go_at_call 72; refine HRR.out.mono ?_; rintro e w3 ⟨rfl, hF3⟩; have HF3 := Lib.hid hF3; clear hF3)
  have hb3 := HB1.out.frm HF3.out hdb
  have hc1 := fun n => conv_bytes (hb3.drewN n)
  have hc1' := conv_bytes hb3
  have hc2 := fun n => conv_bytes ((nil_bytes w3).drewN n)
  have hc2' := conv_bytes (nil_bytes w3)
  generalize strB l2 = sa at *
  generalize strB [] = sn at *
  have HFIN : Hid (ClSome M w c d w3) := (ClSome.outer HF0.out (ClSome.post HP1.out)).frm HDM.out hdl HF3.out (fun k hk => .inl hk)
  clear hb3 hdb
  go_wp2_with fail
  all_goals
    go_ret
    exact ⟨⟨_, rfl⟩, HFIN.out⟩
end Go.Proofs.Ytmkkeglcjbogcaa
