/-
  An item read of bytes.
-/
import Derived.Test.YtmkkeglcjbogcaaDcfN
import Derived.Deep.RegionLaw
import Derived.Deep.DeepCutAuto
namespace Go.Proofs.Ytmkkeglcjbogcaa
open Go.RowKit
set_option linter.unusedVariables false

theorem el_u8 : El Try.prog 22 5 1 1 := El.of Try.underlying22 (z := .int .u8 0) (by kernel_rfl) rfl (by decide)

/-- Bytes of one's own. -/
def Own8 (B : Nat) (w : World) (v : Value) (bs : List UInt8) : Prop := w.ownsRow B 5 1 v bs.length (bs.map encB)

def CloneP (bs : List UInt8) (w : World) (e : Ending) (w' : World) : Prop := ∃ v, e = .returned v ∧ Own8 w.heap.size w' v bs ∧ Frm (fun _ => False) w w'

set_option maxRecDepth 100000 in
set_option maxHeartbeats 1000000 in
theorem clone_any (v : Value) (bs : List UInt8) (w : World) (h : BytesAt w v bs) (hl : bs.length ≤ 140737488351232) :
    Calls Try.prog 65 #[v] w (CloneP bs w) := by
  obtain ⟨A, cap, rfl, h1, h2, hn⟩ := h.open_
  have HN := Lib.hid hn
  have hm3 : bs.length ≤ maxLen := by unfold maxLen; omega
  have hm4 : bs.length * 1 ≤ 140737488355328 := by omega
  have HONEB := Lib.hid (oneB bs)
  have HLEN : Hid ((bs.map encB).length = bs.length * 1) := by unfold Hid; simp
  have HEMP := Lib.hid (empty_row w 5 1 w.heap.size (Nat.le_refl _))
  clear hn h
  cases A with
  | none =>
    have h0 : bs = [] := by
      cases bs with
      | nil => rfl
      | cons b r => obtain ⟨g, off, e, _⟩ := HN.out (by simp); cases e
    subst h0
    go_enter Try.func65, Try.ntmps65
    have hnil := Lib.run_eql_slice_nil (P := Try.prog) w 22 5 none 0 cap 0 0 Try.underlying22
    go_wp2_with fail
    go_ret
    exact ⟨_, rfl, World.ownsRow_nil _ _ _ _, Frm.refl _ _⟩
  | some a =>
    have hnil := Lib.run_eql_slice_nil (P := Try.prog) w 22 5 (some a) bs.length cap 0 0 Try.underlying22
    go_enter Try.func65, Try.ntmps65
    go_wp2_with (at_builtin; refine wpl_clone rfl el_u8 _ _ rfl rfl rfl (B := w.heap.size) (news := bs.map encB) (Frm.row (S := fun _ => False) (by (repeat' (first | (with_reducible exact Frm.refl _ _) | (with_reducible assumption) | (with_reducible refine Frm.alloc ?_ _) | (with_reducible refine Frm.drew ?_) | (with_reducible refine Frm.drewN ?_ _) | (with_reducible refine Frm.set1 ?_ _) | (with_reducible refine Frm.setCell ?_ ?_ _) | (intro hlt; simp [World.size_alloc, One] at hlt ⊢; omega)))) HEMP.out (fun _ _ h => h)) HLEN.out (fun h0 => (HN.out h0).grow (by (repeat' (first | (with_reducible exact Frm.refl _ _) | (with_reducible assumption) | (with_reducible refine Frm.alloc ?_ _) | (with_reducible refine Frm.drew ?_) | (with_reducible refine Frm.drewN ?_ _) | (with_reducible refine Frm.set1 ?_ _) | (with_reducible refine Frm.setCell ?_ ?_ _) | (intro hlt; simp [World.size_alloc, One] at hlt ⊢; omega))))) HONEB.out hm3 hm4 (by simp) ?_; intro A3 cap3 w3 hown3 hfr3)
    go_ret
    exact ⟨_, rfl, hown3, Frm.trans (b := _) (by (repeat' (first | (with_reducible exact Frm.refl _ _) | (with_reducible assumption) | (with_reducible refine Frm.alloc ?_ _) | (with_reducible refine Frm.drew ?_) | (with_reducible refine Frm.drewN ?_ _) | (with_reducible refine Frm.set1 ?_ _) | (with_reducible refine Frm.setCell ?_ ?_ _) | (intro hlt; simp [World.size_alloc, One] at hlt ⊢; omega)))) hfr3 (fun i hi h => by cases h; exact absurd hi (Nat.lt_irrefl _))⟩

theorem BytesAt.sub {w : World} {g off cap : Nat} {bs : List UInt8} (h : BytesAt w (.slice (some ⟨g, off, none⟩) bs.length cap) bs) (k : Nat) (hk : k ≤ bs.length) : BytesAt w (.slice (some ⟨g, off + k, none⟩) (bs.length - k) (cap - k)) (bs.drop k) := by
  obtain ⟨A, cap2, e, h1, h2, hc⟩ := h
  simp only [Value.slice.injEq] at e
  obtain ⟨rfl, _, rfl⟩ := e
  refine ⟨_, _, by rw [List.length_drop], by rw [List.length_drop]; omega, by omega, fun h0 => ⟨g, off + k, rfl, fun i hi => ?_⟩⟩
  rw [List.length_drop] at hi
  obtain ⟨g2, off2, e2, hc2⟩ := hc (by omega)
  simp only [Option.some.injEq, Addr.mk.injEq] at e2
  obtain ⟨rfl, rfl, _⟩ := e2
  have := hc2 (k + i) (by omega)
  rw [Nat.add_assoc, this]
  simp [List.getD_eq_getElem?_getD, List.getElem?_drop]

theorem numOf_bound (bs : List UInt8) : 0 ≤ numOf bs ∧ numOf bs < 256 ^ bs.length := by
  induction bs with
  | nil => simp [numOf]
  | cons b r ih =>
    have := b.toNat_lt
    simp only [numOf, List.length_cons, Int.pow_succ]
    omega

theorem BytesAt.pre {w : World} {g off cap N : Nat} {bs : List UInt8} (hN : bs.length = N) (h : BytesAt w (.slice (some ⟨g, off, none⟩) N cap) bs) (k : Nat) (hk : k ≤ bs.length) : BytesAt w (.slice (some ⟨g, off, none⟩) k cap) (bs.take k) := by
  obtain ⟨A, cap2, e, h1, h2, hc⟩ := h
  simp only [Value.slice.injEq] at e
  obtain ⟨rfl, _, rfl⟩ := e
  have hl : (bs.take k).length = k := by simp; omega
  refine ⟨some ⟨g, off, none⟩, cap, by rw [hl], by rw [hl]; omega, h2, fun h0 => ⟨g, off, rfl, fun i hi => ?_⟩⟩
  rw [hl] at hi
  obtain ⟨g2, off2, e2, hc2⟩ := hc (by omega)
  simp only [Option.some.injEq, Addr.mk.injEq] at e2
  obtain ⟨rfl, rfl, _⟩ := e2
  have := hc2 i (by omega)
  rw [this]
  simp [List.getD_eq_getElem?_getD, hi]
theorem BytesAt.from {w : World} {g off cap N : Nat} {bs : List UInt8} (hN : bs.length = N) (h : BytesAt w (.slice (some ⟨g, off, none⟩) N cap) bs) (k : Nat) (hk : k ≤ bs.length) : BytesAt w (.slice (some ⟨g, if cap = k then off else off + k, none⟩) (N - k) (cap - k)) (bs.drop k) := by
  subst hN
  by_cases e : cap = k
  · rw [if_pos e]
    have hd : bs.drop k = [] := by
      obtain ⟨A, cap2, e2, h1, h2, hc⟩ := h
      simp only [Value.slice.injEq] at e2
      exact List.drop_eq_nil_of_le (by omega)
    have hl : bs.length - k = 0 := by have := congrArg List.length hd; simpa using this
    rw [hd, hl, e]
    exact ⟨some ⟨g, off, none⟩, 0, by simp, Nat.le_refl _, by unfold maxLen; omega, fun h => absurd h (by simp)⟩
  · rw [if_neg e]
    exact h.sub k hk

def ItemCut (w : World) (idx sub : Int) (p : Value) (wx : World) : Prop :=
  p = .pointer (some ⟨w.heap.size + 1, 0, none⟩) ∧ wx.heap[w.heap.size]? = some (.cells #[.int .u16 0, .int .u8 0, .slice none 0 0] 121 (0, 0)) ∧ wx.heap[w.heap.size + 1]? = some (.cells #[.int .u16 idx, .int .u8 sub, .slice none 0 0] 121 (0, 0)) ∧ Frm (fun _ => False) w wx

theorem size_u8 (w : World) : (Go.sizeOf 5).run Try.prog w = .ok 1 w := by
  have h : (Try.prog.info? 5).map (·.size) = some 1 := by kernel_rfl
  obtain ⟨i, hi, h1⟩ := Option.map_eq_some_iff.1 h
  simp [Go.sizeOf, typeInfo, hi, h1]
theorem slice_to (W : World) (g o N c k : Nat) (h : k ≤ c) : (Instr.slice 22 (.slice (some ⟨g, o, none⟩) N c) none (some (.int .u64 (k : Int))) none).run Try.prog W = .ok (.slice (some ⟨g, o, none⟩) k c) W := by
  have ht : Try.prog.underlying 22 = some (.slice (Try.prog.elem 22)) := by kernel_rfl
  have he : Try.prog.elem 22 = 5 := by kernel_rfl
  rw [run_slice_h W 22 _ _ _ ht .u64 _ (by omega) (by omega), he, size_u8]
  simp [Result.andThen, sliced, Addr.add]
theorem slice_from (W : World) (g o N c k : Nat) (h : k ≤ N) (hc : N ≤ c) : (Instr.slice 22 (.slice (some ⟨g, o, none⟩) N c) (some (.int .u64 (k : Int))) none none).run Try.prog W = .ok (.slice (some ⟨g, if c = k then o else o + k, none⟩) (N - k) (c - k)) W := by
  have ht : Try.prog.underlying 22 = some (.slice (Try.prog.elem 22)) := by kernel_rfl
  have he : Try.prog.elem 22 = 5 := by kernel_rfl
  rw [run_slice_l W 22 _ _ _ ht .u64 _ (by omega) (by omega), he, size_u8]
  by_cases e : c = k
  · simp [Result.andThen, sliced, Addr.add, e]
  · by_cases e0 : k = 0
    · simp [Result.andThen, sliced, Addr.add, e, e0]
    · simp [Result.andThen, sliced, Addr.add, e, e0]

/-- Three results, the first a variable that lies in memory. -/
theorem ret_item {fn : Func} {p u v : Tmp} (h : fn.results = #[.cell p 121, .tmp u, .tmp v]) (tmps : Array Value) (w : World) (g : Nat) (x y z : Value)
    (hp : tmps.getD p undef = .pointer (some ⟨g, 0, none⟩)) (hg : w.heap[g]? = some (.cells #[x, y, z] 121 (0, 0))) :
    (results fn tmps).run Try.prog w = .ok (.tuple #[.agg #[x, y, z], tmps.getD u undef, tmps.getD v undef]) w := by
  have hp' : tmps[p]?.getD undef = .pointer (some ⟨g, 0, none⟩) := by simpa using hp
  simp [results, h, hp', asAddr, run_loadVar_row w g 121 121 #[x, y, z] (0, 0) _ hg Try.underlying121 rfl (by kernel_rfl)]

/-- What reading an item answers: its place, how long it is, the bytes behind its head. -/
def ItemPost (ob : Option Nat) (idx sub n : Int) (bs : List UInt8) (w : World) (e : Ending) (w' : World) : Prop :=
  Frm (fun _ => False) w w' ∧
    if 65536 < n then ∃ i s v, e = .returned (.tuple #[.agg #[.int .u16 i, .int .u8 s, .slice none 0 0], v, .int .i64 2]) else if (bs.length : Int) < n then ∃ i s v, e = .returned (.tuple #[.agg #[.int .u16 i, .int .u8 s, .slice none 0 0], v, .int .i64 3]) else
    ∃ vb vr, e = .returned (.tuple #[.agg #[.int .u16 idx, .int .u8 sub, vb], vr, .int .i64 0]) ∧ Own8 w.heap.size w' vb (bs.take n.toNat) ∧ BytesAt w' vr (bs.drop n.toNat) ∧ vr.ownBlock = ob

set_option maxRecDepth 100000 in
set_option maxHeartbeats 1000000 in
theorem item_long (v : Value) (bs : List UInt8) (w : World) (h : BytesAt w v bs) (h7 : 7 ≤ bs.length) (hl : bs.length ≤ 140737488351232) :
    Calls Try.prog 56 #[v] w (ItemPost v.ownBlock (numOf (bs.take 2)) (bs[2].toNat : Int) (numOf ((bs.drop 3).take 4)) (bs.drop 7) w) := by
  obtain ⟨A, cap, rfl, h1, h2, hc⟩ := bytes_cell h
  obtain ⟨g, off, rfl, hc2⟩ := hc (by omega)
  have hm : bs.length ≤ 9223372036854775807 := Nat.le_trans h1 h2
  have c0 : w.cell? ⟨g, off, none⟩ = some (.int .u8 (bs[0].toNat : Int)) := hc2 0 (by omega)
  have c1 : w.cell? ⟨g, off + 1, none⟩ = some (.int .u8 (bs[1].toNat : Int)) := hc2 1 (by omega)
  have c2 : w.cell? ⟨g, off + 2, none⟩ = some (.int .u8 (bs[2].toNat : Int)) := hc2 2 (by omega)
  have b0 := bs[0].toNat_lt
  have b1 := bs[1].toNat_lt
  have b2 := bs[2].toNat_lt
  have hg : g < w.heap.size := World.block_lt_of_cell? w _ c0
  have hg1 : g < w.heap.size + 1 := by omega
  have H := Lib.hid h
  clear h hc hc2
  unfold maxLen at h2
  go_enter Try.func56, Try.ntmps56
  go_upto_region 3 with fail
  have hidx : bits BinOp.or IntKind.u16 (IntKind.u16.wrap (bs[0].toNat : Int)) (IntKind.u16.wrap (IntKind.u16.wrap (bs[1].toNat : Int) * 256)) = numOf (bs.take 2) := by
    have e0 : IntKind.u16.wrap (bs[0].toNat : Int) = (bs[0].toNat : Int) := by rw [IntKind.wrap_u16]; omega
    have e1 : IntKind.u16.wrap (bs[1].toNat : Int) = (bs[1].toNat : Int) := by rw [IntKind.wrap_u16]; omega
    have e2 : IntKind.u16.wrap ((bs[1].toNat : Int) * 256) = (bs[1].toNat : Int) * 256 := by rw [IntKind.wrap_u16]; omega
    rw [e0, e1, e2, le16_sum _ _ b0 b1]
    clear e0 e1 e2
    clear c0 c1 c2 b0 b1 b2 H
    obtain ⟨x, y, r, rfl⟩ : ∃ x y r, bs = x :: y :: r := by
      match bs, h7 with
      | x :: y :: r, _ => exact ⟨x, y, r, rfl⟩
    simp [numOf]
  have hsub0 : (bs[2].toNat : Int) ≤ 255 := by omega
  have hk0 : (bs[0].toNat : Int) ≤ 255 := by omega
  have hk1 : (bs[1].toNat : Int) ≤ 255 := by omega
  have HIDX := Lib.hid hidx
  have l0n : 0 < bs.length := by omega
  have l0 : (0 : Int) < (bs.length : Int) := by omega
  have l1 : (1 : Int) < (bs.length : Int) := by omega
  have l2 : (2 : Int) < (bs.length : Int) := by omega
  clear hidx
  go_cut [5] (fun p wx => ItemCut w (numOf (bs.take 2)) (bs[2].toNat : Int) p wx)
  case first =>
    go_region_law (fail)
    all_goals
      go_wp2_with fail
      go_meet
      unfold ItemCut
      rw [HIDX.out]
      refine ⟨rfl, ?_, ?_, by (repeat' (first | (with_reducible exact Frm.refl _ _) | (with_reducible assumption) | (with_reducible refine Frm.alloc ?_ _) | (with_reducible refine Frm.drew ?_) | (with_reducible refine Frm.drewN ?_ _) | (with_reducible refine Frm.set1 ?_ _) | (with_reducible refine Frm.setCell ?_ ?_ _) | (intro hlt; simp [World.size_alloc, One] at hlt ⊢; omega)))⟩
      · (apply heap_fin; (case h => (repeat (first | (with_reducible exact heap_new _ _) | (with_reducible apply heap_alloc_old) | (with_reducible apply heap_drewN') | (with_reducible apply heap_drew') | (with_reducible apply heap_set_same) | (with_reducible refine heap_set_other ?_ (by simp only []; omega)) | (with_reducible exact heap_new_at (by simp))))); (case e => rfl))
      · (apply heap_fin; (case h => (repeat (first | (with_reducible exact heap_new_at (by simp)) | (with_reducible apply heap_alloc_old) | (with_reducible apply heap_drewN') | (with_reducible apply heap_drew') | (with_reducible apply heap_set_same) | (with_reducible refine heap_set_other ?_ (by simp only []; omega)) | (with_reducible exact heap_new_at (by simp))))); (case e => rfl))
  case rest =>
    obtain ⟨rfl, ht2, ht5, hF⟩ := hcut
    have HB : Hid (BytesAt wc (.slice (some ⟨g, off, none⟩) bs.length cap) bs) := H.out.grow hF
    have h2sz := lt_of_block ht2
    have h5sz := lt_of_block ht5
    have hft2 := frees ht2
    have hft5 := frees ht5
    have HF := Lib.hid hF
    clear hF
    obtain ⟨wo, hwo⟩ : ∃ wo : World, wo = wc := ⟨_, rfl⟩
    subst hwo
    have hn0 := numOf_bound ((bs.drop 3).take 4)
    have hn4 : ((bs.drop 3).take 4).length = 4 := by simp; omega
    rw [hn4] at hn0
    obtain ⟨hn0, hn1⟩ := hn0
    have hn1 : numOf ((bs.drop 3).take 4) < 4294967296 := by simpa using hn1
    have HR := Lib.hid (read32_any _ (bs.drop 3) wo (HB.out.sub 3 (by omega)) (by simp; omega))
    obtain ⟨n, hn⟩ : ∃ n, n = numOf ((bs.drop 3).take 4) := ⟨_, rfl⟩
    rw [← hn] at hn0 hn1 HR
    have HNE := Lib.hid hn
    clear hn
    have hc7 : 7 ≤ cap := by omega
    have d0 : wo.cell? ⟨w.heap.size + 1, 0, none⟩ = some (.int .u16 (numOf (bs.take 2))) := cell_at ht5
    have d1 : wo.cell? ⟨w.heap.size + 1, 1, none⟩ = some (.int .u8 (bs[2].toNat : Int)) := cell_at ht5
    have d2 : wo.cell? ⟨w.heap.size + 1, 2, none⟩ = some (.slice none 0 0) := cell_at ht5
    have f0 : wo.cell? ⟨w.heap.size, 0, none⟩ = some (.int .u16 0) := cell_at ht2
    have f1 : wo.cell? ⟨w.heap.size, 1, none⟩ = some (.int .u8 0) := cell_at ht2
    have f2 : wo.cell? ⟨w.heap.size, 2, none⟩ = some (.slice none 0 0) := cell_at ht2
    have HT2 := Lib.hid ht2
    have HT5 := Lib.hid ht5
    clear ht2 ht5
    obtain ⟨idx, hix⟩ : ∃ n, n = numOf (bs.take 2) := ⟨_, rfl⟩
    obtain ⟨sub, hsb⟩ : ∃ n : Int, n = (bs[2].toNat : Int) := ⟨_, rfl⟩
    rw [← hix] at d0 HT5
    rw [← hsb] at d1 HT5
    have HIX := Lib.hid hix
    have HSB := Lib.hid hsb
    clear hix hsb
    go_upto_region 5 with (go_at_call 55; refine HR.out.mono ?_; rintro e w3 ⟨rfl, m, rfl⟩)
    go_cut [0] (fun v wx => ∃ o2 c2 N : Nat, N = bs.length - 7 ∧ v = .slice (some ⟨g, o2, none⟩) N c2 ∧ N ≤ c2 ∧ c2 ≤ 9223372036854775807 ∧ BytesAt wx v (bs.drop 7) ∧ wx = wo.drewN m)
    case first =>
      by_cases hcap : cap = 7
      · have hb7 : bs.length = 7 := by omega
        subst hcap
        have hd : bs.drop 7 = [] := List.drop_eq_nil_of_le (by omega)
        go_wp2_with fail
        go_meet
        rw [hd]
        exact ⟨off, 0, 0, by omega, rfl, by omega, by omega, ⟨_, 0, rfl, Nat.le_refl _, by unfold maxLen; omega, fun h => absurd h (by simp)⟩, rfl⟩
      · go_wp2_with fail
        go_meet
        exact ⟨_, _, _, rfl, rfl, by omega, by omega, (HB.out.sub 7 h7).grow (by (repeat' (first | (with_reducible exact Frm.refl _ _) | (with_reducible assumption) | (with_reducible refine Frm.alloc ?_ _) | (with_reducible refine Frm.drew ?_) | (with_reducible refine Frm.drewN ?_ _) | (with_reducible refine Frm.set1 ?_ _) | (with_reducible refine Frm.setCell ?_ ?_ _) | (intro hlt; simp [World.size_alloc, One] at hlt ⊢; omega)))), rfl⟩
    case rest =>
      obtain ⟨o2, c2, N, hN, rfl, hcc2, hcc3, hB7, rfl⟩ := hcut
      have HB7 := Lib.hid hB7
      clear hB7
      have hlen7 : (bs.drop 7).length = N := by simp; omega
      have HL7 := Lib.hid hlen7
      have HNN := Lib.hid hN
      have hNl : N ≤ 140737488351232 := by omega
      clear hlen7 hN
      by_cases hbig : 65536 < n
      · go_wp2_with fail
        refine bodyPost_ret (ret_item rfl _ _ w.heap.size (.int .u16 idx) (.int .u8 sub) (.slice none 0 0) rfl (by (apply heap_fin; (case h => (repeat (first | (with_reducible exact HT2.out) | (with_reducible apply heap_alloc_old) | (with_reducible apply heap_drewN') | (with_reducible apply heap_drew') | (with_reducible apply heap_set_same) | (with_reducible refine heap_set_other ?_ (by simp only []; omega)) | (with_reducible exact heap_new_at (by simp))))); (case e => rfl)))) rfl ?_
        rw [← HNE.out]
        have hF := HF.out
        refine ⟨by ((repeat' (first | (with_reducible exact Frm.refl _ _) | (with_reducible assumption) | (with_reducible refine Frm.alloc ?_ _) | (with_reducible refine Frm.drew ?_) | (with_reducible refine Frm.drewN ?_ _) | (with_reducible refine Frm.set1 ?_ _) | (with_reducible refine Frm.setCell ?_ ?_ _) | (intro hlt; simp [World.size_alloc, One] at hlt ⊢; omega)))) <;> exact fun h => absurd h (Nat.lt_irrefl _), ?_⟩
        rw [if_pos hbig]
        exact ⟨_, _, _, rfl⟩
      · have hnn : n ≤ 65536 := by omega
        by_cases hsh : (N : Int) < n
        · have hbn : (65536 : Int) < n → False := by omega
          clear hbig
          go_wp2_with fail
          refine bodyPost_ret (ret_item rfl _ _ w.heap.size (.int .u16 idx) (.int .u8 sub) (.slice none 0 0) rfl (by (apply heap_fin; (case h => (repeat (first | (with_reducible exact HT2.out) | (with_reducible apply heap_alloc_old) | (with_reducible apply heap_drewN') | (with_reducible apply heap_drew') | (with_reducible apply heap_set_same) | (with_reducible refine heap_set_other ?_ (by simp only []; omega)) | (with_reducible exact heap_new_at (by simp))))); (case e => rfl)))) rfl ?_
          rw [← HNE.out]
          have hF := HF.out
          refine ⟨by ((repeat' (first | (with_reducible exact Frm.refl _ _) | (with_reducible assumption) | (with_reducible refine Frm.alloc ?_ _) | (with_reducible refine Frm.drew ?_) | (with_reducible refine Frm.drewN ?_ _) | (with_reducible refine Frm.set1 ?_ _) | (with_reducible refine Frm.setCell ?_ ?_ _) | (intro hlt; simp [World.size_alloc, One] at hlt ⊢; omega)))) <;> exact fun h => absurd h (Nat.lt_irrefl _), ?_⟩
          rw [if_neg (fun h => hbn h), if_pos (by rw [HL7.out]; omega)]
          exact ⟨_, _, _, rfl⟩
        · have hsh2 : n ≤ (N : Int) := by omega
          clear hsh hbig
          go_upto_region 10 with fail
          obtain ⟨k, hk⟩ : ∃ k : Nat, (k : Int) = n := ⟨n.toNat, by omega⟩
          subst hk
          have hs1 := slice_to (W := wo.drewN m) g o2 N c2 k (by omega)
          have hs2 := fun W => slice_from W g o2 N c2 k (by omega) (by omega)
          have HS2 := Lib.hid hs2
          clear hs2
          have hkl : ((bs.drop 7).take k).length = k := by rw [List.length_take, HL7.out]; omega
          have hcl : Calls Try.prog 65 #[.slice (some ⟨g, o2, none⟩) k c2] (wo.drewN m) fun e w' => ∃ A cap, e = .returned (.slice A k cap) ∧ Own8 w.heap.size w' (.slice A k cap) ((bs.drop 7).take k) ∧ Frm (fun _ => False) (wo.drewN m) w' :=
            (clone_any _ ((bs.drop 7).take k) _ (HB7.out.pre HL7.out k (by rw [HL7.out]; omega)) (by rw [hkl]; omega)).mono (by
              rintro e w' ⟨v, rfl, hO, hF⟩
              obtain ⟨A, cap, rfl, _⟩ := row_open hO
              have hO2 : Own8 w.heap.size w' (.slice A ((bs.drop 7).take k).length cap) ((bs.drop 7).take k) := row_base hO (HF.out.size)
              rw [show Value.slice A ((bs.drop 7).take k).length cap = .slice A k cap by rw [hkl]] at hO2 ⊢
              exact ⟨A, cap, rfl, hO2, hF⟩)
          have HKL := Lib.hid hkl
          have HCL := Lib.hid hcl
          have HKN : Hid (k ≤ N ∧ (k : Int) ≤ 65536) := ⟨by omega, hnn⟩
          clear hkl hcl
          go_wp2_with fail
          refine HCL.out.mono ?_
          rintro e w4 ⟨Ab, cb, rfl, hOwn, hF4⟩
          have hF4' : Frm (fun _ => False) wo w4 := Frm.trans' (by (repeat' (first | (with_reducible exact Frm.refl _ _) | (with_reducible assumption) | (with_reducible refine Frm.alloc ?_ _) | (with_reducible refine Frm.drew ?_) | (with_reducible refine Frm.drewN ?_ _) | (with_reducible refine Frm.set1 ?_ _) | (with_reducible refine Frm.setCell ?_ ?_ _) | (intro hlt; simp [World.size_alloc, One] at hlt ⊢; omega)))) hF4
          have ht2 := hF4'.heap HT2.out (fun h => h)
          have ht5 := hF4'.heap HT5.out (fun h => h)
          have f0 : w4.cell? ⟨w.heap.size, 0, none⟩ = some (.int .u16 0) := cell_at ht2
          have f1 : w4.cell? ⟨w.heap.size, 1, none⟩ = some (.int .u8 0) := cell_at ht2
          have f2 : w4.cell? ⟨w.heap.size, 2, none⟩ = some (.slice none 0 0) := cell_at ht2
          have d0 : w4.cell? ⟨w.heap.size + 1, 0, none⟩ = some (.int .u16 idx) := cell_at ht5
          have d1 : w4.cell? ⟨w.heap.size + 1, 1, none⟩ = some (.int .u8 sub) := cell_at ht5
          have d2 : w4.cell? ⟨w.heap.size + 1, 2, none⟩ = some (.slice none 0 0) := cell_at ht5
          have hq2 := frees ht2
          have hq5 := frees ht5
          have hz2 := lt_of_block ht2
          have hz5 := lt_of_block ht5
          have HT2' := Lib.hid ht2
          have HT5' := Lib.hid ht5
          have HOWN := Lib.hid hOwn
          have HF4 := Lib.hid (HF.out.trans' hF4')
          have HB4 := Lib.hid (HB7.out.grow hF4)
          clear hs1 ht2 ht5 hOwn hF4 hF4'
          have hkn : ((k : Int) ≤ N) := hsh2
          clear hnn hsh2 hn0 hn1 hkn
          go_upto_region 11 with fail
          have hs2 := HS2.out
          go_region_law (fail)
          all_goals (go_wp2_with fail)
          all_goals
            refine bodyPost_ret (ret_item rfl _ _ w.heap.size (.int .u16 idx) (.int .u8 sub) (.slice Ab k cb) rfl (by (apply heap_fin; (case h => (repeat (first | (with_reducible exact HT2'.out) | (with_reducible apply heap_alloc_old) | (with_reducible apply heap_drewN') | (with_reducible apply heap_drew') | (with_reducible apply heap_set_same) | (with_reducible refine heap_set_other ?_ (by simp only []; omega)) | (with_reducible exact heap_new_at (by simp))))); (case e => rfl)))) rfl ?_
            rw [← HNE.out]
            have hF := HF4.out
            refine ⟨by ((repeat' (first | (with_reducible exact Frm.refl _ _) | (with_reducible assumption) | (with_reducible refine Frm.alloc ?_ _) | (with_reducible refine Frm.drew ?_) | (with_reducible refine Frm.drewN ?_ _) | (with_reducible refine Frm.set1 ?_ _) | (with_reducible refine Frm.setCell ?_ ?_ _) | (intro hlt; simp [World.size_alloc, One] at hlt ⊢; omega)))) <;> exact fun h => absurd h (by simp only; omega), ?_⟩
            rw [if_neg (fun h => by have := HKN.out.2; omega), if_neg (fun h => by rw [HL7.out] at h; have := HKN.out.1; omega)]
            simp only [Int.toNat_natCast]
            have hfrom := HB4.out.from HL7.out k (by rw [HL7.out]; exact HKN.out.1)
            first | rw [if_pos (by assumption), show c2 - k = 0 by omega] at hfrom | rw [if_neg (by assumption)] at hfrom
            rw [← HIX.out, ← HSB.out]
            have hX := fun (W : World) (hF : Frm (fun j => j = w.heap.size ∨ j = w.heap.size + 1) w4 W) => Frm.row hF HOWN.out (fun j hj hs => by
              obtain ⟨_, cur, hc⟩ := row_block HOWN.out hj
              rcases hs with rfl | rfl
              · exact block_ne hc HT2'.out (by decide) rfl
              · exact block_ne hc HT5'.out (by decide) rfl)
            refine ⟨.slice Ab k cb, _, ?_, hX _ ?_, hfrom.frm (S := fun j => j = w.heap.size ∨ j = w.heap.size + 1) ?_ (fun j hj hs => ?_), rfl⟩
            · rfl
            · ((repeat' (first | (with_reducible exact Frm.refl _ _) | (with_reducible assumption) | (with_reducible refine Frm.alloc ?_ _) | (with_reducible refine Frm.drew ?_) | (with_reducible refine Frm.drewN ?_ _) | (with_reducible refine Frm.set1 ?_ _) | (with_reducible refine Frm.setCell ?_ ?_ _) | (intro hlt; simp [World.size_alloc, One] at hlt ⊢; omega)))) <;> exact fun _ => by simp
            · ((repeat' (first | (with_reducible exact Frm.refl _ _) | (with_reducible assumption) | (with_reducible refine Frm.alloc ?_ _) | (with_reducible refine Frm.drew ?_) | (with_reducible refine Frm.drewN ?_ _) | (with_reducible refine Frm.set1 ?_ _) | (with_reducible refine Frm.setCell ?_ ?_ _) | (intro hlt; simp [World.size_alloc, One] at hlt ⊢; omega)))) <;> exact fun _ => by simp
            · simp [Value.ownBlock] at hj
              omega

set_option maxRecDepth 100000 in
set_option maxHeartbeats 1000000 in
theorem item_short (v : Value) (bs : List UInt8) (w : World) (h : BytesAt w v bs) (h7 : bs.length < 7) :
    Calls Try.prog 56 #[v] w fun e w' => (∃ i s v, e = .returned (.tuple #[.agg #[.int .u16 i, .int .u8 s, .slice none 0 0], v, .int .i64 3])) ∧ Frm (fun _ => False) w w' := by
  obtain ⟨A, cap, rfl, h1, h2, hc⟩ := bytes_cell h
  clear hc h h1 h2
  go_enter Try.func56, Try.ntmps56
  go_wp2_with fail
  refine bodyPost_ret (ret_item rfl _ _ w.heap.size (.int .u16 0) (.int .u8 0) (.slice none 0 0) rfl (by (apply heap_fin; (case h => (repeat (first | (with_reducible exact heap_new _ _) | (with_reducible apply heap_alloc_old) | (with_reducible apply heap_drewN') | (with_reducible apply heap_drew') | (with_reducible apply heap_set_same) | (with_reducible refine heap_set_other ?_ (by simp only []; omega)) | (with_reducible exact heap_new_at (by simp))))); (case e => rfl)))) rfl ?_
  exact ⟨⟨_, _, _, rfl⟩, by ((repeat' (first | (with_reducible exact Frm.refl _ _) | (with_reducible assumption) | (with_reducible refine Frm.alloc ?_ _) | (with_reducible refine Frm.drew ?_) | (with_reducible refine Frm.drewN ?_ _) | (with_reducible refine Frm.set1 ?_ _) | (with_reducible refine Frm.setCell ?_ ?_ _) | (intro hlt; simp [World.size_alloc, One] at hlt ⊢; omega)))) <;> exact fun h => absurd h (Nat.lt_irrefl _)⟩

end Go.Proofs.Ytmkkeglcjbogcaa
