/-
  A value's bytes: the document's low, the code's Encode.
-/
import Derived.Test.YtemjdmgfilbfaaaTyC
import Derived.Laws.Bits64b
import Derived.Deep.DeepCutAuto
import Derived.Laws.BitsAllLaws
import Derived.Laws.MakeOwn
import Derived.Lib.ConvBytes
import Derived.Laws.IdiomStrings
namespace Go.Proofs.Ytemjdmgfilbfaaa
open Go.RowKit
set_option linter.unusedVariables false

/-- Bytes in memory of the call's own. -/
def Fresh8 (B : Nat) (w : World) (v : Value) (bs : List UInt8) : Prop := BytesAt w v bs ∧ ∀ k, v.ownBlock = some k → B ≤ k

theorem leOf_snoc (n : Int) (k : Nat) : leOf n (k + 1) = leOf n k ++ [UInt8.ofNat (n / 2 ^ (8 * k) % 256).toNat] := by
  induction k generalizing n with
  | zero => simp [leOf]
  | succ k ih =>
    have e : n / 256 / 2 ^ (8 * k) = n / 2 ^ (8 * (k + 1)) := by
      rw [Int.ediv_ediv_of_nonneg (by decide)]
      congr 1
      rw [show 8 * (k + 1) = 8 * k + 8 by omega, Int.pow_add]
      omega
    conv => lhs; rw [leOf]
    rw [ih (n / 256), e, leOf]
    rfl
theorem Own8.fresh {B : Nat} {w : World} {v : Value} {bs : List UInt8} {n : Nat} (h : w.ownsRow B 5 1 v n (bs.map encB)) : Fresh8 B w v bs := ⟨BytesAt.of_row h, fun _ hk => (row_block h hk).1⟩

set_option maxRecDepth 100000 in
set_option maxHeartbeats 1000000 in
theorem rlow_any (n : Int) (sz : Nat) (w : World) (h0 : 0 ≤ n) (h1 : n < two64) (hs : sz ≤ 8) :
    Calls Try.prog 113 #[.int .u64 n, .int .i64 sz] w fun e w' => ∃ s, e = .returned s ∧ Fresh8 w.heap.size w' s (leOf n sz) ∧ Frm (fun _ => False) w w' := by
  clear h1
  go_enter Try.func113, Try.ntmps113
  go_wp2_with fail
  go_loopw [5, 6] (fun v i wr => ∃ k : Nat, k ≤ sz ∧ i = .int .i64 k ∧ (∃ g cap, v = .slice (some ⟨g, 0, none⟩) k cap) ∧ wr.ownsRow w.heap.size 5 1 v k ((leOf n k).map encB) ∧ Frm (fun _ => False) w wr) (fun _ i _ => sz - (intOf i).toNat)
  case atStart => exact ⟨0, Nat.zero_le _, rfl, ⟨_, _, rfl⟩, by simpa [leOf] using empty_row w 5 1 w.heap.size (Nat.le_refl _), by (repeat' (first | (with_reducible exact Frm.refl _ _) | (with_reducible assumption) | (with_reducible refine Frm.alloc ?_ _) | (with_reducible refine Frm.drew ?_) | (with_reducible refine Frm.drewN ?_ _) | (with_reducible refine Frm.set1 ?_ _) | (with_reducible refine Frm.setCell ?_ ?_ _) | (exact fun h => absurd h (Nat.lt_irrefl _)) | (intro hlt; simp [World.size_alloc, One] at hlt ⊢; omega)))⟩
  case round =>
    obtain ⟨k, hk, rfl, ⟨gb, capb, rfl⟩, hrow, hF⟩ := hrel
    have HO := Lib.hid hrow
    have HF := Lib.hid hF
    have hsz := hF.size
    clear hrow hF
    by_cases hlt : k < sz
    · have hk7 : (k : Int) ≤ 7 := by omega
      have hm3 : k + 1 ≤ maxLen := by unfold maxLen; omega
      have hm4 : (k + 1) * 1 ≤ 140737488355328 := by omega
      have HLE := Lib.hid (leOf_snoc n k)
      go_wp2_with (at_builtin; go_loud (refine wpl_app rfl el_u8 (.tmp 13) (.tmp 20) rfl (B := w.heap.size) (e2 := 5) (fr := (0, 0)) (arr := #[.int .u8 (n / 2 ^ (8 * k) % 256)]) rfl rfl (Frm.row (S := fun _ => False) (w := wr) (by (repeat' (first | (with_reducible exact Frm.refl _ _) | (with_reducible assumption) | (with_reducible refine Frm.alloc ?_ _) | (with_reducible refine Frm.drew ?_) | (with_reducible refine Frm.drewN ?_ _) | (with_reducible refine Frm.set1 ?_ _) | (with_reducible refine Frm.setCell ?_ ?_ _) | (exact fun h => absurd h (Nat.lt_irrefl _)) | (intro hlt; simp [World.size_alloc, One] at hlt ⊢; omega)))) HO.out (fun _ _ h => h)) (heap_new_at (by simp)) rfl (by simp [Value.oneCell']) (by decide) hm3 hm4 (by simp; omega) ?_; intro g5 cap5 w5 hown5 hfr5 hat5 hlt5))
      go_roundw
      case rel =>
        refine ⟨k + 1, by omega, by go_num, ⟨g5, cap5, rfl⟩, ?_, ?_⟩
        · rw [HLE.out, List.map_append]
          simp only [List.map_cons, List.map_nil, encB_mod]
          exact hown5
        · exact (HF.out.trans' (Frm.alloc (Frm.refl _ _) _)).trans hfr5 (fun i hi hs => absurd (row_block HO.out hs).1 (by omega))
      case measure => simp [intOf]; omega
    · obtain rfl : k = sz := by omega
      go_wp2_with fail
      go_ret
      exact ⟨_, rfl, Own8.fresh HO.out, HF.out⟩

theorem info_u8E : (Try.prog.info? 5).map (fun i => (i.zero, i.size, i.bytes)) = some (some (.int .u8 0), 1, 1) := by kernel_rfl
theorem made_repE (v : Value) (n : Nat) : madeCells #[v] n = (List.replicate n v).toArray := by
  apply Array.ext_getElem?
  intro j
  by_cases hj : j < n
  · simp [madeCells, hj, Nat.mod_one]
  · simp [madeCells, hj]
theorem make_u8E (n : Nat) (h : n ≤ 1000) (W : World) : Sem.run Try.prog (Instr.makeSlice 33 (.int .i64 n) (.int .i64 n)) W = .ok (.slice (some ⟨W.heap.size, 0, none⟩) n n) (W.alloc (.cells (List.replicate n (.int .u8 0)).toArray 5)) := by
  obtain ⟨i, hi, h0, h1, h2⟩ := info_parts info_u8E
  have := run_make (P := Try.prog) W 33 5 i _ Try.underlying33 hi h0 .i64 .i64 n n (by omega) (Int.le_refl _) (by rw [h2]; omega) (by omega)
  rw [h1] at this
  simp only [Int.toNat_natCast, Nat.mul_one] at this
  rw [← made_repE]
  exact this
theorem row_at {w : World} {cs : Array Value} {e n size B g : Nat} {xs : List Value} (hb : w.heap[g]? = some (.cells cs e (0, 0))) (h : cs.size = n * size) (hx : cs.toList = xs) (hn : n ≤ maxLen) (hB : B ≤ g) :
    w.ownsRow B e size (.slice (some ⟨g, 0, none⟩) n n) n xs := by
  refine ⟨by rw [← hx]; simpa using h, .inr ⟨g, n, cs, rfl, hB, hb, Nat.le_refl _, hn, h, ?_⟩⟩
  rw [hx, List.take_of_length_le (by rw [← hx]; simp [h])]
theorem set_mid {α : Type} (pre : List α) (x z : α) (m : Nat) : (pre ++ List.replicate (m + 1) z).set pre.length x = (pre ++ [x]) ++ List.replicate m z := by
  rw [List.set_append_right _ _ (Nat.le_refl _), Nat.sub_self, List.replicate_succ, List.set_cons_zero]
  simp

/-- '[]byte(s)'. -/
theorem conv_str (b : List UInt8) (hb : b.length ≤ 140737488351232) (W : World) : ∃ v w', (convert 9 33 (.string (strB2 b))).run Try.prog W = .ok v w' ∧ Fresh8 W.heap.size w' v b ∧ Frm (fun _ => False) W w' := by
  have hs : (strB2 b).size = b.length := by simp [strB2, ByteArray.size]
  have hg : (strB2 b).data.toList = b := by simp [strB2]
  refine ⟨_, _, Lib.run_convert_string_bytes W 9 33 5 (strB2 b) Try.underlying9 Try.underlying33 Try.underlying5, ⟨?_, ?_⟩, ?_⟩
  · have h1 := grownCap_ge W (strB2 b).size 0 5
    have h2 : grownCap W (strB2 b).size 0 5 ≤ maxLen := grownCap_le_maxLen W _ _ _ (by rw [hs]; unfold maxLen; omega)
    rw [hs] at h1 h2 ⊢
    refine ⟨_, _, rfl, by omega, h2, fun h0 => ⟨_, 0, rfl, fun i hi => ?_⟩⟩
    rw [Nat.zero_add, Lib.bytesWorld_cell _ _ _ _ (by rw [hs]; exact hi), hg]
  · intro k hk
    cases hk
    exact Nat.le_refl _
  · refine ⟨rfl, rfl, rfl, by rw [Lib.bytesWorld_size]; omega, fun k hk _ => Lib.bytesWorld_at_old _ _ _ _ hk⟩

def EncP (v : Va) (w : World) (e : Ending) (w' : World) : Prop := ∃ s, e = .returned (.tuple #[s, .int .i64 (encV v).2]) ∧ Fresh8 w.heap.size w' s (encV v).1 ∧ Frm (fun _ => False) w w'
theorem Fresh8.nil (B : Nat) (w : World) : Fresh8 B w (.slice none 0 0) [] := ⟨⟨none, 0, rfl, Nat.le_refl _, Nat.zero_le _, fun h => absurd h (by simp)⟩, fun k hk => by cases hk⟩
theorem Fresh8.grow {B : Nat} {w w' : World} {v : Value} {bs : List UInt8} (h : Fresh8 B w v bs) (hF : Frm (fun _ => False) w w') : Fresh8 B w' v bs := ⟨h.1.grow hF, h.2⟩
theorem Fresh8.base {B C : Nat} {w : World} {v : Value} {bs : List UInt8} (h : Fresh8 B w v bs) (hC : C ≤ B) : Fresh8 C w v bs := ⟨h.1, fun k hk => Nat.le_trans hC (h.2 k hk)⟩

set_option maxRecDepth 100000 in
set_option maxHeartbeats 2000000 in
theorem tyEnc_any (v : Va) (w : World) (hv : v.ok) : Calls Try.prog 51 #[valV v] w (EncP v w) := by
  have HCK := Lib.hid (fun W => tyChk_any v W hv)
  obtain ⟨t, n, b⟩ := v
  obtain ⟨h0, h1, h2⟩ := hv
  simp only at h0 h1 h2
  have HB := Lib.hid h2
  have HOF := Lib.hid (fun W => tyOf_any t W)
  have HE : Hid (encV ⟨t, n, b⟩ = if checkV ⟨t, n, b⟩ ≠ 0 then ([], checkV ⟨t, n, b⟩) else if sizeT t ≠ 0 then (leOf n (sizeT t).toNat, 0) else (b, 0)) := rfl
  have hsz : sizeT t = 0 ∨ ∃ k : Nat, sizeT t = k ∧ 1 ≤ k ∧ k ≤ 8 := by rcases sizeT_vals t with h | h | h | h | h <;> first | exact .inl h | exact .inr ⟨_, h, by decide, by decide⟩
  clear h1 h2
  unfold valV kindV EncP at *
  generalize encV ⟨t, n, b⟩ = er at *
  generalize checkV ⟨t, n, b⟩ = r at *
  generalize sizeT t = sz at *
  generalize sgnT t = sg at *
  generalize isT t = is at *
  simp only at HCK
  go_enter Try.func51, Try.ntmps51
  go_wp2_with fail
  refine (HCK.out _).mono ?_
  rintro e w1 ⟨rfl, hF⟩
  have k1 := hF.heap (heap_new w _) (fun h => h)
  have a0 : w1.cell? ⟨w.heap.size, 0, none⟩ = some (.int .i64 t) := cell_at k1
  have l1 := lt_of_block k1
  have HF : Hid (Frm (fun _ => False) w w1) := Frm.trans' (b := _) (by (repeat' (first | (with_reducible exact Frm.refl _ _) | (with_reducible assumption) | (with_reducible refine Frm.alloc ?_ _) | (with_reducible refine Frm.drew ?_) | (with_reducible refine Frm.drewN ?_ _) | (with_reducible refine Frm.set1 ?_ _) | (with_reducible refine Frm.setCell ?_ ?_ _) | (exact fun h => absurd h (Nat.lt_irrefl _)) | (intro hlt; simp [World.size_alloc, One] at hlt ⊢; omega)))) hF
  have K1 := Lib.hid k1
  clear hF k1 HCK
  by_cases hr : r = 0
  case neg =>
    have b1 : (r != 0) = true := by simpa using hr
    have E : Hid (er = ([], r)) := by unfold Hid; rw [HE.out, if_pos hr]
    clear hr HE
    go_wp2_with fail
    go_ret2
    exact ⟨_, by rw [E.out]; rfl, by rw [E.out]; exact Fresh8.nil _ _, HF.out⟩
  case pos =>
    subst hr
    rw [if_neg (by simp)] at HE
    go_wp2_with fail
    refine (HOF.out _).mono ?_
    rintro e w2 ⟨rfl, hF2⟩
    have k2 := hF2.heap K1.out (fun h => h)
    have d1 : w2.cell? ⟨w.heap.size, 1, none⟩ = some (.int .u64 n) := cell_at k2
    have d2 : w2.cell? ⟨w.heap.size, 2, none⟩ = some (.string (strB2 b)) := cell_at k2
    have l2 := lt_of_block k2
    have HF2 : Hid (Frm (fun _ => False) w w2) := HF.out.trans' hF2
    have K2 := Lib.hid k2
    clear hF2 k2 a0 l1 HF K1
    rcases hsz with rfl | ⟨k, rfl, hk1, hk8⟩
    · have E : Hid (er = (b, 0)) := by unfold Hid; rw [HE.out, if_neg (by simp)]
      clear HE
      obtain ⟨vb, w3, hrun, hfr, hF3⟩ := conv_str b HB.out (w2.alloc (.cells #[.int .i64 0, .bool sg, .bool is] 145))
      have HFR := Lib.hid hfr
      have HF3 : Hid (Frm (fun _ => False) w w3) := (HF2.out.trans' (Frm.alloc (Frm.refl _ _) _)).trans' hF3
      have HLE : Hid (w.heap.size ≤ (w2.alloc (.cells #[.int .i64 0, .bool sg, .bool is] 145)).heap.size) := by unfold Hid; simp; omega
      clear hfr hF3
      go_wp2_with fail
      go_ret2
      exact ⟨_, by rw [E.out]; rfl, by rw [E.out]; exact HFR.out.base HLE.out, HF3.out⟩
    · have E : Hid (er = (leOf n k, 0)) := by unfold Hid; rw [HE.out, if_pos (by omega)]; simp
      have bz : (((k : Nat) : Int) == 0) = false := beq_eq_false_iff_ne.2 (by omega)
      have hmk := Lib.hid (fun W => make_u8E k (by omega) W)
      clear HE
      have hmk2 := hmk.out (w2.alloc (.cells #[.int .i64 k, .bool sg, .bool is] 145))
      go_wp2_with fail
      have hg : w2.heap.size + 1 = (w2.alloc (.cells #[.int .i64 k, .bool sg, .bool is] 145)).heap.size := by simp
      go_loopw [7, 27] (fun u i wr => ∃ j : Nat, j ≤ k ∧ i = .int .i64 j ∧ wr.heap[w2.heap.size + 1]? = some (.cells ((leOf n j).map encB ++ List.replicate (k - j) (Value.int .u8 0)).toArray 5 (0, 0)) ∧ Frm (One (w2.heap.size + 1)) w2 wr) (fun _ i _ => k - (intOf i).toNat)
      case atStart => exact ⟨0, Nat.zero_le _, rfl, by simpa [leOf] using heap_new_at (w := w2.alloc (.cells #[.int .i64 k, .bool sg, .bool is] 145)) hg, by (repeat' (first | (with_reducible exact Frm.refl _ _) | (with_reducible assumption) | (with_reducible refine Frm.alloc ?_ _) | (with_reducible refine Frm.drew ?_) | (with_reducible refine Frm.drewN ?_ _) | (with_reducible refine Frm.set1 ?_ _) | (with_reducible refine Frm.setCell ?_ ?_ _) | (exact fun h => absurd h (Nat.lt_irrefl _)) | (intro hlt; simp [World.size_alloc, One] at hlt ⊢; omega)))⟩
      case round =>
        clear hg hmk2
        obtain ⟨j, hj, rfl, hblk, hFr⟩ := hrel
        have HBLK := Lib.hid hblk
        have HFR := Lib.hid hFr
        have c1 : wr.cell? ⟨w.heap.size, 1, none⟩ = some (.int .u64 n) := hFr.cell d1 (fun e => by have e : w.heap.size = w2.heap.size + 1 := e; omega)
        have lg := lt_of_block hblk
        have fg := frees hblk
        by_cases hlt : j < k
        · have hlj : (leOf n j).length = j := leOf_length n j
          obtain ⟨m, hm⟩ : ∃ m, k - j = m + 1 := ⟨k - j - 1, by omega⟩
          have hcj : wr.cell? ⟨w2.heap.size + 1, j, none⟩ = some (.int .u8 0) := by
            rw [cell_at hblk, hm]
            simp [hlj]
          have HLE := Lib.hid (leOf_snoc n j)
          have HLJ := Lib.hid hlj
          have HM := Lib.hid hm
          have hj7 : (j : Int) ≤ 7 := by omega
          clear hblk hFr hlj hm
          go_wp2_with fail
          go_roundw
          case rel =>
            refine ⟨j + 1, by omega, by go_num, ?_, HFR.out.set1 _⟩
            have h := heap_set_same (o := j) HBLK.out (.int .u8 (n / 2 ^ (8 * j) % 256))
            rw [HM.out] at h
            rw [HLE.out, show k - (j + 1) = m by have := HM.out; omega, List.map_append, List.map_cons, List.map_nil, encB_mod]
            have h2 := set_mid ((leOf n j).map encB) (Value.int .u8 (n / 2 ^ (8 * j) % 256)) (Value.int .u8 0) m
            rw [List.length_map, HLJ.out] at h2
            rw [← h2]
            simpa using h
          case measure => simp [intOf]; omega
        · obtain rfl : j = k := by omega
          have HJ : Hid (Fresh8 w.heap.size wr (.slice (some ⟨w2.heap.size + 1, 0, none⟩) j j) (leOf n j)) := by
            refine Own8.fresh (n := j) (row_at hblk (by simp [leOf_length]) (by simp) (by unfold maxLen; omega) (by omega))
          clear hblk hFr
          go_wp2_with fail
          go_ret2
          exact ⟨_, by rw [E.out]; rfl, by rw [E.out]; exact HJ.out, HF2.out.trans HFR.out (fun i hi e => by have e : i = w2.heap.size + 1 := e; omega)⟩
end Go.Proofs.Ytemjdmgfilbfaaa
