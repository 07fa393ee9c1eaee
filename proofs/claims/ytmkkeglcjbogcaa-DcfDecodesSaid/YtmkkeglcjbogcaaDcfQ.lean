/-
  The document's Decode: its walk.
-/
import Derived.Test.YtmkkeglcjbogcaaDcfR
import Derived.IntWalk
namespace Go.Proofs.Ytmkkeglcjbogcaa
open Go.RowKit
set_option linter.unusedVariables false

theorem slice_mid (g o N c i k : Nat) (x y : Int) (hx : x = i) (hy : y = (i : Int) + k) (h : i + k ≤ N) (hc : N ≤ c) (kl kh : IntKind) : ∃ o2 c2, k ≤ c2 ∧ c2 ≤ c ∧ (0 < k → o2 = o + i) ∧ ∀ W, (Instr.slice 22 (.slice (some ⟨g, o, none⟩) N c) (some (.int kl x)) (some (.int kh y)) none).run Try.prog W = .ok (.slice (some ⟨g, o2, none⟩) k c2) W := by
  have ht : Try.prog.underlying 22 = some (.slice (Try.prog.elem 22)) := by kernel_rfl
  have he : Try.prog.elem 22 = 5 := by kernel_rfl
  subst hx hy
  refine ⟨if c = i then o else o + i, c - i, by omega, by omega, fun h0 => by rw [if_neg (by omega)], fun W => ?_⟩
  rw [run_slice_lh W 22 _ _ _ ht kl kh _ _ (by omega) (by omega) (by omega), he, size_u8]
  have e1 : ((i : Int) + k).toNat = i + k := by omega
  by_cases e : c = i
  · simp [Result.andThen, sliced, Addr.add, e, e1]
  · by_cases e0 : i = 0
    · simp [Result.andThen, sliced, Addr.add, e, e0]
    · simp [Result.andThen, sliced, Addr.add, e, e0, e1]

set_option maxRecDepth 100000 in
set_option maxHeartbeats 2000000 in
theorem rdecode_any (v : Value) (bs : List UInt8) (w : World) (h : BytesAt w v bs) (hl : bs.length ≤ 140737488351232) :
    Calls Try.prog 15 #[v] w (DecPost bs w) := by
  by_cases h4 : bs.length < 4
  · have HD := Lib.hid (decOf_short h4)
    obtain ⟨A, cap, rfl, h1, h2, hc⟩ := bytes_cell h
    clear hc h h1 h2
    go_enter Try.func15, Try.ntmps15
    go_wp2_with fail
    go_ret2
    exact ⟨Frm.refl _ _, _, [], 3, rfl, HD.out.symm, .nil _ _⟩
  have h4' : 4 ≤ bs.length := by omega
  have hn0 := numOf_nn (bs.take 4)
  obtain ⟨n, hn⟩ : ∃ n : Nat, numOf (bs.take 4) = n := ⟨(numOf (bs.take 4)).toNat, by omega⟩
  have hr0 := rread_any v bs 0 4 w h (by omega) (by omega)
  rw [List.drop_zero, hn] at hr0
  have HR := Lib.hid hr0
  have H := Lib.hid h
  obtain ⟨A, cap, rfl, h1, h2, hc⟩ := bytes_cell h
  obtain ⟨g, off, rfl, hc2⟩ := hc (by omega)
  unfold maxLen at h2
  have hgs : g < w.heap.size := World.block_lt_of_cell? w _ (hc2 0 (by omega))
  clear hc hc2 h h4 hn0 hr0
  by_cases hbig : 1024 < n
  · have HD := Lib.hid (decOf_big h4' (by rw [hn]; omega))
    clear hn
    go_enter Try.func15, Try.ntmps15
    go_wp2_with (go_at_call 57; refine HR.out.mono ?_; rintro e w3 ⟨rfl, hw3⟩; subst w3)
    go_ret2
    exact ⟨Frm.refl _ _, _, [], 2, rfl, HD.out.symm, .nil _ _⟩
  have HD := Lib.hid (decOf_run h4' n hn (by omega))
  have hn1 : n ≤ 1024 := by omega
  clear hn hbig
  go_enter Try.func15, Try.ntmps15
  go_wp2_with (go_at_call 57; refine HR.out.mono ?_; rintro e w3 ⟨rfl, hw3⟩; subst w3)
  go_loopw [5, 6] (fun at' lv wr => ∃ (xs : List Itm) (a : Nat), xs.length ≤ n ∧ at' = .int .i64 a ∧ a ≤ bs.length ∧ ItemsRow w.heap.size wr lv xs ∧ Frm (fun _ => False) w wr ∧
    decN n (bs.drop 4) = catD (xs.map bare) (decN (n - xs.length) (bs.drop a))) (fun _ lv _ => match lv with | .slice _ m _ => n - m | _ => 0)
  case atStart => exact ⟨[], 4, Nat.zero_le _, rfl, h4', by refine ⟨?_, fun x hx => by cases hx⟩; exact row_new rfl rfl rfl (by decide) (Nat.le_refl _), by (repeat' (first | (with_reducible exact Frm.refl _ _) | (with_reducible assumption) | (with_reducible refine Frm.alloc ?_ _) | (with_reducible refine Frm.drew ?_) | (with_reducible refine Frm.drewN ?_ _) | (with_reducible refine Frm.set1 ?_ _) | (with_reducible refine Frm.setCell ?_ ?_ _) | (intro hlt; simp [World.size_alloc, One] at hlt ⊢; omega))), (catD_nil _).symm⟩
  case round =>
    obtain ⟨xs, a, hxl, rfl, hal, hX, hF, hdec⟩ := hrel
    obtain ⟨Al, cl, rfl, g3, g4, _⟩ := row_open hX.1
    have HX := Lib.hid hX
    have HF := Lib.hid hF
    have HDEC := Lib.hid hdec
    have hsz := hF.size
    have hll : (bs.drop a).length = bs.length - a := List.length_drop
    clear hX hF hdec
    by_cases hlt : xs.length < n
    · obtain ⟨j, hj⟩ : ∃ j, n - xs.length = j + 1 := ⟨n - xs.length - 1, by omega⟩
      rw [hj] at HDEC
      have HJ := Lib.hid hj
      clear hj
      by_cases h7 : bs.length - a < 7
      · have HFIN : Hid (([], 3) = decOf bs) := by unfold Hid; rw [HD.out, HDEC.out, decN_short (by omega)]; rfl
        have h7' : (bs.length : Int) - a < 7 := by omega
        clear hll h7
        go_wp2_with fail
        go_ret2
        exact ⟨HF.out, _, [], 3, rfl, HFIN.out, .nil _ _⟩
      · have h7' : 7 ≤ (bs.length : Int) - a := by omega
        have hr3 := fun W (hW : Frm (fun _ => False) w W) => rread_any _ bs (a + 3) 4 W (H.out.grow hW) (by omega) (by omega)
        have hr2 := fun W (hW : Frm (fun _ => False) w W) => rread_any _ bs a 2 W (H.out.grow hW) (by omega) (by omega)
        have hd3 : numOf ((bs.drop (a + 3)).take 4) = numOf (((bs.drop a).drop 3).take 4) := by rw [List.drop_drop]
        obtain ⟨num, hnum⟩ : ∃ i, numOf (((bs.drop a).drop 3).take 4) = i := ⟨_, rfl⟩
        have hnn := numOf_nn (((bs.drop a).drop 3).take 4)
        rw [hnum] at hd3 hnn
        rw [hd3] at hr3
        have hr3' : ∀ W (hW : Frm (fun _ => False) w W), Calls Try.prog 57 #[.slice (some ⟨g, off, none⟩) bs.length cap, .int .i64 ((a : Int) + 3), .int .i64 4] W fun e w' => e = .returned (.int .i64 num) ∧ w' = W := fun W hW => by
          have := hr3 W hW
          rwa [show ((a + 3 : Nat) : Int) = (a : Int) + 3 by omega] at this
        have HR3 := Lib.hid hr3'
        have HR2 := Lib.hid hr2
        have HNUM := Lib.hid hnum
        have h3b : 7 ≤ (bs.drop a).length := by omega
        have HLL := Lib.hid hll
        have hll7 : ((bs.drop a).drop 7).length = bs.length - a - 7 := by rw [List.length_drop, hll]
        clear hd3 hr3 hr2 hr3' hll h7
        by_cases hb : 65536 < num
        · have HFIN : Hid (([], 2) = decOf bs) := by unfold Hid; rw [HD.out, HDEC.out, decN_big h3b (by rw [hnum]; exact hb)]; rfl
          clear hnum hll7 hnn
          go_wp2_with (go_at_call 57; refine (HR3.out _ HF.out).mono ?_; rintro e w3 ⟨rfl, hw3⟩; subst w3)
          go_ret2
          exact ⟨HF.out, _, [], 2, rfl, HFIN.out, .nil _ _⟩
        · by_cases hs : ((bs.length : Int) - a - 7) < num
          · have HFIN : Hid (([], 3) = decOf bs) := by unfold Hid; rw [HD.out, HDEC.out, decN_less h3b (by rw [hnum]; omega) (by rw [hnum, hll7]; omega)]; rfl
            have hb' : num ≤ 65536 := by omega
            clear hnum hll7 hb
            go_wp2_with (go_at_call 57; refine (HR3.out _ HF.out).mono ?_; rintro e w3 ⟨rfl, hw3⟩; subst w3)
            go_ret2
            exact ⟨HF.out, _, [], 3, rfl, HFIN.out, .nil _ _⟩
          · obtain ⟨kk, rfl⟩ : ∃ kk : Nat, num = kk := ⟨num.toNat, by omega⟩
            have HM := Lib.hid (decN_more (m := j) h3b hnum (by omega) (by rw [hll7]; omega))
            obtain ⟨o2, c2, hk2, hc2c, ho2, hsl⟩ := slice_mid g off bs.length cap (a + 7) kk ((a : Int) + 7) ((a : Int) + 7 + kk) (by omega) (by omega) (by omega) h1 .i64 .i64
            have hnews : Hid (0 < kk → NewsOf w (some ⟨g, o2, none⟩) ((((bs.drop a).drop 7).take kk).map encB)) := by
              intro h0
              rw [ho2 h0]
              obtain ⟨A2, cap2, e2, _, _, hnw⟩ := H.out.open_
              simp only [Value.slice.injEq] at e2
              obtain ⟨rfl, _, rfl⟩ := e2
              obtain ⟨g2, off2, e3, hc3⟩ := hnw (by omega)
              simp only [Option.some.injEq, Addr.mk.injEq] at e3
              obtain ⟨rfl, rfl, _⟩ := e3
              refine ⟨g, off + (a + 7), rfl, fun q u hq => ?_⟩
              rw [Nat.add_assoc]
              refine hc3 _ u ?_
              rw [List.getElem?_map] at hq ⊢
              rw [List.drop_drop, List.getElem?_take] at hq
              split at hq
              · rw [List.getElem?_drop] at hq; exact hq
              · simp at hq
            have HLEN : Hid (((((bs.drop a).drop 7).take kk).map encB).length = kk * 1) := by unfold Hid; rw [List.length_map, List.length_take, hll7]; omega
            have HONEB := Lib.hid (oneB (((bs.drop a).drop 7).take kk))
            have HTL : Hid ((((bs.drop a).drop 7).take kk).length = kk) := by unfold Hid; rw [List.length_take, hll7]; omega
            obtain ⟨idx, hidx⟩ : ∃ i, numOf ((bs.drop a).take 2) = i := ⟨_, rfl⟩
            obtain ⟨sub, hsub⟩ : ∃ i : Int, ((bs.drop a)[2].toNat : Int) = i := ⟨_, rfl⟩
            have hib : 0 ≤ idx ∧ idx ≤ 65535 := by
              have := numOf_bound ((bs.drop a).take 2)
              have hl2 : ((bs.drop a).take 2).length = 2 := by rw [List.length_take]; omega
              rw [hl2, hidx] at this
              omega
            obtain ⟨hi0, hi1⟩ := hib
            have hiw : IntKind.u16.wrap idx = idx := by rw [IntKind.wrap_u16]; omega
            have HIW := Lib.hid hiw
            have HR2 : Hid (∀ W (hW : Frm (fun _ => False) w W), Calls Try.prog 57 #[.slice (some ⟨g, off, none⟩) bs.length cap, .int .i64 a, .int .i64 2] W fun e w' => e = .returned (.int .i64 idx) ∧ w' = W) := by rw [← hidx]; exact HR2.out
            have csub : wr.cell? ⟨g, off + (a + 2), none⟩ = some (.int .u8 sub) := by
              obtain ⟨A2, cap2, e2, _, _, hcc⟩ := bytes_cell H.out
              simp only [Value.slice.injEq] at e2
              obtain ⟨rfl, _, rfl⟩ := e2
              obtain ⟨g2, off2, e3, hc3⟩ := hcc (by omega)
              simp only [Option.some.injEq, Addr.mk.injEq] at e3
              obtain ⟨rfl, rfl, _⟩ := e3
              have := HF.out.cell (hc3 (a + 2) (by omega)) (fun h => h)
              rw [this, ← hsub]
              simp
            rw [hidx, hsub] at HM
            have HXR := Lib.hid HX.out.1
            have hm3 : kk ≤ maxLen := by unfold maxLen; omega
            have hm4 : kk * 1 ≤ 140737488355328 := by omega
            have hm5 : xs.length + 1 ≤ maxLen := by unfold maxLen; omega
            have hm6 : (xs.length + 1) * 32 ≤ 140737488355328 := by omega
            have hkk1 : (kk : Int) ≤ 65536 := by omega
            have hkk2 : (kk : Int) ≤ (bs.length : Int) - a - 7 := by omega
            have HEMP := Lib.hid (empty_row wr 5 1 wr.heap.size (Nat.le_refl _))
            clear hnum hll7 hb hs ho2 hidx hsub hiw hnn
            go_upto_region 15 with (go_at_call 57; refine (HR3.out _ HF.out).mono ?_; rintro e w3 ⟨rfl, hw3⟩; subst w3)
            have ia1 : (a : Int) + 2 < (bs.length : Int) := by omega
            have ia0 : (0 : Int) ≤ (a : Int) + 2 := by omega
            have ia2 : ((a : Int) + 2).toNat = a + 2 := by omega
            have ib1 : (a : Int) + 7 + kk ≤ (bs.length : Int) := by omega
            have hw1 := IntWalk.i64_in ((a : Int) + 2) (by omega)
            have hw2 := IntWalk.i64_in ((a : Int) + 7) (by omega)
            have hw3 := IntWalk.i64_in ((a : Int) + 7 + kk) (by omega)
            go_region_held3 (fun w' => w'.cell? ⟨g, off + (a + 2), none⟩ = some (.int .u8 sub))
              (first | exact csub5 | exact csub3 | exact csub | exact cell_alloc_old csub3 | exact cell_alloc_old csub | exact cell_drew' csub | exact cell_alloc_old (cell_drew' csub) | exact cell_drew' (cell_alloc_old csub))
              (first
                | (refine step_call 57 (by rfl) (by rfl) Try.func57 (by rfl) (by rfl) (by rfl) ((HR2.out _ (Frm.trans' HF.out (by (repeat' (first | (with_reducible exact Frm.refl _ _) | (with_reducible assumption) | (with_reducible refine Frm.alloc ?_ _) | (with_reducible refine Frm.drew ?_) | (with_reducible refine Frm.drewN ?_ _) | (with_reducible refine Frm.set1 ?_ _) | (with_reducible refine Frm.setCell ?_ ?_ _) | (intro hlt; simp [World.size_alloc, One] at hlt ⊢; omega)))))).mono ?_); rintro e w3 ⟨rfl, hw3⟩; subst w3; refine CallK.ret ?_)
                | (refine step_clone (by rfl) el_u8 _ _ (by rfl) (by rfl) (by rfl) (B := wr.heap.size) (news := (((bs.drop a).drop 7).take kk).map encB) (Frm.row (S := fun _ => False) (by (repeat' (first | (with_reducible exact Frm.refl _ _) | (with_reducible assumption) | (with_reducible refine Frm.alloc ?_ _) | (with_reducible refine Frm.drew ?_) | (with_reducible refine Frm.drewN ?_ _) | (with_reducible refine Frm.set1 ?_ _) | (with_reducible refine Frm.setCell ?_ ?_ _) | (intro hlt; simp [World.size_alloc, One] at hlt ⊢; omega)))) HEMP.out (fun _ _ h => h)) HLEN.out (fun h0 => (hnews.out h0).grow (Frm.trans' HF.out (by (repeat' (first | (with_reducible exact Frm.refl _ _) | (with_reducible assumption) | (with_reducible refine Frm.alloc ?_ _) | (with_reducible refine Frm.drew ?_) | (with_reducible refine Frm.drewN ?_ _) | (with_reducible refine Frm.set1 ?_ _) | (with_reducible refine Frm.setCell ?_ ?_ _) | (intro hlt; simp [World.size_alloc, One] at hlt ⊢; omega)))))) HONEB.out hm3 hm4 (by simp) ?_; intro A3 cap3 w3 hown3 hfr3; have hF3 : Frm (fun _ => False) wr w3 := (Frm.trans (b := _) (by (repeat' (first | (with_reducible exact Frm.refl _ _) | (with_reducible assumption) | (with_reducible refine Frm.alloc ?_ _) | (with_reducible refine Frm.drew ?_) | (with_reducible refine Frm.drewN ?_ _) | (with_reducible refine Frm.set1 ?_ _) | (with_reducible refine Frm.setCell ?_ ?_ _) | (intro hlt; simp [World.size_alloc, One] at hlt ⊢; omega)))) hfr3 (fun i hi h => by cases h; exact absurd hi (Nat.lt_irrefl _))); have hsz3 := hF3.size; have csub3 : w3.cell? ⟨g, off + (a + 2), none⟩ = some (.int .u8 sub) := (hF3.cell csub (fun h => h)); have HO3 := Lib.hid hown3; have HF3 := Lib.hid hF3; clear hown3 hfr3 hF3)
                | (refine step_app (by rfl) el_Item _ _ (by rfl) (by rfl) (by rfl) (B := w.heap.size) (xs := cellsOf encIt xs) (arr := #[.int .u16 (IntKind.u16.wrap idx), .int .u8 sub, .slice A3 kk cap3]) (e2 := 121) (fr := (0, 0)) (Frm.row (S := fun _ => False) (w := w3) (by (repeat' (first | (with_reducible exact Frm.refl _ _) | (with_reducible assumption) | (with_reducible refine Frm.alloc ?_ _) | (with_reducible refine Frm.drew ?_) | (with_reducible refine Frm.drewN ?_ _) | (with_reducible refine Frm.set1 ?_ _) | (with_reducible refine Frm.setCell ?_ ?_ _) | (intro hlt; simp [World.size_alloc, One] at hlt ⊢; omega)))) (HF3.out.row HXR.out (fun _ _ h => h)) (fun _ _ h => h)) (heap_new_at (by simp)) (by rfl) (by simp [Value.oneCell']) (by decide) hm5 hm6 (by clear hw1 hw2 hw3; simp; omega) ?_; intro g5 cap5 w5 hown5 hfr5 hat5 hlt5; have csub5 : w5.cell? ⟨g, off + (a + 2), none⟩ = some (.int .u8 sub) := (hfr5.cell (cell_alloc_old csub3) (fun hs => absurd (row_block HXR.out hs).1 (by clear hw1 hw2 hw3; simp only; omega)))))
            clear hw1 hw2 hw3
            all_goals
              go_wp2_with fail
              go_roundw
              case rel =>
                rw [HIW.out] at hown5
                have hF5 : Frm (fun j => (Value.slice Al xs.length cl).ownBlock = some j) w3 w5 := Frm.trans (b := _) (by (repeat' (first | (with_reducible exact Frm.refl _ _) | (with_reducible assumption) | (with_reducible refine Frm.alloc ?_ _) | (with_reducible refine Frm.drew ?_) | (with_reducible refine Frm.drewN ?_ _) | (with_reducible refine Frm.set1 ?_ _) | (with_reducible refine Frm.setCell ?_ ?_ _) | (intro hlt; simp [World.size_alloc, One] at hlt ⊢; omega)))) hfr5 (fun _ _ h => h)
                have hno : ∀ q, q < w.heap.size → ¬ (Value.slice Al xs.length cl).ownBlock = some q := fun q hq hs => by
                  have := (row_block HXR.out hs).1
                  omega
                have hsz3' := HF3.out.size
                refine ⟨xs ++ [(idx, sub, .slice A3 kk cap3, ((bs.drop a).drop 7).take kk)], a + 7 + kk, by simp; omega, by go_num, by omega, ?_, (HF.out.trans' HF3.out).trans hF5 (fun i hi hs => hno i hi hs), ?_⟩
                · refine (HX.out.grow HF3.out).push (idx, sub, .slice A3 kk cap3, ((bs.drop a).drop 7).take kk) ?_ hF5 rfl hown5
                  unfold Own8
                  simp only
                  rw [HTL.out]
                  exact row_base HO3.out hsz
                · have hnj := HJ.out
                  rw [HDEC.out, HM.out, catD_catD, List.map_append, List.length_append, List.drop_drop, List.drop_drop, List.length_singleton, show n - (xs.length + 1) = j by omega]
                  rfl
              case measure => simp; omega
    · obtain hn : xs.length = n := by omega
      have HN0 := Lib.hid hn
      clear hn
      by_cases hr0 : a < bs.length
      · have HFIN : Hid (([], 8) = decOf bs) := by unfold Hid; rw [HD.out, HDEC.out, HN0.out, Nat.sub_self, decN, catD, finD, if_pos (by omega)]
        go_wp2_with fail
        go_ret2
        exact ⟨HF.out, _, [], 8, rfl, HFIN.out, .nil _ _⟩
      · have HFIN : Hid ((xs.map bare, 0) = decOf bs) := by unfold Hid; rw [HD.out, HDEC.out, HN0.out, Nat.sub_self, decN, catD, finD, if_neg (by omega), List.append_nil]
        have hr1 : bs.length ≤ a := by omega
        clear hr0
        go_wp2_with fail
        go_ret2
        exact ⟨HF.out, _, xs, 0, rfl, HFIN.out, HX.out⟩
end Go.Proofs.Ytmkkeglcjbogcaa
