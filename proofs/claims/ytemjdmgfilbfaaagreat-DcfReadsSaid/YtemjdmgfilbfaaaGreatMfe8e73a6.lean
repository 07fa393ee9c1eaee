/-
  dcf's Differ: the places of the items that are not written again and that the dictionary does not tell. Plain: which items the dictionary does not tell once all are taken. Plain: numbers that are counted; where an item stands among those that are not written again. Plain: the places that Differ tells, as the numbers below the items' count.
-/
import Derived.Test.YtemjdmgfilbfaaaGreatM40cba657
import Derived.Test.YtemjdmgfilbfaaaGreatMfee7cd42
import Derived.Test.YtemjdmgfilbfaaaGreatMdffc7768
import Derived.Test.YtemjdmgfilbfaaaGreatMe155a935
import Derived.Test.YtemjdmgfilbfaaaGreatMddbe9747
set_option linter.unusedVariables false
set_option linter.unusedSimpArgs false
namespace Go.Proofs.YtemjdmgfilbfaaaGreat
open Go.RowKit
open List (getElem_toArray getElem_cons_zero getElem_cons_succ setIfInBounds_toArray set_cons_zero set_cons_succ)
set_option linter.unusedVariables false
set_option linter.unusedSimpArgs false

theorem strB2_beq (a b : List UInt8) : ((strB2 a).toList == (strB2 b).toList) = (a == b) := by simp [strB2]
set_option maxRecDepth 100000 in
theorem bEq_any (u v : Value) (a b : List UInt8) (w : World) (hu : BytesAt w u a) (hv : BytesAt w v b) :
    Calls Tryz.prog 36 #[u, v] w fun e w' => e = .returned (.bool (a == b)) ∧ Frm (fun _ => False) w w' := by
  have h1 := conv_b2s hu
  have h2 := conv_b2s hv
  have h3 := strB2_beq a b
  obtain ⟨A, c, rfl, _⟩ := hu
  obtain ⟨B, c2, rfl, _⟩ := hv
  go_enter Tryz.func36, Tryz.ntmps36
  go_wp2_with fail
  go_ret
  exact ⟨by simp [h3], by (repeat' (first | (with_reducible exact Frm.refl _ _) | (with_reducible assumption) | (with_reducible refine Frm.alloc ?_ _) | (with_reducible refine Frm.drew ?_) | (with_reducible refine Frm.drewN ?_ _) | (with_reducible refine Frm.set1 ?_ _) | (with_reducible refine Frm.setCell ?_ ?_ _) | (exact fun h => absurd h (Nat.lt_irrefl _)) | (intro hlt; simp [World.size_alloc, One] at hlt ⊢; omega)))⟩

/-- Whether the dictionary does not tell an item's data at its place. -/
def diffI (d : List Im) (x : It) : Bool := !((readD d x.1 x.2.1).2 == 0 && (readD d x.1 x.2.1).1 == x.2.2)
def difAt (d : List Im) (xs : List Itm) (j : Int) : Bool := match xs[j.toNat]? with
  | none => false
  | some x => diffI d (bare x)
def difB (d : List Im) (xs : List Itm) : List Int := (lastB xs).filter (difAt d xs)
theorem difB_take (d : List Im) (xs : List Itm) (k : Nat) (hk : k < (lastB xs).length) : ((lastB xs).take (k + 1)).filter (difAt d xs) = bif difAt d xs (lastB xs)[k] then ((lastB xs).take k).filter (difAt d xs) ++ [(lastB xs)[k]] else ((lastB xs).take k).filter (difAt d xs) := by
  rw [List.take_succ_eq_append_getElem hk, List.filter_append]
  by_cases h : difAt d xs (lastB xs)[k] = true
  · rw [List.filter_cons_of_pos h, h]; rfl
  · rw [List.filter_cons_of_neg h, (by simpa using h : difAt d xs (lastB xs)[k] = false)]; simp
theorem difB_le (d : List Im) (xs : List Itm) (k : Nat) : (((lastB xs).take k).filter (difAt d xs)).length ≤ k := Nat.le_trans (List.length_filter_le _ _) (by rw [List.length_take]; omega)
def DiffP (d : List Im) (xs : List Itm) (w : World) (e : Ending) (w' : World) : Prop := ∃ v, e = .returned v ∧ w'.ownsRow w.heap.size 3 1 v (difB d xs).length ((difB d xs).map (.int .i64)) ∧ Frm (fun _ => False) w w'

set_option maxRecDepth 100000 in
set_option maxHeartbeats 8000000 in
theorem differ_any (b : Nat) (l : List (Nat × Im)) (v : Value) (xs : List Itm) (B : Nat) (w : World) (h : DAt w b l) (hd : DOk (im l)) (hI : ItemsRow B w v xs) (hr : ∀ x ∈ xs, Rng (bare x)) (hl : xs.length ≤ 4398046510976) :
    Calls Tryz.prog 25 #[ptr b, v] w (DiffP (im l) xs w) := by
  have HD := Lib.hid h
  have HI := Lib.hid hI
  have HR := Lib.hid hr
  have hrs : ∀ x ∈ xs, RngS x := fun x hx => by
    have h1 := hr x hx
    obtain ⟨A9, c9, e9, _, _, _⟩ := row_open (hI.2 x hx)
    exact ⟨⟨h1.1, h1.2.1⟩, ⟨h1.2.2.1, h1.2.2.2⟩, _, _, _, e9⟩
  have HLS := Lib.hid (lasts_any v xs w (SlAt.of_row encIt_len hI.1) hrs (by omega))
  obtain ⟨d, hde⟩ : ∃ d, d = im l := ⟨_, rfl⟩
  have HDE := Lib.hid hde
  rw [← hde] at hd
  have HOK := Lib.hid hd
  obtain ⟨hL1, hL2⟩ := last_at xs
  have HL2 := Lib.hid hL2
  have hll := lastR_len xs
  obtain ⟨A, cap, rfl, _, _, q3⟩ := row_open hI.1
  have HQ := Lib.hid q3
  unfold LastsP at HLS
  unfold DiffP
  rw [← hde]
  clear h hI hr hd hrs q3 hL2 hde
  unfold ptr
  go_enter Tryz.func25, Tryz.ntmps25
  go_wp2_with (go_at_call 48; refine HLS.out.mono ?_; rintro e w6 ⟨v6, rfl, hr6, hF6⟩; have HR6 := Lib.hid hr6; have HF6 := Lib.hid hF6; obtain ⟨A6, c6, rfl, _, _, _⟩ := row_open hr6; clear hr6 hF6)
  go_loopw [5, 13] (fun bv i wr => ∃ k : Nat, k ≤ (lastB xs).length ∧ i = .int .i64 k ∧ wr.ownsRow w6.heap.size 3 1 bv (((lastB xs).take k).filter (difAt d xs)).length ((((lastB xs).take k).filter (difAt d xs)).map (.int .i64)) ∧ Frm (fun _ => False) w6 wr) (fun _ i _ => (lastB xs).length - (intOf i).toNat)
  case atStart => exact ⟨0, Nat.zero_le _, rfl, World.ownsRow_nil _ _ _ _, Frm.refl _ _⟩
  case round =>
    obtain ⟨k, hk, rfl, hY, hF⟩ := hrel
    by_cases hlt : k < (lastB xs).length
    · have hlt2 : k < (lastR xs).length := by omega
      obtain ⟨j, hj, ej, ex⟩ := HL2.out k hlt hlt2
      have hT := difB_take d xs k hlt
      have hlk := difB_le d xs k
      have hat : difAt d xs (lastB xs)[k] = diffI d (bare xs[j]) := by
        unfold difAt
        rw [ej]
        simp [hj]
      rw [hat, ej] at hT
      have hFw := HF6.out.trans' hF
      obtain ⟨_, _, e6, _, _, p3⟩ := row_open HR6.out
      simp only [Value.slice.injEq] at e6
      obtain ⟨rfl, -, rfl⟩ := e6
      obtain ⟨g6, rfl, _, ⟨cu6, hcu6⟩, _, hcc6⟩ := p3 (by omega)
      have hi0 : wr.cell? ⟨g6, k, none⟩ = some (.int .i64 (j : Int)) := by
        refine hF.cell (p := ⟨g6, k, none⟩) ?_ (fun h => h)
        rw [hcc6 k (by omega), List.getElem?_map, List.getElem?_eq_getElem hlt, ej]
        rfl
      have hg6 := Nat.lt_of_lt_of_le (lt_of_block hcu6) hF.size
      obtain ⟨g, rfl, _, ⟨cu, hcu⟩, _, hcc⟩ := HQ.out (by omega)
      have hcell : ∀ o (ho : o < 3), wr.cell? ⟨g, j * 3 + o, none⟩ = some ((encIt xs[j])[o]'(by rw [encIt_len]; exact ho)) := fun o ho => by
        refine hFw.cell (p := ⟨g, j * 3 + o, none⟩) ?_ (fun h => h)
        rw [hcc _ (by omega), cellsOf_get encIt_len xs j o hj ho]
        exact List.getElem?_eq_getElem (by rw [encIt_len]; exact ho)
      have hgl := Nat.lt_of_lt_of_le (lt_of_block hcu) hFw.size
      have hOW := (BytesAt.of_row (HI.out.2 _ (List.getElem_mem hj))).grow hFw
      have hrg := HR.out _ (List.getElem_mem hj)
      have hjl : (j : Int) < (xs.length : Int) := by omega
      clear ej ex hat p3 hcc6 hcc hcu hcu6
      generalize xs[j] = x at *
      have HKL : Hid (k + 1 ≤ (lastB xs).length) := hlt
      obtain ⟨x0, x1, xv, xb⟩ := x
      simp only [bare] at hrg hOW hT
      obtain ⟨Ab, cb, rfl, _, _, _⟩ := hOW.open_
      have d0 := hcell 0 (by decide)
      have d1 := hcell 1 (by decide)
      have d2 := hcell 2 (by decide)
      simp only [encIt, getElem_cons_succ, getElem_cons_zero, Nat.add_zero] at d0 d1 d2
      have HRD := Lib.hid (fun W (hW : Frm (fun _ => False) wr W) => odRead_any b l x0 x1 W ((HD.out.grow hFw).grow hW) (by rw [← HDE.out]; exact HOK.out) ⟨hrg.2.2.1, hrg.2.2.2⟩)
      unfold ReadP ptr at HRD
      rw [← HDE.out] at HRD
      obtain ⟨rd, hrd⟩ : ∃ rd, rd = readD d x0 x1 := ⟨_, rfl⟩
      have hdf : diffI d (x0, x1, xb) = !(rd.2 == 0 && rd.1 == xb) := by unfold diffI; rw [hrd]
      rw [hdf] at hT
      clear hdf
      have HRD2 : Hid (∀ W, Frm (fun _ => False) wr W → Calls Tryz.prog 51 #[.pointer (some ⟨b, 0, none⟩), .int .u16 x0, .int .u8 x1] W fun e w' => ∃ v, e = .returned (.tuple #[v, .int .u32 rd.2]) ∧ Fresh8 W.heap.size w' v rd.1 ∧ Frm (fun _ => False) W w') := by rw [hrd]; exact HRD
      replace HRD := HRD2
      clear hrd HRD2
      obtain ⟨rb, rc⟩ := rd
      simp only at HRD hT
      generalize ((lastB xs).take k).filter (difAt d xs) = L at *
      obtain ⟨Al, cl, rfl, g3, g4, _⟩ := row_open hY
      have HT := Lib.hid hT
      have HY := Lib.hid hY
      have HF := Lib.hid hF
      have HFW := Lib.hid hFw
      have HOW := Lib.hid hOW
      have hsz := hF.size
      have hm3 : L.length + 1 ≤ maxLen := by unfold maxLen; omega
      have hm4 : (L.length + 1) * 8 ≤ 140737488355328 := by omega
      have hC : ∀ Wx, Frm (fun _ => False) wr Wx → Wx.cell? ⟨g, j * 3, none⟩ = some (.int .u16 x0) ∧ Wx.cell? ⟨g, j * 3 + 1, none⟩ = some (.int .u8 x1) ∧ Wx.cell? ⟨g, j * 3 + 2, none⟩ = some (.slice Ab xb.length cb) := fun Wx h =>
        ⟨h.cell d0 (fun h => h), h.cell d1 (fun h => h), h.cell d2 (fun h => h)⟩
      have HCW := Lib.hid hC
      clear hF hFw hY hT hOW hcell hC d0 d1 d2
      go_upto_region 6 with fail
      refine wp_region_held_drew (S := fun W => Frm (fun _ => False) wr W) (by kernel_rfl) ((Frm.refl _ _).drew) (fun hHeld => ?_)
      refine wpAnyH_take (i := 0) (v := ?_) rfl (by kernel_rfl) (by kernel_rfl) (by kernel_rfl) (fun _ _ _ h => h) (Or.inl ⟨by rfl, ?_⟩) (by assumption) ?_; rotate_left; · (intro wq hSq; have hq := HCW.out wq hSq; go_split_ands; go_simp; (try with_reducible rfl))
      try simp only [Act.put, getElem_toArray, getElem_cons_zero, getElem_cons_succ, setIfInBounds_toArray, set_cons_zero, set_cons_succ]
      refine wpAnyH_take (i := 1) (v := ?_) rfl (by kernel_rfl) (by kernel_rfl) (by kernel_rfl) (fun _ _ _ h => h) (Or.inl ⟨by rfl, ?_⟩) (by assumption) ?_; rotate_left; · (intro wq hSq; have hq := HCW.out wq hSq; go_split_ands; go_simp; (try with_reducible rfl))
      try simp only [Act.put, getElem_toArray, getElem_cons_zero, getElem_cons_succ, setIfInBounds_toArray, set_cons_zero, set_cons_succ]
      refine wpAnyH_take (i := 2) (v := ?_) rfl (by kernel_rfl) (by kernel_rfl) (by kernel_rfl) (fun _ _ _ h => h) (Or.inl ⟨by rfl, ?_⟩) (by assumption) ?_; rotate_left; · (intro wq hSq; have hq := HCW.out wq hSq; go_split_ands; go_simp; (try with_reducible rfl))
      try simp only [Act.put, getElem_toArray, getElem_cons_zero, getElem_cons_succ, setIfInBounds_toArray, set_cons_zero, set_cons_succ]
      refine wpAnyH_take (i := 3) (v := ?_) rfl (by kernel_rfl) (by kernel_rfl) (by kernel_rfl) (fun _ _ _ h => h) (Or.inl ⟨by rfl, ?_⟩) (by assumption) ?_; rotate_left; · (intro wq hSq; have hq := HCW.out wq hSq; go_split_ands; go_simp; (try with_reducible rfl))
      try simp only [Act.put, getElem_toArray, getElem_cons_zero, getElem_cons_succ, setIfInBounds_toArray, set_cons_zero, set_cons_succ]
      refine wpAnyH_take (i := 4) (v := ?_) rfl (by kernel_rfl) (by kernel_rfl) (by kernel_rfl) (fun _ _ _ h => h) (Or.inl ⟨by rfl, ?_⟩) (by assumption) ?_; rotate_left; · (intro wq hSq; have hq := HCW.out wq hSq; go_split_ands; go_simp; (try with_reducible rfl))
      try simp only [Act.put, getElem_toArray, getElem_cons_zero, getElem_cons_succ, setIfInBounds_toArray, set_cons_zero, set_cons_succ]
      refine wpAnyH_take (i := 5) (v := ?_) rfl (by kernel_rfl) (by kernel_rfl) (by kernel_rfl) (fun _ _ _ h => h) (Or.inl ⟨by rfl, ?_⟩) (by assumption) ?_; rotate_left; · (intro wq hSq; have hq := HCW.out wq hSq; go_split_ands; go_simp; (try with_reducible rfl))
      try simp only [Act.put, getElem_toArray, getElem_cons_zero, getElem_cons_succ, setIfInBounds_toArray, set_cons_zero, set_cons_succ]
      refine wpAnyH_take (i := 6) (v := ?_) rfl (by kernel_rfl) (by kernel_rfl) (by kernel_rfl) (fun _ _ _ h => h) (Or.inl ⟨by rfl, ?_⟩) (by assumption) ?_; rotate_left; · (intro wq hSq; have hq := HCW.out wq hSq; go_split_ands; go_simp; (try with_reducible rfl))
      try simp only [Act.put, getElem_toArray, getElem_cons_zero, getElem_cons_succ, setIfInBounds_toArray, set_cons_zero, set_cons_succ]
      refine wpAnyH_take (i := 7) (v := ?_) rfl (by kernel_rfl) (by kernel_rfl) (by kernel_rfl) (fun _ _ _ h => h) (Or.inl ⟨by rfl, ?_⟩) (by assumption) ?_; rotate_left; · (intro wq hSq; have hq := HCW.out wq hSq; go_split_ands; go_simp; (try with_reducible rfl))
      try simp only [Act.put, getElem_toArray, getElem_cons_zero, getElem_cons_succ, setIfInBounds_toArray, set_cons_zero, set_cons_succ]
      refine wpAnyH_take (i := 8) (v := ?_) rfl (by kernel_rfl) (by kernel_rfl) (by kernel_rfl) (fun _ _ _ h => h) (Or.inl ⟨by rfl, ?_⟩) (by assumption) ?_; rotate_left; · (intro wq hSq; have hq := HCW.out wq hSq; go_split_ands; go_simp; (try with_reducible rfl))
      try simp only [Act.put, getElem_toArray, getElem_cons_zero, getElem_cons_succ, setIfInBounds_toArray, set_cons_zero, set_cons_succ]
      refine wpAnyH_take (i := 9) (v := ?_) rfl (by kernel_rfl) (by kernel_rfl) (by kernel_rfl) (fun _ _ _ h => h) (Or.inl ⟨by rfl, ?_⟩) (by assumption) ?_; rotate_left; · (intro wq hSq; have hq := HCW.out wq hSq; go_split_ands; go_simp; (try with_reducible rfl))
      try simp only [Act.put, getElem_toArray, getElem_cons_zero, getElem_cons_succ, setIfInBounds_toArray, set_cons_zero, set_cons_succ]
      refine wpAnyH_take (i := 10) (v := ?_) rfl (by kernel_rfl) (by kernel_rfl) (by kernel_rfl) (fun _ _ _ h => h) (Or.inl ⟨by rfl, ?_⟩) (by assumption) ?_; rotate_left; · (intro wq hSq; have hq := HCW.out wq hSq; go_split_ands; go_simp; (try with_reducible rfl))
      try simp only [Act.put, getElem_toArray, getElem_cons_zero, getElem_cons_succ, setIfInBounds_toArray, set_cons_zero, set_cons_succ]
      refine wpAnyH_ready (rs := [11]) (by kernel_rfl) (by simp) ?_
      refine AllReadyH.cons rfl (fun K hK => ?_) AllReadyH.nil
      try simp only [getElem_toArray, getElem_cons_zero, getElem_cons_succ]
      go_simp
      refine (HRD.out _ hHeld).mono ?_
      rintro e w3 ⟨v3, rfl, hf3, hF3⟩
      have hw3 := hHeld.trans' hF3
      have hb3 := hf3.1
      obtain ⟨A3, c3, rfl, _, _, _⟩ := hf3.1.open_
      go_wp2_with fail
      refine hK.out _ _ (hw3) (fun hHeld => ?_)
      clear hK K
      try simp only [Act.put, setIfInBounds_toArray, set_cons_zero, set_cons_succ]
      refine wpAnyH_take (i := 12) (v := ?_) rfl (by kernel_rfl) (by kernel_rfl) (by kernel_rfl) (fun _ _ _ h => h) (Or.inl ⟨by rfl, ?_⟩) (by assumption) ?_; rotate_left; · (intro wq hSq; (try dsimp only at hSq); go_split_ands; go_simp; (try with_reducible rfl))
      try simp only [Act.put, getElem_toArray, getElem_cons_zero, getElem_cons_succ, setIfInBounds_toArray, set_cons_zero, set_cons_succ]
      refine wpAnyH_take (i := 13) (v := ?_) rfl (by kernel_rfl) (by kernel_rfl) (by kernel_rfl) (fun _ _ _ h => h) (Or.inl ⟨by rfl, ?_⟩) (by assumption) ?_; rotate_left; · (intro wq hSq; (try dsimp only at hSq); go_split_ands; go_simp; (try with_reducible rfl))
      try simp only [Act.put, getElem_toArray, getElem_cons_zero, getElem_cons_succ, setIfInBounds_toArray, set_cons_zero, set_cons_succ]
      refine wpAnyH_take (i := 14) (v := ?_) rfl (by kernel_rfl) (by kernel_rfl) (by kernel_rfl) (fun _ _ _ h => h) (Or.inl ⟨by rfl, ?_⟩) (by assumption) ?_; rotate_left; · (intro wq hSq; (try dsimp only at hSq); go_split_ands; go_simp; (try with_reducible rfl))
      try simp only [Act.put, getElem_toArray, getElem_cons_zero, getElem_cons_succ, setIfInBounds_toArray, set_cons_zero, set_cons_succ]
      refine wpAnyH_take (i := 15) (v := ?_) rfl (by kernel_rfl) (by kernel_rfl) (by kernel_rfl) (fun _ _ _ h => h) (Or.inl ⟨by rfl, ?_⟩) (by assumption) ?_; rotate_left; · (intro wq hSq; (try dsimp only at hSq); go_split_ands; go_simp; (try with_reducible rfl))
      try simp only [Act.put, getElem_toArray, getElem_cons_zero, getElem_cons_succ, setIfInBounds_toArray, set_cons_zero, set_cons_succ]
      refine wpAnyH_take (i := 16) (v := ?_) rfl (by kernel_rfl) (by kernel_rfl) (by kernel_rfl) (fun _ _ _ h => h) (Or.inl ⟨by rfl, ?_⟩) (by assumption) ?_; rotate_left; · (intro wq hSq; (try dsimp only at hSq); go_split_ands; go_simp; (try with_reducible rfl))
      try simp only [Act.put, getElem_toArray, getElem_cons_zero, getElem_cons_succ, setIfInBounds_toArray, set_cons_zero, set_cons_succ]
      refine wpAnyH_done (by kernel_rfl) ?_ _
      have HH := Lib.hid hHeld
      have d2 := (HCW.out _ hHeld).2.2
      have HB3 := Lib.hid hb3
      have HBX := Lib.hid (HOW.out.grow hHeld)
      clear hf3 hF3 hb3 hHeld hw3 HRD
      by_cases hc : rc = 0
      · subst hc
        have HEQ := Lib.hid (fun W hu hv => bEq_any (.slice A3 rb.length c3) (.slice Ab xb.length cb) rb xb W hu hv)
        by_cases he : rb = xb
        · have b1 : (rb == xb) = true := by simpa using he
          have HT2 : Hid (((lastB xs).take (k + 1)).filter (difAt d xs) = L) := by unfold Hid; rw [HT.out, b1]; rfl
          rw [b1] at HEQ
          clear he HT
          go_wp2_with (go_at_call 36; refine (HEQ.out _ HB3.out HBX.out).mono ?_; rintro e w7 ⟨rfl, hF7⟩; have HF7 := Lib.hid hF7; clear hF7)
          go_roundw
          case rel =>
            refine ⟨k + 1, HKL.out, by go_num, ?_, HF.out.trans' (HH.out.trans' HF7.out)⟩
            rw [HT2.out]
            exact Frm.row (S := fun _ => False) (HH.out.trans' HF7.out) HY.out (fun _ _ h => h)
          case measure => have := HKL.out; simp [intOf]; omega
        · have b1 : (rb == xb) = false := by simpa using he
          have HT2 : Hid (((lastB xs).take (k + 1)).filter (difAt d xs) = L ++ [(j : Int)]) := by unfold Hid; rw [HT.out, b1]; rfl
          rw [b1] at HEQ
          clear he HT
          go_wp2_with (first | (go_at_call 36; refine (HEQ.out _ HB3.out HBX.out).mono ?_; rintro e w7 ⟨rfl, hF7⟩; have HF7 := Lib.hid hF7; have hz7 := (HH.out.trans' hF7).size; have HW := Lib.hid (HH.out.trans' hF7); clear hF7) | (at_builtin; refine wpl_app rfl el_int (.tmp 45) (.tmp 47) rfl (B := w6.heap.size) (e2 := 3) (fr := (0, 0)) (arr := #[.int .i64 (j : Int)]) rfl rfl (Frm.row (S := fun _ => False) (w := wr) (by have hW := HW.out; (repeat' (first | (with_reducible exact Frm.refl _ _) | (with_reducible assumption) | (with_reducible refine Frm.alloc ?_ _) | (with_reducible refine Frm.drew ?_) | (with_reducible refine Frm.drewN ?_ _) | (with_reducible refine Frm.set1 ?_ _) | (with_reducible refine Frm.setCell ?_ ?_ _) | (exact fun h => absurd h (Nat.lt_irrefl _)) | (intro hlt; simp [World.size_alloc, One] at hlt ⊢; omega)))) HY.out (fun _ _ h => h)) (heap_new_at (by simp)) rfl (by simp [Value.oneCell']) (by decide) hm3 hm4 (by simp; omega) ?_; intro g5 cap5 w5 hown5 hfr5 hat5 hlt5))
          go_roundw
          case rel =>
            have hW := HW.out
            refine ⟨k + 1, HKL.out, by go_num, ?_, (HF.out.trans' (by (repeat' (first | (with_reducible exact Frm.refl _ _) | (with_reducible assumption) | (with_reducible refine Frm.alloc ?_ _) | (with_reducible refine Frm.drew ?_) | (with_reducible refine Frm.drewN ?_ _) | (with_reducible refine Frm.set1 ?_ _) | (with_reducible refine Frm.setCell ?_ ?_ _) | (exact fun h => absurd h (Nat.lt_irrefl _)) | (intro hlt; simp [World.size_alloc, One] at hlt ⊢; omega))))).trans hfr5 (fun i hi hs => ?_)⟩
            · rw [HT2.out, List.length_append, List.map_append]
              exact hown5
            · have := (row_block HY.out hs).1
              omega
          case measure => have := HKL.out; simp [intOf]; omega
      · have b1 : (rc == 0) = false := by simpa using hc
        have HT2 : Hid (((lastB xs).take (k + 1)).filter (difAt d xs) = L ++ [(j : Int)]) := by unfold Hid; rw [HT.out, b1]; rfl
        have hz7 := HH.out.size
        clear hc HT
        go_wp2_with (at_builtin; refine wpl_app rfl el_int (.tmp 45) (.tmp 47) rfl (B := w6.heap.size) (e2 := 3) (fr := (0, 0)) (arr := #[.int .i64 (j : Int)]) rfl rfl (Frm.row (S := fun _ => False) (w := wr) (by have hW := HH.out; (repeat' (first | (with_reducible exact Frm.refl _ _) | (with_reducible assumption) | (with_reducible refine Frm.alloc ?_ _) | (with_reducible refine Frm.drew ?_) | (with_reducible refine Frm.drewN ?_ _) | (with_reducible refine Frm.set1 ?_ _) | (with_reducible refine Frm.setCell ?_ ?_ _) | (exact fun h => absurd h (Nat.lt_irrefl _)) | (intro hlt; simp [World.size_alloc, One] at hlt ⊢; omega)))) HY.out (fun _ _ h => h)) (heap_new_at (by simp)) rfl (by simp [Value.oneCell']) (by decide) hm3 hm4 (by simp; omega) ?_; intro g5 cap5 w5 hown5 hfr5 hat5 hlt5)
        go_roundw
        case rel =>
          have hW := HH.out
          refine ⟨k + 1, HKL.out, by go_num, ?_, (HF.out.trans' (by (repeat' (first | (with_reducible exact Frm.refl _ _) | (with_reducible assumption) | (with_reducible refine Frm.alloc ?_ _) | (with_reducible refine Frm.drew ?_) | (with_reducible refine Frm.drewN ?_ _) | (with_reducible refine Frm.set1 ?_ _) | (with_reducible refine Frm.setCell ?_ ?_ _) | (exact fun h => absurd h (Nat.lt_irrefl _)) | (intro hlt; simp [World.size_alloc, One] at hlt ⊢; omega))))).trans hfr5 (fun i hi hs => ?_)⟩
          · rw [HT2.out, List.length_append, List.map_append]
            exact hown5
          · have := (row_block HY.out hs).1
            omega
        case measure => have := HKL.out; simp [intOf]; omega
    · go_wp2_with fail
      go_ret
      refine ⟨_, rfl, ?_, HF6.out.trans' hF⟩
      rw [List.take_of_length_le (by omega)] at hY
      exact row_base hY HF6.out.size
end Go.Proofs.YtemjdmgfilbfaaaGreat
namespace Go.Proofs.YtemjdmgfilbfaaaGreat
set_option linter.unusedVariables false
set_option linter.unusedSimpArgs false

/-- A number's bytes: only so much of it. -/
theorem leOf_over (n c : Int) (k : Nat) : leOf (n + c * 256 ^ k) k = leOf n k := by
  induction k generalizing n with
  | zero => rfl
  | succ k ih =>
    have e : n + c * 256 ^ (k + 1) = n + 256 * (c * 256 ^ k) := by rw [Int.pow_succ, ← Int.mul_assoc]; omega
    rw [e]
    show UInt8.ofNat ((n + 256 * (c * 256 ^ k)) % 256).toNat :: leOf ((n + 256 * (c * 256 ^ k)) / 256) k = UInt8.ofNat (n % 256).toNat :: leOf (n / 256) k
    have e1 : (n + 256 * (c * 256 ^ k)) % 256 = n % 256 := by omega
    have e2 : (n + 256 * (c * 256 ^ k)) / 256 = n / 256 + c * 256 ^ k := by omega
    rw [e1, e2, ih]
theorem leOf_wide (sz : Int) (sg : Bool) (n : Int) (h : sz = 1 ∨ sz = 2 ∨ sz = 4 ∨ sz = 8) : leOf (wideN sz sg n) sz.toNat = leOf n sz.toNat := by
  unfold wideN
  split
  · rcases h with rfl | rfl | rfl | rfl
    · exact leOf_over n 72057594037927935 1
    · exact leOf_over n 281474976710655 2
    · exact leOf_over n 4294967295 4
    · have : n + (two64 - capN 8) = n := by show n + (two64 - 18446744073709551616) = n; unfold two64; omega
      rw [this]
  · rfl
/-- Bytes that are read as a value, written again. -/
theorem dec_enc {t : Int} {b : List UInt8} (h : (decV t b).2 = 0) : (encV (decV t b).1).1 = b := by
  unfold decV at h ⊢
  by_cases h1 : isT t = false
  · rw [if_pos h1] at h; exact absurd h (by decide)
  rw [if_neg h1] at h ⊢
  by_cases h2 : (b.length : Int) < sizeT t
  · rw [if_pos h2] at h; exact absurd h (by decide)
  rw [if_neg h2] at h ⊢
  by_cases h3 : sizeT t ≠ 0 ∧ sizeT t < b.length ∨ 65536 < b.length
  · rw [if_pos h3] at h; exact absurd h (by decide)
  rw [if_neg h3] at h ⊢
  by_cases h4 : checkV (rawV t b) ≠ 0
  · rw [if_pos h4] at h; exact absurd h (by decide)
  rw [if_neg h4]
  unfold encV
  rw [if_neg h4]
  by_cases h5 : sizeT t ≠ 0
  · have e : rawV t b = ⟨t, wideN (sizeT t) (sgnT t) (numOf b), []⟩ := by unfold rawV; rw [if_pos h5]
    rw [e]
    simp only [h5, ne_eq, not_false_eq_true, if_true]
    have hb : (sizeT t).toNat = b.length := by omega
    rw [leOf_wide _ _ _ (by rcases sizeT_vals t with h | h | h | h | h <;> simp_all), hb, leOf_numOf]
  · have e : rawV t b = ⟨t, 0, b⟩ := by unfold rawV; rw [if_neg h5]
    rw [e]
    simp only [h5, if_false]
theorem take_is {x : En} {b : List UInt8} (h : (takeE x b).1 = 0) : (x.acc = 1 ∨ x.acc = 2) ∧ (takeE x b).2 = (decV x.df.ty b).1 ∧ (decV x.df.ty b).2 = 0 := by
  unfold takeE at h ⊢
  by_cases h1 : x.acc ≠ 1 ∧ x.acc ≠ 2
  · rw [if_pos h1] at h; exact absurd h (by show ¬ codeNoWrite = 0; decide)
  rw [if_neg h1] at h ⊢
  by_cases h3 : (decV x.df.ty b).2 = 3
  · rw [if_pos h3] at h; exact absurd h (by show ¬ codeShort = 0; decide)
  rw [if_neg h3] at h ⊢
  by_cases h2 : (decV x.df.ty b).2 = 2
  · rw [if_pos h2] at h; exact absurd h (by show ¬ codeLong = 0; decide)
  rw [if_neg h2] at h ⊢
  by_cases h0 : (decV x.df.ty b).2 ≠ 0
  · rw [if_pos h0] at h; exact absurd h (by show ¬ codeBad = 0; decide)
  rw [if_neg h0] at h ⊢
  refine ⟨by omega, ?_, by simpa using h0⟩
  split <;> rfl

theorem mem_look {d : List Im} {i s : Int} {k : Nat} (h : findD d i s = some k) : k < d.length := by
  unfold findD at h
  exact (List.findIdx?_eq_some_iff_getElem.1 h).1
/-- What is read at a place that was just written. -/
theorem read_write {d : List Im} {i s : Int} {b : List UInt8} (h : mayD d i s b = 0) : ∃ (k : Nat) (hk : k < d.length), findD d i s = some k ∧ readD (writeD d i s b) i s = (if d[k].1.acc = 1 then ([], codeNoRead) else (b, 0)) := by
  obtain ⟨k, hk, f, _, _, e⟩ := write_is h
  refine ⟨k, hk, f, ?_⟩
  have ht : (takeE d[k].1 b).1 = 0 := by
    unfold mayD at h
    rw [f] at h
    simpa [List.getElem?_eq_getElem hk] using h
  obtain ⟨_, t2, t3⟩ := take_is ht
  unfold readD
  rw [find_write, f, e]
  simp only [List.getElem?_set_self hk]
  rw [t2, dec_enc t3]
theorem read_other {d : List Im} {i s i' s' : Int} {b : List UInt8} (h : mayD d i' s' b = 0) (hne : ¬ (i' = i ∧ s' = s)) : readD (writeD d i' s' b) i s = readD d i s := by
  obtain ⟨k', hk', f', g1, g2, e⟩ := write_is h
  unfold readD
  rw [find_write]
  cases f : findD d i s with
  | none =>
    simp only
    rw [findC_map, findC_map, find_write, f, writeD_fst]
  | some k =>
    have hk := mem_look f
    have hat : isAt i s d[k] = true := by
      have hf' := f
      unfold findD at hf'
      exact (List.findIdx?_eq_some_iff_getElem.1 hf').2.1
    unfold isAt at hat
    simp only [Bool.and_eq_true, beq_iff_eq] at hat
    have hkk : k' ≠ k := by rintro rfl; exact hne ⟨g1.symm.trans hat.1, g2.symm.trans hat.2⟩
    rw [e]
    simp only [List.getElem?_set_ne hkk]
theorem app_fst (d : List Im) (l : List It) : (appD d l).1.map (·.1) = d.map (·.1) := by
  induction l generalizing d with
  | nil => rfl
  | cons x r ih =>
    by_cases h : mayD d x.1 x.2.1 x.2.2 = 0
    · rw [appD_yes h]
      simp only
      rw [ih, writeD_fst]
    · rw [appD_no h]
theorem read_app {d : List Im} {l : List It} {i s : Int} (h : AllOk d l) (hn : ∀ y ∈ l, ¬ (y.1 = i ∧ y.2.1 = s)) : readD (appD d l).1 i s = readD d i s := by
  induction l generalizing d with
  | nil => rfl
  | cons x r ih =>
    have hx := h x (List.mem_cons_self ..)
    rw [appD_yes hx]
    simp only
    rw [ih (AllOk.write (fun y hy => h y (List.mem_cons_of_mem _ hy)) _ _ _) (fun y hy => hn y (List.mem_cons_of_mem _ hy)), read_other hx (hn x (List.mem_cons_self ..))]
theorem AllOk.app {d : List Im} {l m : List It} (h : AllOk d m) : AllOk (appD d l).1 m := fun x hx => by rw [mayD_congr (app_fst d l)]; exact h x hx
theorem entD_map (d : List Im) (i s : Int) : entD d i s = match findD d i s with
    | none => (.zero, false)
    | some k => match (d.map (·.1))[k]? with
      | none => (.zero, false)
      | some x => (x, true) := by
  unfold entD
  cases findD d i s with
  | none => rfl
  | some k =>
    simp only [List.getElem?_map]
    cases d[k]? <;> rfl
theorem entD_congr {d d' : List Im} (h : d.map (·.1) = d'.map (·.1)) (i s : Int) : entD d i s = entD d' i s := by
  rw [entD_map, entD_map, h, findD_map, findD_map, h]
theorem ent_may {d : List Im} {i s : Int} {b : List UInt8} (h : mayD d i s b = 0) : (entD d i s).2 = true ∧ ∀ k (hk : k < d.length), findD d i s = some k → (entD d i s).1 = d[k].1 := by
  obtain ⟨k, hk, f, _, _, _⟩ := write_is h
  have e : entD d i s = (d[k].1, true) := by
    unfold entD
    rw [f]
    simp [hk]
  rw [e]
  refine ⟨rfl, fun k' hk' f' => ?_⟩
  have : k = k' := by rw [f] at f'; exact Option.some.inj f'
  subst this
  rfl
/-- Whether an item's data is not told, once all are taken and it is not written again: as its entry is not read. -/
theorem diff_app (xs : List Itm) (d : List Im) (h : AllOk d (xs.map bare)) (i : Nat) (hi : i < xs.length) (hag : agI xs[i] (xs.drop (i + 1)) = false) :
    diffI (appD d (xs.map bare)).1 (bare xs[i]) = ((entD (appD d (xs.map bare)).1 xs[i].1 xs[i].2.1).1.acc == 1) := by
  have hsplit : xs.map bare = (xs.take i).map bare ++ bare xs[i] :: (xs.drop (i + 1)).map bare := by
    rw [← List.map_cons, ← List.map_append, ← List.drop_eq_getElem_cons hi, List.take_append_drop]
  have h1 : AllOk d ((xs.take i).map bare) := fun y hy => h y (by rw [hsplit]; exact List.mem_append_left _ hy)
  have h2 : AllOk d ((xs.drop (i + 1)).map bare) := fun y hy => h y (by rw [hsplit]; exact List.mem_append_right _ (List.mem_cons_of_mem _ hy))
  have hx0 := h (bare xs[i]) (by rw [hsplit]; exact List.mem_append_right _ (List.mem_cons_self ..))
  have hx : mayD (appD d ((xs.take i).map bare)).1 xs[i].1 xs[i].2.1 xs[i].2.2.2 = 0 := by rw [mayD_congr (app_fst d _)]; exact hx0
  have hn : ∀ y ∈ (xs.drop (i + 1)).map bare, ¬ (y.1 = xs[i].1 ∧ y.2.1 = xs[i].2.1) := fun y hy he => by
    obtain ⟨z, hz, rfl⟩ := List.mem_map.1 hy
    unfold agI at hag
    have := List.any_eq_false.1 hag z hz
    unfold samePl at this
    simp only [bare] at he
    simp [he.1, he.2] at this
  have hE := entD_congr (app_fst d (xs.map bare)) xs[i].1 xs[i].2.1
  have hE2 := entD_congr (app_fst d ((xs.take i).map bare)) xs[i].1 xs[i].2.1
  rw [hE]
  have hR : readD (appD d (xs.map bare)).1 xs[i].1 xs[i].2.1 = readD (writeD (appD d ((xs.take i).map bare)).1 xs[i].1 xs[i].2.1 xs[i].2.2.2) xs[i].1 xs[i].2.1 := by
    conv => lhs; rw [hsplit]
    rw [appD_join, if_neg (fun hq => hq (app_ok h1))]
    simp only
    rw [appD_yes (x := bare xs[i]) hx]
    simp only
    exact read_app (AllOk.write (AllOk.app h2) _ _ _) hn
  obtain ⟨k, hk, f, hrd⟩ := read_write hx
  have he := (ent_may hx).2 k hk f
  rw [hE2] at he
  unfold diffI
  show (!((readD _ xs[i].1 xs[i].2.1).2 == 0 && (readD _ xs[i].1 xs[i].2.1).1 == xs[i].2.2.2)) = _
  rw [hR, hrd, he]
  by_cases ha : ((appD d ((xs.take i).map bare)).1[k]).1.acc = 1
  · rw [if_pos ha, ha]
    rfl
  · rw [if_neg ha, show ((0 : Int) == 0 && xs[i].2.2.2 == xs[i].2.2.2) = true by simp]
    symm
    simpa using ha
end Go.Proofs.YtemjdmgfilbfaaaGreat
namespace Go.Proofs.YtemjdmgfilbfaaaGreat
set_option linter.unusedVariables false
set_option linter.unusedSimpArgs false

/-- The numbers below n that are q: where i stands. -/
def cntQ (q : Nat → Bool) (i : Nat) : Nat := ((List.range i).filter q).length
theorem cntQ_succ (q : Nat → Bool) (i : Nat) : cntQ q (i + 1) = cntQ q i + if q i then 1 else 0 := by
  unfold cntQ
  rw [List.range_succ, List.filter_append, List.length_append]
  cases hq : q i <;> simp [hq]
theorem cntQ_le (q : Nat → Bool) (i : Nat) : cntQ q i ≤ i := Nat.le_trans (List.length_filter_le _ _) (by rw [List.length_range]; exact Nat.le_refl _)
theorem look_split (q : Nat → Bool) (i n : Nat) (h : i < n) : (List.range n).filter q = (List.range i).filter q ++ (i :: List.range' (i + 1) (n - i - 1)).filter q := by
  rw [← List.filter_append, ← List.range'_succ, List.range_eq_range', List.range_eq_range', show n - i - 1 + 1 = n - i by omega]
  congr 1
  have := @List.range'_append 0 i (n - i) 1
  simp only [Nat.one_mul, Nat.zero_add] at this
  rw [this, show i + (n - i) = n by omega]
theorem look_yes (q : Nat → Bool) (i n : Nat) (h : i < n) (hq : q i = true) : ∃ hc : cntQ q i < ((List.range n).filter q).length, ((List.range n).filter q)[cntQ q i] = i := by
  have e := look_split q i n h
  rw [List.filter_cons_of_pos hq] at e
  have h1 : ((List.range n).filter q)[cntQ q i]? = some i := by
    rw [e, List.getElem?_append_right (by unfold cntQ; exact Nat.le_refl _)]
    simp [cntQ]
  exact List.getElem?_eq_some_iff.1 h1
theorem look_no (q : Nat → Bool) (i n : Nat) (h : i < n) (hq : q i = false) (hc : cntQ q i < ((List.range n).filter q).length) : ((List.range n).filter q)[cntQ q i] ≠ i := by
  intro he
  have e := look_split q i n h
  rw [List.filter_cons_of_neg (by simp [hq])] at e
  have h1 : ((List.range n).filter q)[cntQ q i]? = some i := by rw [List.getElem?_eq_getElem hc, he]
  rw [e, List.getElem?_append_right (by unfold cntQ; exact Nat.le_refl _)] at h1
  have h2 := List.mem_of_getElem? h1
  have h3 := (List.mem_filter.1 h2).1
  rw [List.mem_range'] at h3
  obtain ⟨j, _, hj⟩ := h3
  omega
theorem cntQ_shift (q : Nat → Bool) (i : Nat) : cntQ q (i + 1) = (if q 0 then 1 else 0) + cntQ (fun j => q (j + 1)) i := by
  induction i with
  | zero => cases h : q 0 <;> simp [cntQ, h]
  | succ i ih =>
    rw [cntQ_succ, ih, cntQ_succ]
    omega
/-- Whether an item is not written again. -/
def naQ (xs : List Itm) (i : Nat) : Bool := match xs[i]? with
  | none => false
  | some x => !agI x (xs.drop (i + 1))
theorem naQ_at (xs : List Itm) (i : Nat) (hi : i < xs.length) : naQ xs i = !agI xs[i] (xs.drop (i + 1)) := by
  unfold naQ
  rw [List.getElem?_eq_getElem hi]
theorem naQ_succ (x : Itm) (r : List Itm) : (fun j => naQ (x :: r) (j + 1)) = naQ r := by
  funext j
  unfold naQ
  simp
theorem naQ_zero (x : Itm) (r : List Itm) : naQ (x :: r) 0 = !agI x r := by
  unfold naQ
  simp
theorem lastR_cnt (xs : List Itm) : (lastR xs).length = cntQ (naQ xs) xs.length := by
  induction xs with
  | nil => rfl
  | cons x r ih =>
    rw [lastR_cons, List.length_cons, cntQ_shift, naQ_succ, naQ_zero, ← ih]
    cases h : agI x r
    · simp; omega
    · simp
theorem lastR_look (xs : List Itm) (i : Nat) (hi : i < xs.length) (h : naQ xs i = true) : (lastR xs)[cntQ (naQ xs) i]? = some xs[i] := by
  induction xs generalizing i with
  | nil => exact absurd hi (Nat.not_lt_zero _)
  | cons x r ih =>
    rw [lastR_cons]
    cases i with
    | zero =>
      rw [naQ_zero] at h
      have hf : agI x r = false := by simpa using h
      simp [hf, cntQ]
    | succ j =>
      have hj : j < r.length := by simpa using hi
      have h' : naQ r j = true := by rw [← naQ_succ x r]; exact h
      have := ih j hj h'
      rw [cntQ_shift, naQ_succ, naQ_zero]
      cases hf : agI x r
      · simp only [Bool.not_false, if_true, Bool.false_eq_true, if_false, List.getElem_cons_succ]
        rw [Nat.add_comm 1, List.getElem?_cons_succ]
        exact this
      · simp only [Bool.not_true, Bool.false_eq_true, if_false, if_true, Nat.zero_add, List.getElem_cons_succ]
        exact this
end Go.Proofs.YtemjdmgfilbfaaaGreat
namespace Go.Proofs.YtemjdmgfilbfaaaGreat
set_option linter.unusedVariables false
set_option linter.unusedSimpArgs false

theorem pkF_places (n : Nat) (xs : List Itm) (p : Nat → Bool) (hp : ∀ (i : Nat) (hi : i < xs.length), p (n + i) = !agI xs[i] (xs.drop (i + 1))) : (pkF n xs).reverse.map (·.1) = ((List.range' n xs.length).filter p).map fun i : Nat => (i : Int) := by
  induction xs generalizing n with
  | nil => rfl
  | cons x r ih =>
    have h0 : p n = !agI x r := hp 0 (by simp)
    have hr := ih (n + 1) (fun i hi => by
      have := hp (i + 1) (by simpa using hi)
      rw [show n + 1 + i = n + (i + 1) by omega, this]
      rfl)
    rw [pkF_cons, pkF_any, List.length_cons, List.range'_succ]
    by_cases h : (r.any fun y => samePl y x) = true
    · rw [if_pos h, hr, List.filter_cons_of_neg]
      rw [h0]
      unfold agI
      rw [h]
      decide
    · rw [if_neg h, List.reverse_append, List.map_append, hr, List.filter_cons_of_pos]
      · rfl
      · rw [h0]
        unfold agI
        simpa using h
theorem lastB_places (xs : List Itm) (p : Nat → Bool) (hp : ∀ (i : Nat) (hi : i < xs.length), p i = !agI xs[i] (xs.drop (i + 1))) : lastB xs = ((List.range xs.length).filter p).map fun i : Nat => (i : Int) := by
  have e1 : lastB xs = (pkF 0 xs).reverse.map (·.1) := by
    show ((pickB (backI xs)).map (·.1)).reverse = (pickB (backI xs)).reverse.map (·.1)
    rw [List.map_reverse]
  rw [e1, pkF_places 0 xs p (fun i hi => by rw [Nat.zero_add]; exact hp i hi), List.range_eq_range']
/-- Whether an item is not told: its entry is not read, and no later one writes it. -/
def dueT (d : List Im) (l : List It) (i : Nat) : Bool := match l[i]? with
  | none => false
  | some x => (entD d x.1 x.2.1).1.acc == 1 && !(l.drop (i + 1)).any fun y => y.1 == x.1 && y.2.1 == x.2.1
theorem agI_bare (x : Itm) (r : List Itm) : agI x r = (r.map bare).any fun y => y.1 == (bare x).1 && y.2.1 == (bare x).2.1 := by
  unfold agI
  rw [List.any_map]
  rfl
theorem due_at (d : List Im) (xs : List Itm) (i : Nat) (hi : i < xs.length) : dueT d (xs.map bare) i = ((entD d xs[i].1 xs[i].2.1).1.acc == 1 && !agI xs[i] (xs.drop (i + 1))) := by
  unfold dueT
  rw [List.getElem?_map, List.getElem?_eq_getElem hi, agI_bare, List.map_drop]
  rfl
theorem dif_range (xs : List Itm) (d : List Im) (h : AllOk d (xs.map bare)) : difB (appD d (xs.map bare)).1 xs = ((List.range xs.length).filter (dueT (appD d (xs.map bare)).1 (xs.map bare))).map fun i : Nat => (i : Int) := by
  unfold difB
  rw [lastB_places xs (fun i => match xs[i]? with
    | none => false
    | some x => !agI x (xs.drop (i + 1))) (fun i hi => by simp [hi]), List.filter_map, List.filter_filter]
  congr 1
  apply List.filter_congr
  intro i hi
  have hi : i < xs.length := List.mem_range.1 hi
  rw [due_at _ _ _ hi]
  simp only [Function.comp_apply, difAt, Int.toNat_natCast, List.getElem?_eq_getElem hi]
  cases ha : agI xs[i] (xs.drop (i + 1)) with
  | true => simp
  | false => rw [diff_app xs d h i hi ha]
end Go.Proofs.YtemjdmgfilbfaaaGreat
