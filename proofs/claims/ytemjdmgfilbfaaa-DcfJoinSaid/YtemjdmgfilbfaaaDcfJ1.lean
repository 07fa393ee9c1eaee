/-
  DcfJoin: writing two lists of items, one behind the other, comes to writing them as one. Proved for every argument that the row's form reads, with no further condition.
-/
import Derived.Test.YtemjdmgfilbfaaaOdO
import Derived.Test.YtemjdmgfilbfaaaDcfG1
import Derived.Test.YtemjdmgfilbfaaaOdLp
import Derived.Test.YtemjdmgfilbfaaaOdBg
import Derived.Test.YtemjdmgfilbfaaaOdV
import Derived.Test.YtemjdmgfilbfaaaDcfL1
import Derived.Test.YtemjdmgfilbfaaaOdRd
namespace Go.Proofs.Ytemjdmgfilbfaaa
open Go.RowKit
set_option linter.unusedVariables false
set_option linter.unusedSimpArgs false

/-- The dictionary, how many are written, and the code of the one that is refused. -/
def appD (d : List Im) : List It → List Im × Nat × Int
  | [] => (d, 0, 0)
  | x :: r => if mayD d x.1 x.2.1 x.2.2 ≠ 0 then (d, 0, mayD d x.1 x.2.1 x.2.2) else ((appD (writeD d x.1 x.2.1 x.2.2) r).1, (appD (writeD d x.1 x.2.1 x.2.2) r).2.1 + 1, (appD (writeD d x.1 x.2.1 x.2.2) r).2.2)
theorem appD_no {d : List Im} {x : It} {r : List It} (h : mayD d x.1 x.2.1 x.2.2 ≠ 0) : appD d (x :: r) = (d, 0, mayD d x.1 x.2.1 x.2.2) := by
  unfold appD
  rw [if_pos h]
theorem appD_yes {d : List Im} {x : It} {r : List It} (h : mayD d x.1 x.2.1 x.2.2 = 0) : appD d (x :: r) = ((appD (writeD d x.1 x.2.1 x.2.2) r).1, (appD (writeD d x.1 x.2.1 x.2.2) r).2.1 + 1, (appD (writeD d x.1 x.2.1 x.2.2) r).2.2) := by
  conv => lhs; unfold appD
  rw [if_neg (by simp [h])]
theorem appD_join (d : List Im) (a b : List It) : appD d (a ++ b) = if (appD d a).2.2 ≠ 0 then appD d a else ((appD (appD d a).1 b).1, (appD d a).2.1 + (appD (appD d a).1 b).2.1, (appD (appD d a).1 b).2.2) := by
  induction a generalizing d with
  | nil => simp [appD]
  | cons x r ih =>
    by_cases h : mayD d x.1 x.2.1 x.2.2 = 0
    · rw [List.cons_append, appD_yes h, appD_yes h, ih]
      simp only
      split
      · rfl
      · simp only [Prod.mk.injEq, true_and, and_true]
        omega
    · rw [List.cons_append, appD_no h, appD_no h]
      simp [h]
theorem appD_all (d : List Im) (a : List It) (h : (appD d a).2.2 = 0) : (appD d a).2.1 = a.length := by
  induction a generalizing d with
  | nil => rfl
  | cons x r ih =>
    by_cases h1 : mayD d x.1 x.2.1 x.2.2 = 0
    · rw [appD_yes h1] at h ⊢
      simp only at h ⊢
      rw [ih _ h]
      rfl
    · rw [appD_no h1] at h
      exact absurd h h1
theorem appD_le (d : List Im) (a : List It) : (appD d a).2.1 ≤ a.length := by
  induction a generalizing d with
  | nil => exact Nat.le_refl _
  | cons x r ih =>
    by_cases h1 : mayD d x.1 x.2.1 x.2.2 = 0
    · rw [appD_yes h1]
      have := ih (writeD d x.1 x.2.1 x.2.2)
      simp only [List.length_cons]
      omega
    · rw [appD_no h1]
      exact Nat.zero_le _
def ApplyP (b : Nat) (l : List (Nat × Im)) (xs : List It) (w : World) (e : Ending) (w' : World) : Prop :=
  e = .returned (.tuple #[.int .i64 (((appD (im l) xs).2.1 : Nat) : Int), .int .u32 (appD (im l) xs).2.2]) ∧ ∃ l', DAt w' b l' ∧ im l' = (appD (im l) xs).1 ∧ l'.map (·.1) = l.map (·.1) ∧ Frm (fun j => ∃ q ∈ l, j = q.1) w w'
/-- One more is written. -/
theorem appD_step (d : List Im) (xs : List It) (k : Nat) (hk : k < xs.length) (h : (appD d (xs.take k)).2.2 = 0) : mayD (appD d (xs.take k)).1 xs[k].1 xs[k].2.1 xs[k].2.2 ≠ 0 → appD d xs = ((appD d (xs.take k)).1, k, mayD (appD d (xs.take k)).1 xs[k].1 xs[k].2.1 xs[k].2.2) := by
  intro hm
  have e : xs = xs.take k ++ xs[k] :: xs.drop (k + 1) := by rw [← List.drop_eq_getElem_cons hk, List.take_append_drop]
  conv => lhs; rw [e]
  rw [appD_join, if_neg (by simp [h]), appD_no hm]
  have hl := appD_all d (xs.take k) h
  rw [hl, List.length_take, Nat.min_eq_left (Nat.le_of_lt hk)]
  rfl
theorem appD_stop {d : List Im} {x : It} {b : List UInt8} (h : mayD d x.1 x.2.1 b ≠ 0) : writeD d x.1 x.2.1 b = d := by
  unfold mayD at h
  unfold writeD
  cases hf : findD d x.1 x.2.1 with
  | none => rfl
  | some k =>
    rw [hf] at h
    simp only at h ⊢
    cases hk : d[k]? with
    | none => rfl
    | some y =>
      rw [hk] at h
      simp only at h ⊢
      rw [if_neg h]
theorem appD_more (d : List Im) (xs : List It) (k : Nat) (hk : k < xs.length) (h : (appD d (xs.take k)).2.2 = 0) (hm : mayD (appD d (xs.take k)).1 xs[k].1 xs[k].2.1 xs[k].2.2 = 0) :
    (appD d (xs.take (k + 1))).2.2 = 0 ∧ (appD d (xs.take (k + 1))).1 = writeD (appD d (xs.take k)).1 xs[k].1 xs[k].2.1 xs[k].2.2 := by
  rw [List.take_succ_eq_append_getElem hk, appD_join, if_neg (by simp [h])]
  simp [appD, hm]
theorem appD_ok {d : List Im} (h : DOk d) (l : List It) : DOk (appD d l).1 := by
  induction l generalizing d with
  | nil => exact h
  | cons x r ih =>
    by_cases h1 : mayD d x.1 x.2.1 x.2.2 = 0
    · rw [appD_yes h1]
      exact ih (h.write _ _ _)
    · rw [appD_no h1]
      exact h
theorem ItemsRow.frm {S : Nat → Prop} {B : Nat} {w w' : World} {v : Value} {xs : List Itm} (h : ItemsRow B w v xs) (hF : Frm S w w') (hS : ∀ k, B ≤ k → ¬ S k) : ItemsRow B w' v xs :=
  ⟨hF.row h.1 fun k hk => hS k (row_block h.1 hk).1, fun x hx => hF.row (h.2 x hx) fun k hk => hS k (row_block (h.2 x hx) hk).1⟩

set_option maxRecDepth 100000 in
set_option maxHeartbeats 2000000 in
theorem each_any (b : Nat) (l : List (Nat × Im)) (v : Value) (xs : List Itm) (B : Nat) (w : World) (h : DAt w b l) (hd : DOk (im l)) (hI : ItemsRow B w v xs) (hB : ∀ q ∈ l, q.1 < B) (hr : ∀ x ∈ xs, Rng (bare x)) (hb : ∀ x ∈ xs, x.2.2.2.length ≤ 140737488351232) :
    Calls Try.prog 72 #[ptr b, v, .func (.func 15) #[] #[]] w (ApplyP b l (xs.map bare) w) := by
  have HD := Lib.hid h
  have HI := Lib.hid hI
  have HB := Lib.hid hB
  have HR := Lib.hid hr
  have HBL := Lib.hid hb
  obtain ⟨d, hde⟩ : ∃ d, d = im l := ⟨_, rfl⟩
  have HDE := Lib.hid hde
  rw [← hde] at hd
  have HOK := Lib.hid hd
  obtain ⟨A, cap, rfl, hn1, hn2, _⟩ := row_open hI.1
  have hm : xs.length ≤ 9223372036854775807 := Nat.le_trans hn1 hn2
  unfold ApplyP
  rw [← hde]
  obtain ⟨ys, hys⟩ : ∃ ys, ys = xs.map bare := ⟨_, rfl⟩
  have HYS := Lib.hid hys
  have HYL : Hid (ys.length = xs.length) := by unfold Hid; rw [hys]; simp
  rw [← hys]
  clear h hI hB hr hb hd hde hys hn1 hn2
  unfold ptr
  go_enter Try.func72, Try.ntmps72
  go_wp2_with fail
  go_loopw [15] (fun i wr => ∃ (k : Nat) (l' : List (Nat × Im)), k ≤ xs.length ∧ i = .int .i64 k ∧ DAt wr b l' ∧ im l' = (appD d (ys.take k)).1 ∧ (appD d (ys.take k)).2.2 = 0 ∧ l'.map (·.1) = l.map (·.1) ∧ Frm (fun j => ∃ q ∈ l, j = q.1) w wr) (fun i _ => xs.length - (intOf i).toNat)
  case atStart => exact ⟨0, l, Nat.zero_le _, rfl, HD.out, HDE.out.symm, rfl, rfl, Frm.refl _ _⟩
  case round =>
    obtain ⟨k, l', hk, rfl, hDr, hil, hcode, hfst, hF⟩ := hrel
    have hIr : ItemsRow B wr (.slice A xs.length cap) xs := HI.out.frm hF (fun j hj ⟨q, hq, e⟩ => by have := HB.out q hq; omega)
    by_cases hlt : k < xs.length
    · have HKL : Hid (k + 1 ≤ xs.length) := hlt
      have hky : k < ys.length := by rw [HYL.out]; exact hlt
      have hmem := List.getElem_mem hlt
      have hyk : ys[k] = bare xs[k] := by
        have : ys[k]? = some (bare xs[k]) := by rw [HYS.out, List.getElem?_map, List.getElem?_eq_getElem hlt]; rfl
        rw [List.getElem?_eq_getElem hky] at this
        exact Option.some.inj this
      have HSTEP := Lib.hid (appD_step d ys k hky hcode)
      have HMORE := Lib.hid (appD_more d ys k hky hcode)
      rw [hyk] at HSTEP HMORE
      obtain ⟨A', cap', eA, _, _, q3⟩ := row_open hIr.1
      simp only [Value.slice.injEq] at eA
      obtain ⟨rfl, -, rfl⟩ := eA
      obtain ⟨g, rfl, _, ⟨cur, hcu⟩, _, hcc⟩ := q3 (by omega)
      have hgl := lt_of_block hcu
      have hcell : ∀ o (ho : o < 3), wr.cell? ⟨g, k * 3 + o, none⟩ = some ((encIt xs[k])[o]'(by rw [encIt_len]; exact ho)) := fun o ho => by
        rw [hcc _ (by omega), cellsOf_get encIt_len xs k o hlt ho]
        exact List.getElem?_eq_getElem (by rw [encIt_len]; exact ho)
      have hown := hIr.2 _ hmem
      have hrg := HR.out _ hmem
      have hbl := HBL.out _ hmem
      generalize xs[k] = x at *
      obtain ⟨xi, xsb, xv, xb⟩ := x
      simp only [bare] at hrg hbl hown HSTEP HMORE
      obtain ⟨Ab, cb, rfl, _, _, _⟩ := row_open hown
      have u0 := hcell 0 (by decide)
      have u1 := hcell 1 (by decide)
      have u2 := hcell 2 (by decide)
      simp only [encIt, List.getElem_cons_succ, List.getElem_cons_zero, Nat.add_zero] at u0 u1 u2
      have HWR := Lib.hid (fun W (hW : Frm (fun _ => False) wr W) => odWrite_any b l' xi xsb (.slice Ab xb.length cb) xb W (hDr.grow hW) (by rw [hil]; exact appD_ok HOK.out _) ⟨hrg.2.2.1, hrg.2.2.2⟩ ((BytesAt.of_row hown).grow hW) hbl)
      unfold WriteP ptr at HWR
      rw [hil] at HWR
      have HFST := Lib.hid hfst
      have HF := Lib.hid hF
      have HIL := Lib.hid hil
      have HDR := Lib.hid hDr
      have hx : Frm (fun _ => False) wr (wr.alloc (.cells #[.int .u16 xi, .int .u8 xsb, .slice Ab xb.length cb] 126)) := (Frm.refl _ _).alloc _
      have HX := Lib.hid hx
      have HSZ : Hid (∀ q ∈ l', q.1 < wr.heap.size) := fun q hq => hDr.lt q hq
      have HSF : Hid (∀ j, (∃ q ∈ l', j = q.1) → ∃ q ∈ l, j = q.1) := fun j ⟨q, hq, e⟩ => by
        have : q.1 ∈ l.map (·.1) := by rw [← HFST.out]; exact List.mem_map_of_mem hq
        obtain ⟨q', hq', e'⟩ := List.mem_map.1 this
        exact ⟨q', hq', by rw [e, e']⟩
      clear hfst hF hil hDr hx hIr hcell hcc hcu hown hmem hyk hcode q3 hrg
      generalize hco : mayD (appD d (ys.take k)).1 xi xsb xb = code at *
      have HCO := Lib.hid hco
      clear hco
      by_cases hcd : code = 0
      · subst hcd
        have HM := Lib.hid (HMORE.out rfl)
        clear HSTEP HMORE
        go_wp2_with (go_at_call 15; refine (HWR.out _ HX.out).mono ?_; rintro e w6 ⟨rfl, l6, hD6, hl6, hf6, hF6⟩; have HD6 := Lib.hid hD6; have HL6 := Lib.hid hl6; have HF6 := Lib.hid hf6; have HFR6 := Lib.hid hF6; clear hD6 hl6 hf6 hF6)
        go_roundw
        case rel => exact ⟨k + 1, l6, HKL.out, by go_num, HD6.out, by rw [HL6.out, HM.out.2], HM.out.1, HF6.out.trans HFST.out, HF.out.trans (T := fun j => ∃ q ∈ l', j = q.1) ((HX.out.mono (fun _ _ h => h.elim)).trans HFR6.out (fun i _ h => h)) (fun i _ h => HSF.out i h)⟩
        case measure => have := HKL.out; simp [intOf]; omega
      · have HS := Lib.hid (HSTEP.out hcd)
        have HW9 := Lib.hid (appD_stop (d := (appD d (ys.take k)).1) (x := (xi, xsb, xb)) (b := xb) (HCO.out ▸ hcd))
        simp only at HW9
        rw [HW9.out] at HWR
        have b1 : (code != 0) = true := by simpa using hcd
        clear hcd HSTEP HMORE HW9
        go_wp2_with (go_at_call 15; refine (HWR.out _ HX.out).mono ?_; rintro e w6 ⟨rfl, l6, hD6, hl6, hf6, hF6⟩; have HD6 := Lib.hid hD6; have HL6 := Lib.hid hl6; have HF6 := Lib.hid hf6; have HFR6 := Lib.hid hF6; clear hD6 hl6 hf6 hF6)
        go_ret2
        rw [HS.out]
        exact ⟨rfl, l6, HD6.out, HL6.out, HF6.out.trans HFST.out, HF.out.trans (T := fun j => ∃ q ∈ l', j = q.1) ((HX.out.mono (fun _ _ h => h.elim)).trans HFR6.out (fun i _ h => h)) (fun i _ h => HSF.out i h)⟩
    · have hkn : k = xs.length := by omega
      subst hkn
      rw [← HYL.out, List.take_length] at hcode hil
      have hall := appD_all d ys hcode
      rw [HYL.out] at hall
      have HDR := Lib.hid hDr
      have HF := Lib.hid hF
      have HIL := Lib.hid hil
      have HFS := Lib.hid hfst
      have HCD := Lib.hid hcode
      have HAL := Lib.hid hall
      clear hDr hF hil hfst hcode hall hIr
      go_wp2_with fail
      go_ret2
      exact ⟨by rw [HAL.out, HCD.out]; rfl, l', HDR.out, HIL.out, HFS.out, by first | exact HF.out | exact HF.out.mono (fun _ _ ⟨q, hq, e⟩ => ⟨q.2.1, q.2.2, by subst e; exact hq⟩)⟩

theorem apply_any (b : Nat) (l : List (Nat × Im)) (v : Value) (xs : List Itm) (B : Nat) (w : World) (h : DAt w b l) (hd : DOk (im l)) (hI : ItemsRow B w v xs) (hB : ∀ q ∈ l, q.1 < B) (hr : ∀ x ∈ xs, Rng (bare x)) (hb : ∀ x ∈ xs, x.2.2.2.length ≤ 140737488351232) :
    Calls Try.prog 34 #[ptr b, v] w (ApplyP b l (xs.map bare) w) := by
  have HE := Lib.hid (each_any b l v xs B w h hd hI hB hr hb)
  obtain ⟨A, cap, rfl, _, _, _⟩ := row_open hI.1
  unfold ApplyP ptr at HE
  unfold ApplyP ptr
  clear h hd hI hB hr hb
  go_enter Try.func34, Try.ntmps34
  go_wp2_with (go_at_call 72; refine HE.out.mono ?_; rintro e w6 ⟨rfl, h6⟩; have H6 := Lib.hid h6; clear h6)
  go_ret2
  exact ⟨rfl, H6.out⟩
end Go.Proofs.Ytemjdmgfilbfaaa
namespace Go.Proofs.Ytemjdmgfilbfaaa
open Go.RowKit
set_option linter.unusedVariables false
set_option linter.unusedSimpArgs false

theorem size_Item (w : World) : (Go.sizeOf 126).run Try.prog w = .ok 3 w := by
  have h : (Try.prog.info? 126).map (·.size) = some 3 := by kernel_rfl
  obtain ⟨i, hi, h1⟩ := Option.map_eq_some_iff.1 h
  simp [Go.sizeOf, typeInfo, hi, h1]
theorem items_front {W0 : World} {A : Option Addr} {is : List Itm} {cap : Nat} (h : ItemsAt W0 (.slice A is.length cap) is) (j : Nat) (hj : j ≤ is.length) :
    ∃ A1, (∀ W, (Instr.slice 73 (.slice A is.length cap) none (some (.int .i64 (j : Int))) none).run Try.prog W = .ok (.slice A1 j cap) W) ∧ ItemsAt W0 (.slice A1 j cap) (is.take j) := by
  have ht : Try.prog.underlying 73 = some (.slice (Try.prog.elem 73)) := by kernel_rfl
  have he : Try.prog.elem 73 = 126 := by kernel_rfl
  obtain ⟨⟨A', cap', e, h1, h2, h3⟩, h4⟩ := h
  simp only [Value.slice.injEq] at e
  obtain ⟨rfl, -, rfl⟩ := e
  refine ⟨if cap = 0 then A else A.map (·.add (0 * 3)), fun W => ?_, ⟨_, cap, by rw [List.length_take, Nat.min_eq_left hj], by rw [List.length_take, Nat.min_eq_left hj]; omega, h2, fun h0 => ?_⟩, fun x hx => h4 x (List.mem_of_mem_take hx)⟩
  · rw [run_slice_h W 73 _ _ _ ht .i64 _ (by omega) (by omega), he, size_Item]
    simp [Result.andThen, sliced]
  · rw [List.length_take, Nat.min_eq_left hj] at h0
    obtain ⟨g, off, rfl, hg, hc⟩ := h3 (by omega)
    rw [if_neg (by omega)]
    refine ⟨g, off, by simp [Addr.add], hg, fun i hi q hq => ?_⟩
    have hi2 : i < is.length := by rw [List.length_take] at hi; omega
    have e2 : (is.take j)[i] = is[i] := List.getElem_take
    simp only [e2] at hq ⊢
    exact hc i hi2 q hq
theorem items_back {W0 : World} {A : Option Addr} {is : List Itm} {cap : Nat} (h : ItemsAt W0 (.slice A is.length cap) is) (j : Nat) (hj : j ≤ is.length) :
    ∃ A1, (∀ W, (Instr.slice 73 (.slice A is.length cap) (some (.int .i64 (j : Int))) none none).run Try.prog W = .ok (.slice A1 (is.length - j) (cap - j)) W) ∧ ItemsAt W0 (.slice A1 (is.length - j) (cap - j)) (is.drop j) := by
  have ht : Try.prog.underlying 73 = some (.slice (Try.prog.elem 73)) := by kernel_rfl
  have he : Try.prog.elem 73 = 126 := by kernel_rfl
  obtain ⟨⟨A', cap', e, h1, h2, h3⟩, h4⟩ := h
  simp only [Value.slice.injEq] at e
  obtain ⟨rfl, -, rfl⟩ := e
  refine ⟨if cap = j then A else A.map (·.add (j * 3)), fun W => ?_, ⟨_, cap - j, by rw [List.length_drop], by rw [List.length_drop]; omega, by omega, fun h0 => ?_⟩, fun x hx => h4 x (List.mem_of_mem_drop hx)⟩
  · rw [run_slice_l W 73 _ _ _ ht .i64 _ (by omega) (by omega), he, size_Item]
    simp [Result.andThen, sliced]
  · rw [List.length_drop] at h0
    obtain ⟨g, off, rfl, hg, hc⟩ := h3 (by omega)
    rw [if_neg (by omega)]
    refine ⟨g, off + j * 3, ?_, hg, fun i hi q hq => ?_⟩
    · simp only [Option.map_some, Addr.add]
      by_cases h1 : j = 0
      · simp [h1]
      · have h2 : j * 3 ≠ 0 := by omega
        simp [h2]
    · have hi2 : j + i < is.length := by rw [List.length_drop] at hi; omega
      have e2 : (is.drop j)[i] = is[j + i] := List.getElem_drop
      have e3 : off + j * 3 + i * 3 + q = off + (j + i) * 3 + q := by omega
      simp only [e2, e3]
      exact hc (j + i) hi2 q hq
/-- Items of one's own: as they were. -/
theorem own_facts {is ys : List Itm} (h : ys.map bare = is.map bare) (hr : ∀ x ∈ is, Rng (bare x)) (hb : ∀ x ∈ is, x.2.2.2.length ≤ 140737488351232) : (∀ y ∈ ys, Rng (bare y)) ∧ ∀ y ∈ ys, y.2.2.2.length ≤ 140737488351232 := by
  have hm : ∀ y ∈ ys, ∃ x ∈ is, bare x = bare y := fun y hy => by
    have : bare y ∈ is.map bare := by rw [← h]; exact List.mem_map_of_mem hy
    exact List.mem_map.1 this
  refine ⟨fun y hy => ?_, fun y hy => ?_⟩
  · obtain ⟨x, hx, e⟩ := hm y hy
    rw [← e]; exact hr x hx
  · obtain ⟨x, hx, e⟩ := hm y hy
    have e2 : x.2.2.2 = y.2.2.2 := congrArg (fun z => z.2.2) e
    rw [← e2]; exact hb x hx

set_option maxRecDepth 100000 in
set_option maxHeartbeats 4000000 in
theorem join_any (v0 v1 : Value) (xs : List En) (is : List Itm) (at' : Int) (W : World) (h0 : SlAt cellsE 14 W v0 xs) (hx : ∀ x ∈ xs, x.ok) (hby : xs.length * 120 ≤ 140737488351232)
    (h1 : ItemsAt W v1 is) (hl : is.length * 32 ≤ 140737488351232) (hr : ∀ x ∈ is, Rng (bare x)) (hb : ∀ x ∈ is, x.2.2.2.length ≤ 140737488351232) (ha : 0 ≤ at' ∧ at' ≤ 255) :
    Calls Try.prog 11 #[v0, v1, .int .u8 at'] W fun e w' => e = .returned (.bool true) ∧ Frm (fun _ => False) W w' := by
  have HBEG := Lib.hid (fun W1 (hF : Frm (fun _ => False) W W1) => begins_any v0 xs W1 (SlAt.frm cellsE_len h0 hF) hx hby)
  have HX := Lib.hid hx
  obtain ⟨A0, cap0, rfl, _, _, _⟩ := h0
  have H1 := Lib.hid h1
  obtain ⟨⟨A, cap, rfl, hc1, hc2, _⟩, _⟩ := h1
  have HLV := Lib.hid (fun W => livesD_any W)
  have HR := Lib.hid hr
  have HBL := Lib.hid hb
  have HLEN := Lib.hid hl
  unfold BeginP at HBEG
  unfold LivesD at HLV
  have hm : is.length ≤ 9223372036854775807 := Nat.le_trans hc1 hc2
  obtain ⟨ha0, ha1⟩ := ha
  clear hx hby hr hb hl hc1 hc2
  by_cases hz : checkE xs = 0
  case neg =>
    have HZ := Lib.hid hz
    clear hz
    go_enter Try.func11, Try.ntmps11
    go_wp2_with (first | (go_at_call 19; refine (HBEG.out _ (Frm.refl _ _)).mono ?_; rintro e w2 ⟨hF2, ⟨hne, rfl⟩ | h⟩; rotate_left; exact absurd h.1 HZ.out; have HF2 := Lib.hid hF2) | (go_at_call 33; refine (HLV.out _).mono ?_; rintro e w4 ⟨rfl, hF4⟩))
    go_ret
    exact ⟨rfl, HF2.out.trans' hF4⟩
  by_cases h5 : 500 < is.length
  case pos =>
    have HZ := Lib.hid hz
    clear hz
    go_enter Try.func11, Try.ntmps11
    go_wp2_with (first | (go_at_call 19; refine (HBEG.out _ (Frm.refl _ _)).mono ?_; rintro e w2 ⟨hF2, h | ⟨-, a, b, p, l, N, rfl, hPa, hD, hl, hDR, hb0, hbN, hlN, hpN, haN⟩⟩; exact absurd HZ.out h.1; have HF2 := Lib.hid hF2; unfold ptr) | (go_at_call 33; refine (HLV.out _).mono ?_; rintro e w4 ⟨rfl, hF4⟩))
    go_ret
    exact ⟨rfl, HF2.out.trans' hF4⟩
  have hi5 : is.length ≤ 500 := Nat.not_lt.1 h5
  clear h5
  have HINV := Lib.hid (linv_new hz HX.out)
  have HZ := Lib.hid hz
  clear hz
  obtain ⟨k, hk, hk2⟩ : ∃ k : Nat, at' % ((is.length : Int) + 1) = (k : Int) ∧ k ≤ is.length := by
    have h1 := Int.emod_nonneg at' (show (is.length : Int) + 1 ≠ 0 by omega)
    have h2 := Int.emod_lt_of_pos at' (show (0 : Int) < (is.length : Int) + 1 by omega)
    exact ⟨(at' % ((is.length : Int) + 1)).toNat, by omega, by omega⟩
  have HK2 := Lib.hid hk2
  clear hk2
  go_enter Try.func11, Try.ntmps11
  go_upto_region 4 with (go_at_call 19; refine (HBEG.out _ (Frm.refl _ _)).mono ?_; rintro e w2 ⟨hF2, h | ⟨-, a, b, p, l, N, rfl, hPa, hD, hl, hDR, hb0, hbN, hlN, hpN, haN⟩⟩; exact absurd HZ.out h.1; have HF2 := Lib.hid hF2; have HPA := Lib.hid hPa; have HD := Lib.hid hD; have HL := Lib.hid hl; have HB0 := Lib.hid hb0; clear hF2 hPa hD hl hDR hb0 hbN hlN hpN haN; unfold ptr)
  go_upto_region 7 with (go_at_call 19; refine (HBEG.out _ HF2.out).mono ?_; rintro e w3 ⟨hF3, h | ⟨-, a2, b2, p2, l2, N2, rfl, hPa2, hD2, hl2, hDR2, hb02, hbN2, hlN2, hpN2, haN2⟩⟩; exact absurd HZ.out h.1; have HF3 := Lib.hid hF3; have HPA2 := Lib.hid hPa2; have HD2 := Lib.hid hD2; have HL2 := Lib.hid hl2; have HB02 := Lib.hid hb02; clear hF3 hPa2 hD2 hl2 hDR2 hb02 hbN2 hlN2 hpN2 haN2; unfold ptr)
  go_upto_region 8 with fail
  rw [hk]
  have HDU : Hid (Duo w3 a b p b2 w2.heap.size l l2) := ⟨HF3.out.heap HPA.out (fun h => h), HD.out.grow HF3.out, HD2.out, HD.out.lt, HD.out.blt, HB02.out⟩
  have HFW := Lib.hid (HF2.out.trans' HF3.out)
  have HOK1 : Hid (DOk (im l)) := by unfold Hid; rw [show im l = newD xs from HL.out]; exact HINV.out.ok
  have heq : im l2 = im l := (show im l2 = newD xs from HL2.out).trans (show im l = newD xs from HL.out).symm
  have HEQ := Lib.hid heq
  have HOK2 : Hid (DOk (im l2)) := by unfold Hid; rw [heq]; exact HOK1.out
  have HBLE : Hid (W.heap.size ≤ b) := HB0.out
  obtain ⟨ys, hys⟩ : ∃ ys, ys = is.map bare := ⟨_, rfl⟩
  have HYS := Lib.hid hys
  have HDD := Lib.hid HDU.out.d1
  have ca : w3.cell? ⟨a, 0, none⟩ = some (.pointer (some ⟨b, 0, none⟩)) := cell_at HDU.out.hp
  have hcc : ∀ Wx, Frm (fun j => ∃ q ∈ l, j = q.1) w3 Wx → Wx.cell? ⟨a, 0, none⟩ = some (.pointer (some ⟨b, 0, none⟩)) := fun Wx h => h.cell ca (fun ⟨q, hq, e⟩ => block_ne (HDU.out.d1.el q hq) HDU.out.hp (by decide) e.symm)
  have HCC := Lib.hid hcc
  have hal : a < w3.heap.size := lt_of_block HDU.out.hp
  have HRT := HR
  have HBT := HBL
  have HYK : Hid (is.map bare = ys) := hys.symm
  clear hk ha0 ha1 hys ca hcc heq HINV HL HL2 HB02 HB0 HD HD2 HPA HF2 HF3 HBEG
  refine wp_region_held_drew (S := (fun Wx => Frm (fun j => ∃ q ∈ l, j = q.1) w3 Wx)) (by kernel_rfl) ((Frm.refl _ _).drew) (fun hHeld => ?_)
  refine wpAnyH_take (i := 0) (v := ?_) rfl (by kernel_rfl) (by kernel_rfl) (by kernel_rfl) (fun _ _ _ h => h) (Or.inl ⟨by rfl, ?_⟩) (by assumption) ?_
  rotate_left
  · intro wq hSq
    have hq := HCC.out wq hSq
    go_split_ands
    go_simp
    try with_reducible rfl
  try simp only [Act.put, List.getElem_toArray, List.getElem_cons_zero, List.getElem_cons_succ, List.setIfInBounds_toArray, List.set_cons_zero, List.set_cons_succ]
  refine wpAnyH_take (i := 1) (v := ?_) rfl (by kernel_rfl) (by kernel_rfl) (by kernel_rfl) (fun _ _ _ h => h) (Or.inl ⟨by rfl, ?_⟩) (by assumption) ?_
  rotate_left
  · intro wq hSq
    have hq := HCC.out wq hSq
    go_split_ands
    go_simp
    try with_reducible rfl
  try simp only [Act.put, List.getElem_toArray, List.getElem_cons_zero, List.getElem_cons_succ, List.setIfInBounds_toArray, List.set_cons_zero, List.set_cons_succ]
  refine wpAnyH_take (i := 2) (v := ?_) rfl (by kernel_rfl) (by kernel_rfl) (by kernel_rfl) (fun _ _ _ h => h) (Or.inl ⟨by rfl, ?_⟩) (by assumption) ?_
  rotate_left
  · intro wq hSq
    have hq := HCC.out wq hSq
    go_split_ands
    go_simp
    try with_reducible rfl
  try simp only [Act.put, List.getElem_toArray, List.getElem_cons_zero, List.getElem_cons_succ, List.setIfInBounds_toArray, List.set_cons_zero, List.set_cons_succ]
  refine wpAnyH_take (i := 3) (v := ?_) rfl (by kernel_rfl) (by kernel_rfl) (by kernel_rfl) (fun _ _ _ h => h) (Or.inl ⟨by rfl, ?_⟩) (by assumption) ?_
  rotate_left
  · intro wq hSq
    have hq := HCC.out wq hSq
    go_split_ands
    go_simp
    try with_reducible rfl
  try simp only [Act.put, List.getElem_toArray, List.getElem_cons_zero, List.getElem_cons_succ, List.setIfInBounds_toArray, List.set_cons_zero, List.set_cons_succ]
  refine wpAnyH_take (i := 4) (v := ?_) rfl (by kernel_rfl) (by kernel_rfl) (by kernel_rfl) (fun _ _ _ h => h) (Or.inl ⟨by rfl, ?_⟩) (by assumption) ?_
  rotate_left
  · intro wq hSq
    have hq := HCC.out wq hSq
    go_split_ands
    go_simp
    try with_reducible rfl
  try simp only [Act.put, List.getElem_toArray, List.getElem_cons_zero, List.getElem_cons_succ, List.setIfInBounds_toArray, List.set_cons_zero, List.set_cons_succ]
  refine wpAnyH_ready (rs := [5]) (by kernel_rfl) (by simp) ?_
  refine AllReadyH.cons rfl (fun K hK => ?_) AllReadyH.nil
  try simp only [List.getElem_toArray, List.getElem_cons_zero, List.getElem_cons_succ]
  go_simp
  refine (own_any _ is _ (H1.out.frm (HFW.out.trans' (Frm.refl _ _).drew)) HLEN.out HBT.out).mono ?_
  rintro e w5 ⟨hF5, v5, ys5, rfl, hy5, hI5⟩
  obtain ⟨A5, c5, rfl, _, _, _⟩ := row_open hI5.1
  have hw5 : Frm (fun _ => False) w3 w5 := (Frm.refl _ _).drew.trans' hF5
  go_wp2_with fail
  refine hK.out _ _ (hw5.mono (fun _ _ h => h.elim)) (fun hHeld => ?_)
  clear hK K
  try simp only [Act.put, List.setIfInBounds_toArray, List.set_cons_zero, List.set_cons_succ]
  have HAP := Lib.hid (apply_any b l _ ys5 _ w5 (HDD.out.grow hw5) HOK1.out hI5 (fun q hq => HDD.out.lt q hq) (own_facts hy5 HRT.out HBT.out).1 (own_facts hy5 HRT.out HBT.out).2)
  unfold ApplyP ptr at HAP
  rw [hy5, HYK.out] at HAP
  refine wpAnyH_ready (rs := [6]) (by kernel_rfl) (by simp) ?_
  refine AllReadyH.cons rfl (fun K hK => ?_) AllReadyH.nil
  try simp only [List.getElem_toArray, List.getElem_cons_zero, List.getElem_cons_succ]
  go_simp
  refine HAP.out.mono ?_
  rintro e w6 ⟨rfl, l6, hD6, hl6, hf6, hF6⟩
  have hw6 : Frm (fun j => ∃ q ∈ l, j = q.1) w3 w6 := (hw5.mono (fun _ _ h => h.elim)).trans hF6 (fun i hi h => h)
  go_wp2_with fail
  refine hK.out _ _ (hw6) (fun hHeld => ?_)
  clear hK K
  try simp only [Act.put, List.setIfInBounds_toArray, List.set_cons_zero, List.set_cons_succ]
  refine wpAnyH_take (i := 7) (v := ?_) rfl (by kernel_rfl) (by kernel_rfl) (by kernel_rfl) (fun _ _ _ h => h) (Or.inl ⟨by rfl, ?_⟩) (by assumption) ?_
  rotate_left
  · intro wq hSq
    try dsimp only at hSq
    go_split_ands
    go_simp
    try with_reducible rfl
  try simp only [Act.put, List.getElem_toArray, List.getElem_cons_zero, List.getElem_cons_succ, List.setIfInBounds_toArray, List.set_cons_zero, List.set_cons_succ]
  refine wpAnyH_take (i := 8) (v := ?_) rfl (by kernel_rfl) (by kernel_rfl) (by kernel_rfl) (fun _ _ _ h => h) (Or.inl ⟨by rfl, ?_⟩) (by assumption) ?_
  rotate_left
  · intro wq hSq
    try dsimp only at hSq
    go_split_ands
    go_simp
    try with_reducible rfl
  try simp only [Act.put, List.getElem_toArray, List.getElem_cons_zero, List.getElem_cons_succ, List.setIfInBounds_toArray, List.set_cons_zero, List.set_cons_succ]
  refine wpAnyH_take (i := 9) (v := ?_) rfl (by kernel_rfl) (by kernel_rfl) (by kernel_rfl) (fun _ _ _ h => h) (Or.inl ⟨by rfl, ?_⟩) (by assumption) ?_
  rotate_left
  · intro wq hSq
    try dsimp only at hSq
    go_split_ands
    go_simp
    try with_reducible rfl
  try simp only [Act.put, List.getElem_toArray, List.getElem_cons_zero, List.getElem_cons_succ, List.setIfInBounds_toArray, List.set_cons_zero, List.set_cons_succ]
  refine wpAnyH_take (i := 10) (v := ?_) rfl (by kernel_rfl) (by kernel_rfl) (by kernel_rfl) (fun _ _ _ h => h) (Or.inl ⟨by rfl, ?_⟩) (by assumption) ?_
  rotate_left
  · intro wq hSq
    try dsimp only at hSq
    go_split_ands
    go_simp
    try with_reducible rfl
  try simp only [Act.put, List.getElem_toArray, List.getElem_cons_zero, List.getElem_cons_succ, List.setIfInBounds_toArray, List.set_cons_zero, List.set_cons_succ]
  refine wpAnyH_take (i := 11) (v := ?_) rfl (by kernel_rfl) (by kernel_rfl) (by kernel_rfl) (fun _ _ _ h => h) (Or.inl ⟨by rfl, ?_⟩) (by assumption) ?_
  rotate_left
  · intro wq hSq
    try dsimp only at hSq
    go_split_ands
    go_simp
    try with_reducible rfl
  try simp only [Act.put, List.getElem_toArray, List.getElem_cons_zero, List.getElem_cons_succ, List.setIfInBounds_toArray, List.set_cons_zero, List.set_cons_succ]
  refine wpAnyH_done (by kernel_rfl) ?_ _
  have HDU6 := Lib.hid ((HDU.out.grow hw5).w1 hF6 hD6 hf6)
  have hlo : ∀ j, (∃ q ∈ l, j = q.1) → W.heap.size ≤ j := fun j h => HDU.out.lo1 HBLE.out h
  have HFW6 := Lib.hid (HFW.out.trans hw6 (fun i hi h => absurd hi (Nat.not_lt.2 (hlo i h))))
  have hp6 := hw6.heap HPA2.out (fun ⟨q, hq, e⟩ => block_ne (HDU.out.d1.el q hq) HPA2.out (by decide) e.symm)
  have HP6 := Lib.hid hp6
  have HL6 := Lib.hid hl6
  obtain ⟨y1, hy1⟩ : ∃ y1, (is.take k).map bare = y1 := ⟨_, rfl⟩
  obtain ⟨y2, hy2⟩ : ∃ y2, (is.drop k).map bare = y2 := ⟨_, rfl⟩
  have hyj : ys = y1 ++ y2 := by rw [← HYK.out, ← hy1, ← hy2, ← List.map_append, List.take_append_drop]
  have hyl1 : y1.length ≤ 500 := by rw [← hy1, List.length_map, List.length_take]; omega
  have hyl2 : y2.length ≤ 500 := by rw [← hy2, List.length_map, List.length_drop]; omega
  have HY1 := Lib.hid hy1
  have HY2 := Lib.hid hy2
  obtain ⟨ra, hra⟩ : ∃ ra, ra = appD (im l) y1 := ⟨_, rfl⟩
  obtain ⟨rb, hrb⟩ : ∃ rb, rb = appD ra.1 y2 := ⟨_, rfl⟩
  have HJ : Hid (appD (im l) ys = if ra.2.2 ≠ 0 then ra else (rb.1, ra.2.1 + rb.2.1, rb.2.2)) := by
    unfold Hid
    rw [hrb, hra, ← appD_join, hyj]
  have hra1 : ra.2.1 ≤ 500 := by
    have := appD_le (im l) y1
    rw [← hra] at this
    omega
  have hrb1 : rb.2.1 ≤ 500 := by
    have := appD_le ra.1 y2
    rw [← hrb] at this
    omega
  have HRA := Lib.hid hra
  have HRB := Lib.hid hrb
  obtain ⟨A1, hs1, hI1⟩ := items_front H1.out k HK2.out
  obtain ⟨A2, hs2, hI2⟩ := items_back H1.out k HK2.out
  have HI1 := Lib.hid hI1
  have HI2 := Lib.hid hI2
  have HS2 := Lib.hid hs2
  have HDD6 := Lib.hid HDU6.out.d2
  have ca : w6.cell? ⟨a2, 0, none⟩ = some (.pointer (some ⟨b2, 0, none⟩)) := cell_at hp6
  have hcc : ∀ Wx, Frm (fun j => ∃ q ∈ l2, j = q.1) w6 Wx → Wx.cell? ⟨a2, 0, none⟩ = some (.pointer (some ⟨b2, 0, none⟩)) := fun Wx h => h.cell ca (fun ⟨q, hq, e⟩ => block_ne (HDU6.out.d2.el q hq) HP6.out (by decide) e.symm)
  have HC6 := Lib.hid hcc
  have hal6 : a2 < w6.heap.size := lt_of_block hp6
  have HLT1 : Hid ((is.take k).length * 32 ≤ 140737488351232) := by have := HLEN.out; unfold Hid; rw [List.length_take]; omega
  have HLT2 : Hid ((is.drop k).length * 32 ≤ 140737488351232) := by have := HLEN.out; unfold Hid; rw [List.length_drop]; omega
  clear HCC hcc ca hp6 hal hra hrb hI1 hI2 hs2 HFW hw6 hw5 hF6 hD6 hl6 hf6 hlo hHeld HAP hI5 hy5 hF5
  have HRT : Hid (∀ x ∈ is.take k, Rng (bare x)) := fun x hx => HR.out x (List.mem_of_mem_take hx)
  have HBT : Hid (∀ x ∈ is.take k, x.2.2.2.length ≤ 140737488351232) := fun x hx => HBL.out x (List.mem_of_mem_take hx)
  have HFW := HFW6
  have HRR : Hid (DOk (appD (im l) ys).1) := appD_ok HOK1.out _
  clear HYK hyj hyl1 hyl2 hy1 hy2
  generalize appD (im l) ys = r at *
  have HYK := HY1
  generalize w6 = wa at *
  generalize l6 = la at *
  clear HDU HDD
  go_upto_region 9 with fail
  refine wp_region_held_drew (S := (fun Wx => Frm (fun j => ∃ q ∈ l2, j = q.1) wa Wx)) (by kernel_rfl) ((Frm.refl _ _).drew) (fun hHeld => ?_)
  refine wpAnyH_take (i := 0) (v := ?_) rfl (by kernel_rfl) (by kernel_rfl) (by kernel_rfl) (fun _ _ _ h => h) (Or.inl ⟨by rfl, ?_⟩) (by assumption) ?_
  rotate_left
  · intro wq hSq
    have hq := HC6.out wq hSq
    go_split_ands
    go_simp
    try with_reducible rfl
  try simp only [Act.put, List.getElem_toArray, List.getElem_cons_zero, List.getElem_cons_succ, List.setIfInBounds_toArray, List.set_cons_zero, List.set_cons_succ]
  refine wpAnyH_take (i := 1) (v := ?_) rfl (by kernel_rfl) (by kernel_rfl) (by kernel_rfl) (fun _ _ _ h => h) (Or.inl ⟨by rfl, ?_⟩) (by assumption) ?_
  rotate_left
  · intro wq hSq
    have hq := HC6.out wq hSq
    go_split_ands
    go_simp
    try with_reducible rfl
  try simp only [Act.put, List.getElem_toArray, List.getElem_cons_zero, List.getElem_cons_succ, List.setIfInBounds_toArray, List.set_cons_zero, List.set_cons_succ]
  refine wpAnyH_take (i := 2) (v := ?_) rfl (by kernel_rfl) (by kernel_rfl) (by kernel_rfl) (fun _ _ _ h => h) (Or.inl ⟨by rfl, ?_⟩) (by assumption) ?_
  rotate_left
  · intro wq hSq
    have hq := HC6.out wq hSq
    go_split_ands
    go_simp
    try with_reducible rfl
  try simp only [Act.put, List.getElem_toArray, List.getElem_cons_zero, List.getElem_cons_succ, List.setIfInBounds_toArray, List.set_cons_zero, List.set_cons_succ]
  refine wpAnyH_take (i := 3) (v := ?_) rfl (by kernel_rfl) (by kernel_rfl) (by kernel_rfl) (fun _ _ _ h => h) (Or.inl ⟨by rfl, ?_⟩) (by assumption) ?_
  rotate_left
  · intro wq hSq
    have hq := HC6.out wq hSq
    go_split_ands
    go_simp
    try with_reducible rfl
  try simp only [Act.put, List.getElem_toArray, List.getElem_cons_zero, List.getElem_cons_succ, List.setIfInBounds_toArray, List.set_cons_zero, List.set_cons_succ]
  refine wpAnyH_take (i := 4) (v := ?_) rfl (by kernel_rfl) (by kernel_rfl) (by kernel_rfl) (fun _ _ _ h => h) (Or.inl ⟨by rfl, ?_⟩) (by assumption) ?_
  rotate_left
  · intro wq hSq
    have hq := HC6.out wq hSq
    go_split_ands
    go_simp
    try with_reducible rfl
  try simp only [Act.put, List.getElem_toArray, List.getElem_cons_zero, List.getElem_cons_succ, List.setIfInBounds_toArray, List.set_cons_zero, List.set_cons_succ]
  refine wpAnyH_take (i := 5) (v := ?_) rfl (by kernel_rfl) (by kernel_rfl) (by kernel_rfl) (fun _ _ _ h => h) (Or.inl ⟨by rfl, ?_⟩) (by assumption) ?_
  rotate_left
  · intro wq hSq
    have hq := HC6.out wq hSq
    go_split_ands
    go_simp
    try with_reducible rfl
  try simp only [Act.put, List.getElem_toArray, List.getElem_cons_zero, List.getElem_cons_succ, List.setIfInBounds_toArray, List.set_cons_zero, List.set_cons_succ]
  refine wpAnyH_take (i := 6) (v := ?_) rfl (by kernel_rfl) (by kernel_rfl) (by kernel_rfl) (fun _ _ _ h => h) (Or.inl ⟨by rfl, ?_⟩) (by assumption) ?_
  rotate_left
  · intro wq hSq
    have hq := HC6.out wq hSq
    go_split_ands
    go_simp
    try with_reducible rfl
  try simp only [Act.put, List.getElem_toArray, List.getElem_cons_zero, List.getElem_cons_succ, List.setIfInBounds_toArray, List.set_cons_zero, List.set_cons_succ]
  clear hs1
  refine wpAnyH_ready (rs := [7]) (by kernel_rfl) (by simp) ?_
  refine AllReadyH.cons rfl (fun K hK => ?_) AllReadyH.nil
  try simp only [List.getElem_toArray, List.getElem_cons_zero, List.getElem_cons_succ]
  go_simp
  refine (own_any _ (is.take k) _ (HI1.out.frm (HFW.out.trans' (Frm.refl _ _).drew)) HLT1.out HBT.out).mono ?_
  rintro e w5 ⟨hF5, v5, ys5, rfl, hy5, hI5⟩
  obtain ⟨A5, c5, rfl, _, _, _⟩ := row_open hI5.1
  have hw5 : Frm (fun _ => False) wa w5 := (Frm.refl _ _).drew.trans' hF5
  go_wp2_with fail
  refine hK.out _ _ (hw5.mono (fun _ _ h => h.elim)) (fun hHeld => ?_)
  clear hK K
  try simp only [Act.put, List.setIfInBounds_toArray, List.set_cons_zero, List.set_cons_succ]
  have HAP := Lib.hid (apply_any b2 l2 _ ys5 _ w5 (HDD6.out.grow hw5) HOK2.out hI5 (fun q hq => HDD6.out.lt q hq) (own_facts hy5 HRT.out HBT.out).1 (own_facts hy5 HRT.out HBT.out).2)
  unfold ApplyP ptr at HAP
  rw [hy5, HYK.out] at HAP
  refine wpAnyH_ready (rs := [8]) (by kernel_rfl) (by simp) ?_
  refine AllReadyH.cons rfl (fun K hK => ?_) AllReadyH.nil
  try simp only [List.getElem_toArray, List.getElem_cons_zero, List.getElem_cons_succ]
  go_simp
  refine HAP.out.mono ?_
  rintro e w6 ⟨rfl, l6, hD6, hl6, hf6, hF6⟩
  have hw6 : Frm (fun j => ∃ q ∈ l2, j = q.1) wa w6 := (hw5.mono (fun _ _ h => h.elim)).trans hF6 (fun i hi h => h)
  go_wp2_with fail
  refine hK.out _ _ (hw6) (fun hHeld => ?_)
  clear hK K
  try simp only [Act.put, List.setIfInBounds_toArray, List.set_cons_zero, List.set_cons_succ]
  refine wpAnyH_take (i := 9) (v := ?_) rfl (by kernel_rfl) (by kernel_rfl) (by kernel_rfl) (fun _ _ _ h => h) (Or.inl ⟨by rfl, ?_⟩) (by assumption) ?_
  rotate_left
  · intro wq hSq
    try dsimp only at hSq
    go_split_ands
    go_simp
    try with_reducible rfl
  try simp only [Act.put, List.getElem_toArray, List.getElem_cons_zero, List.getElem_cons_succ, List.setIfInBounds_toArray, List.set_cons_zero, List.set_cons_succ]
  refine wpAnyH_take (i := 10) (v := ?_) rfl (by kernel_rfl) (by kernel_rfl) (by kernel_rfl) (fun _ _ _ h => h) (Or.inl ⟨by rfl, ?_⟩) (by assumption) ?_
  rotate_left
  · intro wq hSq
    try dsimp only at hSq
    go_split_ands
    go_simp
    try with_reducible rfl
  try simp only [Act.put, List.getElem_toArray, List.getElem_cons_zero, List.getElem_cons_succ, List.setIfInBounds_toArray, List.set_cons_zero, List.set_cons_succ]
  refine wpAnyH_take (i := 11) (v := ?_) rfl (by kernel_rfl) (by kernel_rfl) (by kernel_rfl) (fun _ _ _ h => h) (Or.inl ⟨by rfl, ?_⟩) (by assumption) ?_
  rotate_left
  · intro wq hSq
    try dsimp only at hSq
    go_split_ands
    go_simp
    try with_reducible rfl
  try simp only [Act.put, List.getElem_toArray, List.getElem_cons_zero, List.getElem_cons_succ, List.setIfInBounds_toArray, List.set_cons_zero, List.set_cons_succ]
  refine wpAnyH_take (i := 12) (v := ?_) rfl (by kernel_rfl) (by kernel_rfl) (by kernel_rfl) (fun _ _ _ h => h) (Or.inl ⟨by rfl, ?_⟩) (by assumption) ?_
  rotate_left
  · intro wq hSq
    try dsimp only at hSq
    go_split_ands
    go_simp
    try with_reducible rfl
  try simp only [Act.put, List.getElem_toArray, List.getElem_cons_zero, List.getElem_cons_succ, List.setIfInBounds_toArray, List.set_cons_zero, List.set_cons_succ]
  refine wpAnyH_take (i := 13) (v := ?_) rfl (by kernel_rfl) (by kernel_rfl) (by kernel_rfl) (fun _ _ _ h => h) (Or.inl ⟨by rfl, ?_⟩) (by assumption) ?_
  rotate_left
  · intro wq hSq
    try dsimp only at hSq
    go_split_ands
    go_simp
    try with_reducible rfl
  try simp only [Act.put, List.getElem_toArray, List.getElem_cons_zero, List.getElem_cons_succ, List.setIfInBounds_toArray, List.set_cons_zero, List.set_cons_succ]
  refine wpAnyH_done (by kernel_rfl) ?_ _
  have HRA2 : Hid (appD (im l2) y1 = ra) := by unfold Hid; rw [HEQ.out, ← HRA.out]
  simp only [HRA2.out] at hl6 ⊢
  have HDU9 := Lib.hid ((HDU6.out.grow hw5).w2 hF6 hD6)
  have hlo : ∀ j, (∃ q ∈ l2, j = q.1) → W.heap.size ≤ j := fun j h => HDU6.out.lo2 HBLE.out h
  have HFW9 := Lib.hid (HFW.out.trans hw6 (fun i hi h => absurd hi (Nat.not_lt.2 (hlo i h))))
  have hp9 := hw6.heap HP6.out (fun ⟨q, hq, e⟩ => block_ne (HDU6.out.d2.el q hq) HP6.out (by decide) e.symm)
  have HP9 := Lib.hid hp9
  have HL9 := Lib.hid hl6
  have HOKA : Hid (DOk (im la)) := by unfold Hid; rw [HL6.out]; exact HRR.out
  have HOK9 : Hid (DOk (im l6)) := by unfold Hid; rw [hl6, HRA.out]; exact appD_ok HOK1.out _
  clear HC6 hal6 hw6 hw5 hF6 hD6 hl6 hf6 hlo hHeld HAP hI5 hy5 hF5 HRT HBT HFW hp9
  generalize w6 = wb at *
  generalize l6 = lb at *
  clear HDU6 HDD6 HP6
  by_cases hc : ra.2.2 = 0
  case neg =>
    have hr : r = ra := by rw [HJ.out, if_pos hc]
    have b1 : (ra.2.2 == 0) = false := by simpa using hc
    subst hr
    have HES : Hid (im lb = im la) := by unfold Hid; rw [HL9.out, HL6.out]
    have HDUF := HDU9
    have HPF := HP9
    have HFWF := HFW9
    have HOKF := HOK9
    clear HJ HDU9 HP9 HFW9
    have HSV1 := Lib.hid (fun w hD => odSave_any b la w hD HOKA.out)
    have HSV2 := Lib.hid (fun w hD => odSave_any b2 lb w hD HOKF.out)
    unfold SaveP ptr at HSV1 HSV2
    rw [HES.out] at HSV2
    have hcc : ∀ Wx, Frm (fun _ => False) wb Wx → Wx.cell? ⟨a, 0, none⟩ = some (.pointer (some ⟨b, 0, none⟩)) ∧ Wx.cell? ⟨a2, 0, none⟩ = some (.pointer (some ⟨b2, 0, none⟩)) := fun Wx h => ⟨h.cell (cell_at HDUF.out.hp) (fun h => h), h.cell (cell_at HPF.out) (fun h => h)⟩
    have HCF := Lib.hid hcc
    have hal := lt_of_block HDUF.out.hp
    have hal2 := lt_of_block HPF.out
    clear hcc
    go_upto_region 13 with fail
    refine wp_region_held_drew (S := fun W => Frm (fun _ => False) wb W) (by kernel_rfl) ((Frm.refl _ _).drew) (fun hHeld => ?_)
    refine wpAnyH_take (i := 0) (v := ?_) rfl (by kernel_rfl) (by kernel_rfl) (by kernel_rfl) (fun _ _ _ h => h) (Or.inl ⟨by rfl, ?_⟩) (by assumption) ?_
    rotate_left
    · intro wq hSq
      have hq := HCF.out wq hSq
      go_split_ands
      go_simp
      try with_reducible rfl
    try simp only [Act.put, List.getElem_toArray, List.getElem_cons_zero, List.getElem_cons_succ, List.setIfInBounds_toArray, List.set_cons_zero, List.set_cons_succ]
    refine wpAnyH_take (i := 1) (v := ?_) rfl (by kernel_rfl) (by kernel_rfl) (by kernel_rfl) (fun _ _ _ h => h) (Or.inl ⟨by rfl, ?_⟩) (by assumption) ?_
    rotate_left
    · intro wq hSq
      have hq := HCF.out wq hSq
      go_split_ands
      go_simp
      try with_reducible rfl
    try simp only [Act.put, List.getElem_toArray, List.getElem_cons_zero, List.getElem_cons_succ, List.setIfInBounds_toArray, List.set_cons_zero, List.set_cons_succ]
    refine wpAnyH_take (i := 2) (v := ?_) rfl (by kernel_rfl) (by kernel_rfl) (by kernel_rfl) (fun _ _ _ h => h) (Or.inl ⟨by rfl, ?_⟩) (by assumption) ?_
    rotate_left
    · intro wq hSq
      have hq := HCF.out wq hSq
      go_split_ands
      go_simp
      try with_reducible rfl
    try simp only [Act.put, List.getElem_toArray, List.getElem_cons_zero, List.getElem_cons_succ, List.setIfInBounds_toArray, List.set_cons_zero, List.set_cons_succ]
    refine wpAnyH_take (i := 3) (v := ?_) rfl (by kernel_rfl) (by kernel_rfl) (by kernel_rfl) (fun _ _ _ h => h) (Or.inl ⟨by rfl, ?_⟩) (by assumption) ?_
    rotate_left
    · intro wq hSq
      have hq := HCF.out wq hSq
      go_split_ands
      go_simp
      try with_reducible rfl
    try simp only [Act.put, List.getElem_toArray, List.getElem_cons_zero, List.getElem_cons_succ, List.setIfInBounds_toArray, List.set_cons_zero, List.set_cons_succ]
    refine wpAnyH_take (i := 4) (v := ?_) rfl (by kernel_rfl) (by kernel_rfl) (by kernel_rfl) (fun _ _ _ h => h) (Or.inl ⟨by rfl, ?_⟩) (by assumption) ?_
    rotate_left
    · intro wq hSq
      have hq := HCF.out wq hSq
      go_split_ands
      go_simp
      try with_reducible rfl
    try simp only [Act.put, List.getElem_toArray, List.getElem_cons_zero, List.getElem_cons_succ, List.setIfInBounds_toArray, List.set_cons_zero, List.set_cons_succ]
    refine wpAnyH_take (i := 5) (v := ?_) rfl (by kernel_rfl) (by kernel_rfl) (by kernel_rfl) (fun _ _ _ h => h) (Or.inl ⟨by rfl, ?_⟩) (by assumption) ?_
    rotate_left
    · intro wq hSq
      have hq := HCF.out wq hSq
      go_split_ands
      go_simp
      try with_reducible rfl
    try simp only [Act.put, List.getElem_toArray, List.getElem_cons_zero, List.getElem_cons_succ, List.setIfInBounds_toArray, List.set_cons_zero, List.set_cons_succ]
    refine wpAnyH_take (i := 6) (v := ?_) rfl (by kernel_rfl) (by kernel_rfl) (by kernel_rfl) (fun _ _ _ h => h) (Or.inl ⟨by rfl, ?_⟩) (by assumption) ?_
    rotate_left
    · intro wq hSq
      have hq := HCF.out wq hSq
      go_split_ands
      go_simp
      try with_reducible rfl
    try simp only [Act.put, List.getElem_toArray, List.getElem_cons_zero, List.getElem_cons_succ, List.setIfInBounds_toArray, List.set_cons_zero, List.set_cons_succ]
    refine wpAnyH_take (i := 7) (v := ?_) rfl (by kernel_rfl) (by kernel_rfl) (by kernel_rfl) (fun _ _ _ h => h) (Or.inl ⟨by rfl, ?_⟩) (by assumption) ?_
    rotate_left
    · intro wq hSq
      have hq := HCF.out wq hSq
      go_split_ands
      go_simp
      try with_reducible rfl
    try simp only [Act.put, List.getElem_toArray, List.getElem_cons_zero, List.getElem_cons_succ, List.setIfInBounds_toArray, List.set_cons_zero, List.set_cons_succ]
    refine wpAnyH_take (i := 8) (v := ?_) rfl (by kernel_rfl) (by kernel_rfl) (by kernel_rfl) (fun _ _ _ h => h) (Or.inl ⟨by rfl, ?_⟩) (by assumption) ?_
    rotate_left
    · intro wq hSq
      have hq := HCF.out wq hSq
      go_split_ands
      go_simp
      try with_reducible rfl
    try simp only [Act.put, List.getElem_toArray, List.getElem_cons_zero, List.getElem_cons_succ, List.setIfInBounds_toArray, List.set_cons_zero, List.set_cons_succ]
    refine wpAnyH_take (i := 9) (v := ?_) rfl (by kernel_rfl) (by kernel_rfl) (by kernel_rfl) (fun _ _ _ h => h) (Or.inl ⟨by rfl, ?_⟩) (by assumption) ?_
    rotate_left
    · intro wq hSq
      have hq := HCF.out wq hSq
      go_split_ands
      go_simp
      try with_reducible rfl
    try simp only [Act.put, List.getElem_toArray, List.getElem_cons_zero, List.getElem_cons_succ, List.setIfInBounds_toArray, List.set_cons_zero, List.set_cons_succ]
    refine wpAnyH_take (i := 10) (v := ?_) rfl (by kernel_rfl) (by kernel_rfl) (by kernel_rfl) (fun _ _ _ h => h) (Or.inl ⟨by rfl, ?_⟩) (by assumption) ?_
    rotate_left
    · intro wq hSq
      have hq := HCF.out wq hSq
      go_split_ands
      go_simp
      try with_reducible rfl
    try simp only [Act.put, List.getElem_toArray, List.getElem_cons_zero, List.getElem_cons_succ, List.setIfInBounds_toArray, List.set_cons_zero, List.set_cons_succ]
    refine wpAnyH_take (i := 11) (v := ?_) rfl (by kernel_rfl) (by kernel_rfl) (by kernel_rfl) (fun _ _ _ h => h) (Or.inl ⟨by rfl, ?_⟩) (by assumption) ?_
    rotate_left
    · intro wq hSq
      have hq := HCF.out wq hSq
      go_split_ands
      go_simp
      try with_reducible rfl
    try simp only [Act.put, List.getElem_toArray, List.getElem_cons_zero, List.getElem_cons_succ, List.setIfInBounds_toArray, List.set_cons_zero, List.set_cons_succ]
    refine wpAnyH_take (i := 12) (v := ?_) rfl (by kernel_rfl) (by kernel_rfl) (by kernel_rfl) (fun _ _ _ h => h) (Or.inl ⟨by rfl, ?_⟩) (by assumption) ?_
    rotate_left
    · intro wq hSq
      have hq := HCF.out wq hSq
      go_split_ands
      go_simp
      try with_reducible rfl
    try simp only [Act.put, List.getElem_toArray, List.getElem_cons_zero, List.getElem_cons_succ, List.setIfInBounds_toArray, List.set_cons_zero, List.set_cons_succ]
    refine wpAnyH_take (i := 15) (v := ?_) rfl (by kernel_rfl) (by kernel_rfl) (by kernel_rfl) (fun _ _ _ h => h) (Or.inl ⟨by rfl, ?_⟩) (by assumption) ?_
    rotate_left
    · intro wq hSq
      have hq := HCF.out wq hSq
      go_split_ands
      go_simp
      try with_reducible rfl
    try simp only [Act.put, List.getElem_toArray, List.getElem_cons_zero, List.getElem_cons_succ, List.setIfInBounds_toArray, List.set_cons_zero, List.set_cons_succ]
    refine wpAnyH_take (i := 16) (v := ?_) rfl (by kernel_rfl) (by kernel_rfl) (by kernel_rfl) (fun _ _ _ h => h) (Or.inl ⟨by rfl, ?_⟩) (by assumption) ?_
    rotate_left
    · intro wq hSq
      have hq := HCF.out wq hSq
      go_split_ands
      go_simp
      try with_reducible rfl
    try simp only [Act.put, List.getElem_toArray, List.getElem_cons_zero, List.getElem_cons_succ, List.setIfInBounds_toArray, List.set_cons_zero, List.set_cons_succ]
    refine wpAnyH_take (i := 17) (v := ?_) rfl (by kernel_rfl) (by kernel_rfl) (by kernel_rfl) (fun _ _ _ h => h) (Or.inl ⟨by rfl, ?_⟩) (by assumption) ?_
    rotate_left
    · intro wq hSq
      have hq := HCF.out wq hSq
      go_split_ands
      go_simp
      try with_reducible rfl
    try simp only [Act.put, List.getElem_toArray, List.getElem_cons_zero, List.getElem_cons_succ, List.setIfInBounds_toArray, List.set_cons_zero, List.set_cons_succ]
    refine wpAnyH_take (i := 18) (v := ?_) rfl (by kernel_rfl) (by kernel_rfl) (by kernel_rfl) (fun _ _ _ h => h) (Or.inl ⟨by rfl, ?_⟩) (by assumption) ?_
    rotate_left
    · intro wq hSq
      have hq := HCF.out wq hSq
      go_split_ands
      go_simp
      try with_reducible rfl
    try simp only [Act.put, List.getElem_toArray, List.getElem_cons_zero, List.getElem_cons_succ, List.setIfInBounds_toArray, List.set_cons_zero, List.set_cons_succ]
    refine wpAnyH_ready (rs := [13]) (by kernel_rfl) (by simp) ?_
    refine AllReadyH.cons rfl (fun K hK => ?_) AllReadyH.nil
    try simp only [List.getElem_toArray, List.getElem_cons_zero, List.getElem_cons_succ]
    go_simp
    refine (HSV1.out _ (HDUF.out.d1.grow hHeld)).mono ?_
    rintro e w7 ⟨v7, rfl, hr7, hF7⟩
    have hB7 := BytesAt.of_row hr7
    go_wp2_with fail
    refine hK.out _ _ (hHeld.trans' hF7) (fun hHeld => ?_)
    clear hK K
    try simp only [Act.put, List.setIfInBounds_toArray, List.set_cons_zero, List.set_cons_succ]
    refine wpAnyH_ready (rs := [14, 19]) (by kernel_rfl) (by simp) ?_
    refine AllReadyH.cons rfl (fun K hK => ?_) (AllReadyH.cons rfl (fun K hK => ?_) AllReadyH.nil)
    · have hcv := conv_b2s hB7
      try simp only [List.getElem_toArray, List.getElem_cons_zero, List.getElem_cons_succ]
      go_simp
      refine hK.out _ _ hHeld (fun hHeld => ?_)
      clear hK K
      try simp only [Act.put, List.setIfInBounds_toArray, List.set_cons_zero, List.set_cons_succ]
      clear hcv
      refine wpAnyH_ready (rs := [19]) (by kernel_rfl) (by simp) ?_
      refine AllReadyH.cons rfl (fun K hK => ?_) AllReadyH.nil
      try simp only [List.getElem_toArray, List.getElem_cons_zero, List.getElem_cons_succ]
      go_simp
      refine (HSV2.out _ (HDUF.out.d2.grow hHeld)).mono ?_
      rintro e w8 ⟨v8, rfl, hr8, hF8⟩
      have hB8 := BytesAt.of_row hr8
      go_wp2_with fail
      refine hK.out _ _ (hHeld.trans' hF8) (fun hHeld => ?_)
      clear hK K
      try simp only [Act.put, List.setIfInBounds_toArray, List.set_cons_zero, List.set_cons_succ]
      have hcv := conv_b2s hB8
      refine wpAnyH_ready (rs := [20]) (by kernel_rfl) (by simp) ?_
      refine AllReadyH.cons rfl (fun K hK => ?_) AllReadyH.nil
      try simp only [List.getElem_toArray, List.getElem_cons_zero, List.getElem_cons_succ]
      go_simp
      refine hK.out _ _ hHeld (fun hHeld => ?_)
      clear hK K
      try simp only [Act.put, List.setIfInBounds_toArray, List.set_cons_zero, List.set_cons_succ]
      clear hcv
      refine wpAnyH_take (i := 21) (v := ?_) rfl (by kernel_rfl) (by kernel_rfl) (by kernel_rfl) (fun _ _ _ h => h) (Or.inl ⟨by rfl, ?_⟩) (by assumption) ?_
      rotate_left
      · intro wq hSq
        try dsimp only at hSq
        go_split_ands
        go_simp
        try with_reducible rfl
      try simp only [Act.put, List.getElem_toArray, List.getElem_cons_zero, List.getElem_cons_succ, List.setIfInBounds_toArray, List.set_cons_zero, List.set_cons_succ]
      refine wpAnyH_take (i := 22) (v := ?_) rfl (by kernel_rfl) (by kernel_rfl) (by kernel_rfl) (fun _ _ _ h => h) (Or.inl ⟨by rfl, ?_⟩) (by assumption) ?_
      rotate_left
      · intro wq hSq
        try dsimp only at hSq
        go_split_ands
        go_simp
        try with_reducible rfl
      try simp only [Act.put, List.getElem_toArray, List.getElem_cons_zero, List.getElem_cons_succ, List.setIfInBounds_toArray, List.set_cons_zero, List.set_cons_succ]
      refine wpAnyH_take (i := 23) (v := ?_) rfl (by kernel_rfl) (by kernel_rfl) (by kernel_rfl) (fun _ _ _ h => h) (Or.inl ⟨by rfl, ?_⟩) (by assumption) ?_
      rotate_left
      · intro wq hSq
        try dsimp only at hSq
        go_split_ands
        go_simp
        try with_reducible rfl
      try simp only [Act.put, List.getElem_toArray, List.getElem_cons_zero, List.getElem_cons_succ, List.setIfInBounds_toArray, List.set_cons_zero, List.set_cons_succ]
      refine wpAnyH_ready (rs := [24]) (by kernel_rfl) (by simp) ?_
      refine AllReadyH.cons rfl (fun K hK => ?_) AllReadyH.nil
      try simp only [List.getElem_toArray, List.getElem_cons_zero, List.getElem_cons_succ]
      go_simp
      refine (HLV.out _).mono ?_
      rintro e w9 ⟨rfl, hF9⟩
      go_wp2_with fail
      refine hK.out _ _ (hHeld.trans' hF9) (fun hHeld => ?_)
      clear hK K
      try simp only [Act.put, List.setIfInBounds_toArray, List.set_cons_zero, List.set_cons_succ]
      refine wpAnyH_take (i := 25) (v := ?_) rfl (by kernel_rfl) (by kernel_rfl) (by kernel_rfl) (fun _ _ _ h => h) (Or.inl ⟨by rfl, ?_⟩) (by assumption) ?_
      rotate_left
      · intro wq hSq
        try dsimp only at hSq
        go_split_ands
        go_simp
        try with_reducible rfl
      try simp only [Act.put, List.getElem_toArray, List.getElem_cons_zero, List.getElem_cons_succ, List.setIfInBounds_toArray, List.set_cons_zero, List.set_cons_succ]
      refine wpAnyH_take (i := 26) (v := ?_) rfl (by kernel_rfl) (by kernel_rfl) (by kernel_rfl) (fun _ _ _ h => h) (Or.inl ⟨by rfl, ?_⟩) (by assumption) ?_
      rotate_left
      · intro wq hSq
        try dsimp only at hSq
        go_split_ands
        go_simp
        try with_reducible rfl
      try simp only [Act.put, List.getElem_toArray, List.getElem_cons_zero, List.getElem_cons_succ, List.setIfInBounds_toArray, List.set_cons_zero, List.set_cons_succ]
      refine wpAnyH_done (by kernel_rfl) ?_ _
      have HH := Lib.hid hHeld
      clear hHeld hF9
      go_wp2_with fail
      go_ret
      exact ⟨rfl, HFWF.out.trans' HH.out⟩
    · try simp only [List.getElem_toArray, List.getElem_cons_zero, List.getElem_cons_succ]
      go_simp
      refine (HSV2.out _ (HDUF.out.d2.grow hHeld)).mono ?_
      rintro e w8 ⟨v8, rfl, hr8, hF8⟩
      have hB8 := BytesAt.of_row hr8
      have hB78 := hB7.grow hF8
      go_wp2_with fail
      refine hK.out _ _ (hHeld.trans' hF8) (fun hHeld => ?_)
      clear hK K
      try simp only [Act.put, List.setIfInBounds_toArray, List.set_cons_zero, List.set_cons_succ]
      refine wpAnyH_ready (rs := [14, 20]) (by kernel_rfl) (by simp) ?_
      refine AllReadyH.cons rfl (fun K hK => ?_) (AllReadyH.cons rfl (fun K hK => ?_) AllReadyH.nil)
      · have hcv := conv_b2s hB78
        try simp only [List.getElem_toArray, List.getElem_cons_zero, List.getElem_cons_succ]
        go_simp
        refine hK.out _ _ hHeld (fun hHeld => ?_)
        clear hK K
        try simp only [Act.put, List.setIfInBounds_toArray, List.set_cons_zero, List.set_cons_succ]
        clear hcv
        have hcv := conv_b2s hB8
        refine wpAnyH_ready (rs := [20]) (by kernel_rfl) (by simp) ?_
        refine AllReadyH.cons rfl (fun K hK => ?_) AllReadyH.nil
        try simp only [List.getElem_toArray, List.getElem_cons_zero, List.getElem_cons_succ]
        go_simp
        refine hK.out _ _ hHeld (fun hHeld => ?_)
        clear hK K
        try simp only [Act.put, List.setIfInBounds_toArray, List.set_cons_zero, List.set_cons_succ]
        clear hcv
        refine wpAnyH_take (i := 21) (v := ?_) rfl (by kernel_rfl) (by kernel_rfl) (by kernel_rfl) (fun _ _ _ h => h) (Or.inl ⟨by rfl, ?_⟩) (by assumption) ?_
        rotate_left
        · intro wq hSq
          try dsimp only at hSq
          go_split_ands
          go_simp
          try with_reducible rfl
        try simp only [Act.put, List.getElem_toArray, List.getElem_cons_zero, List.getElem_cons_succ, List.setIfInBounds_toArray, List.set_cons_zero, List.set_cons_succ]
        refine wpAnyH_take (i := 22) (v := ?_) rfl (by kernel_rfl) (by kernel_rfl) (by kernel_rfl) (fun _ _ _ h => h) (Or.inl ⟨by rfl, ?_⟩) (by assumption) ?_
        rotate_left
        · intro wq hSq
          try dsimp only at hSq
          go_split_ands
          go_simp
          try with_reducible rfl
        try simp only [Act.put, List.getElem_toArray, List.getElem_cons_zero, List.getElem_cons_succ, List.setIfInBounds_toArray, List.set_cons_zero, List.set_cons_succ]
        refine wpAnyH_take (i := 23) (v := ?_) rfl (by kernel_rfl) (by kernel_rfl) (by kernel_rfl) (fun _ _ _ h => h) (Or.inl ⟨by rfl, ?_⟩) (by assumption) ?_
        rotate_left
        · intro wq hSq
          try dsimp only at hSq
          go_split_ands
          go_simp
          try with_reducible rfl
        try simp only [Act.put, List.getElem_toArray, List.getElem_cons_zero, List.getElem_cons_succ, List.setIfInBounds_toArray, List.set_cons_zero, List.set_cons_succ]
        refine wpAnyH_ready (rs := [24]) (by kernel_rfl) (by simp) ?_
        refine AllReadyH.cons rfl (fun K hK => ?_) AllReadyH.nil
        try simp only [List.getElem_toArray, List.getElem_cons_zero, List.getElem_cons_succ]
        go_simp
        refine (HLV.out _).mono ?_
        rintro e w9 ⟨rfl, hF9⟩
        go_wp2_with fail
        refine hK.out _ _ (hHeld.trans' hF9) (fun hHeld => ?_)
        clear hK K
        try simp only [Act.put, List.setIfInBounds_toArray, List.set_cons_zero, List.set_cons_succ]
        refine wpAnyH_take (i := 25) (v := ?_) rfl (by kernel_rfl) (by kernel_rfl) (by kernel_rfl) (fun _ _ _ h => h) (Or.inl ⟨by rfl, ?_⟩) (by assumption) ?_
        rotate_left
        · intro wq hSq
          try dsimp only at hSq
          go_split_ands
          go_simp
          try with_reducible rfl
        try simp only [Act.put, List.getElem_toArray, List.getElem_cons_zero, List.getElem_cons_succ, List.setIfInBounds_toArray, List.set_cons_zero, List.set_cons_succ]
        refine wpAnyH_take (i := 26) (v := ?_) rfl (by kernel_rfl) (by kernel_rfl) (by kernel_rfl) (fun _ _ _ h => h) (Or.inl ⟨by rfl, ?_⟩) (by assumption) ?_
        rotate_left
        · intro wq hSq
          try dsimp only at hSq
          go_split_ands
          go_simp
          try with_reducible rfl
        try simp only [Act.put, List.getElem_toArray, List.getElem_cons_zero, List.getElem_cons_succ, List.setIfInBounds_toArray, List.set_cons_zero, List.set_cons_succ]
        refine wpAnyH_done (by kernel_rfl) ?_ _
        have HH := Lib.hid hHeld
        clear hHeld hF9
        go_wp2_with fail
        go_ret
        exact ⟨rfl, HFWF.out.trans' HH.out⟩
      · have hcv := conv_b2s hB8
        try simp only [List.getElem_toArray, List.getElem_cons_zero, List.getElem_cons_succ]
        go_simp
        refine hK.out _ _ hHeld (fun hHeld => ?_)
        clear hK K
        try simp only [Act.put, List.setIfInBounds_toArray, List.set_cons_zero, List.set_cons_succ]
        clear hcv
        have hcv := conv_b2s hB78
        refine wpAnyH_ready (rs := [14]) (by kernel_rfl) (by simp) ?_
        refine AllReadyH.cons rfl (fun K hK => ?_) AllReadyH.nil
        try simp only [List.getElem_toArray, List.getElem_cons_zero, List.getElem_cons_succ]
        go_simp
        refine hK.out _ _ hHeld (fun hHeld => ?_)
        clear hK K
        try simp only [Act.put, List.setIfInBounds_toArray, List.set_cons_zero, List.set_cons_succ]
        clear hcv
        refine wpAnyH_take (i := 21) (v := ?_) rfl (by kernel_rfl) (by kernel_rfl) (by kernel_rfl) (fun _ _ _ h => h) (Or.inl ⟨by rfl, ?_⟩) (by assumption) ?_
        rotate_left
        · intro wq hSq
          try dsimp only at hSq
          go_split_ands
          go_simp
          try with_reducible rfl
        try simp only [Act.put, List.getElem_toArray, List.getElem_cons_zero, List.getElem_cons_succ, List.setIfInBounds_toArray, List.set_cons_zero, List.set_cons_succ]
        refine wpAnyH_take (i := 22) (v := ?_) rfl (by kernel_rfl) (by kernel_rfl) (by kernel_rfl) (fun _ _ _ h => h) (Or.inl ⟨by rfl, ?_⟩) (by assumption) ?_
        rotate_left
        · intro wq hSq
          try dsimp only at hSq
          go_split_ands
          go_simp
          try with_reducible rfl
        try simp only [Act.put, List.getElem_toArray, List.getElem_cons_zero, List.getElem_cons_succ, List.setIfInBounds_toArray, List.set_cons_zero, List.set_cons_succ]
        refine wpAnyH_take (i := 23) (v := ?_) rfl (by kernel_rfl) (by kernel_rfl) (by kernel_rfl) (fun _ _ _ h => h) (Or.inl ⟨by rfl, ?_⟩) (by assumption) ?_
        rotate_left
        · intro wq hSq
          try dsimp only at hSq
          go_split_ands
          go_simp
          try with_reducible rfl
        try simp only [Act.put, List.getElem_toArray, List.getElem_cons_zero, List.getElem_cons_succ, List.setIfInBounds_toArray, List.set_cons_zero, List.set_cons_succ]
        refine wpAnyH_ready (rs := [24]) (by kernel_rfl) (by simp) ?_
        refine AllReadyH.cons rfl (fun K hK => ?_) AllReadyH.nil
        try simp only [List.getElem_toArray, List.getElem_cons_zero, List.getElem_cons_succ]
        go_simp
        refine (HLV.out _).mono ?_
        rintro e w9 ⟨rfl, hF9⟩
        go_wp2_with fail
        refine hK.out _ _ (hHeld.trans' hF9) (fun hHeld => ?_)
        clear hK K
        try simp only [Act.put, List.setIfInBounds_toArray, List.set_cons_zero, List.set_cons_succ]
        refine wpAnyH_take (i := 25) (v := ?_) rfl (by kernel_rfl) (by kernel_rfl) (by kernel_rfl) (fun _ _ _ h => h) (Or.inl ⟨by rfl, ?_⟩) (by assumption) ?_
        rotate_left
        · intro wq hSq
          try dsimp only at hSq
          go_split_ands
          go_simp
          try with_reducible rfl
        try simp only [Act.put, List.getElem_toArray, List.getElem_cons_zero, List.getElem_cons_succ, List.setIfInBounds_toArray, List.set_cons_zero, List.set_cons_succ]
        refine wpAnyH_take (i := 26) (v := ?_) rfl (by kernel_rfl) (by kernel_rfl) (by kernel_rfl) (fun _ _ _ h => h) (Or.inl ⟨by rfl, ?_⟩) (by assumption) ?_
        rotate_left
        · intro wq hSq
          try dsimp only at hSq
          go_split_ands
          go_simp
          try with_reducible rfl
        try simp only [Act.put, List.getElem_toArray, List.getElem_cons_zero, List.getElem_cons_succ, List.setIfInBounds_toArray, List.set_cons_zero, List.set_cons_succ]
        refine wpAnyH_done (by kernel_rfl) ?_ _
        have HH := Lib.hid hHeld
        clear hHeld hF9
        go_wp2_with fail
        go_ret
        exact ⟨rfl, HFWF.out.trans' HH.out⟩
  case pos =>
    have hr : r = (rb.1, ra.2.1 + rb.2.1, rb.2.2) := by rw [HJ.out, if_neg (by simp [hc])]
    subst hr
    have b1 : (ra.2.2 == 0) = true := by simpa using hc
    have hs2 := HS2.out
    have HDD9 := Lib.hid HDU9.out.d2
    have ca : wb.cell? ⟨a2, 0, none⟩ = some (.pointer (some ⟨b2, 0, none⟩)) := cell_at HP9.out
    have hcc : ∀ Wx, Frm (fun j => ∃ q ∈ lb, j = q.1) wb Wx → Wx.cell? ⟨a2, 0, none⟩ = some (.pointer (some ⟨b2, 0, none⟩)) := fun Wx h => h.cell ca (fun ⟨q, hq, e⟩ => block_ne (HDU9.out.d2.el q hq) HP9.out (by decide) e.symm)
    have HC9 := Lib.hid hcc
    have hal9 : a2 < wb.heap.size := lt_of_block HP9.out
    have HRT : Hid (∀ x ∈ is.drop k, Rng (bare x)) := fun x hx => HR.out x (List.mem_of_mem_drop hx)
    have HBT : Hid (∀ x ∈ is.drop k, x.2.2.2.length ≤ 140737488351232) := fun x hx => HBL.out x (List.mem_of_mem_drop hx)
    have HFW := HFW9
    have HRB2 : Hid (appD (im lb) y2 = rb) := by unfold Hid; rw [HL9.out, ← HRB.out]
    clear hcc ca HJ HYK
    have HYK := HY2
    go_upto_region 11 with fail
    refine wp_region_held_drew (S := (fun Wx => Frm (fun j => ∃ q ∈ lb, j = q.1) wb Wx)) (by kernel_rfl) ((Frm.refl _ _).drew) (fun hHeld => ?_)
    refine wpAnyH_take (i := 0) (v := ?_) rfl (by kernel_rfl) (by kernel_rfl) (by kernel_rfl) (fun _ _ _ h => h) (Or.inl ⟨by rfl, ?_⟩) (by assumption) ?_
    rotate_left
    · intro wq hSq
      have hq := HC9.out wq hSq
      go_split_ands
      go_simp
      try with_reducible rfl
    try simp only [Act.put, List.getElem_toArray, List.getElem_cons_zero, List.getElem_cons_succ, List.setIfInBounds_toArray, List.set_cons_zero, List.set_cons_succ]
    refine wpAnyH_take (i := 1) (v := ?_) rfl (by kernel_rfl) (by kernel_rfl) (by kernel_rfl) (fun _ _ _ h => h) (Or.inl ⟨by rfl, ?_⟩) (by assumption) ?_
    rotate_left
    · intro wq hSq
      have hq := HC9.out wq hSq
      go_split_ands
      go_simp
      try with_reducible rfl
    try simp only [Act.put, List.getElem_toArray, List.getElem_cons_zero, List.getElem_cons_succ, List.setIfInBounds_toArray, List.set_cons_zero, List.set_cons_succ]
    refine wpAnyH_take (i := 2) (v := ?_) rfl (by kernel_rfl) (by kernel_rfl) (by kernel_rfl) (fun _ _ _ h => h) (Or.inl ⟨by rfl, ?_⟩) (by assumption) ?_
    rotate_left
    · intro wq hSq
      have hq := HC9.out wq hSq
      go_split_ands
      go_simp
      try with_reducible rfl
    try simp only [Act.put, List.getElem_toArray, List.getElem_cons_zero, List.getElem_cons_succ, List.setIfInBounds_toArray, List.set_cons_zero, List.set_cons_succ]
    refine wpAnyH_take (i := 3) (v := ?_) rfl (by kernel_rfl) (by kernel_rfl) (by kernel_rfl) (fun _ _ _ h => h) (Or.inl ⟨by rfl, ?_⟩) (by assumption) ?_
    rotate_left
    · intro wq hSq
      have hq := HC9.out wq hSq
      go_split_ands
      go_simp
      try with_reducible rfl
    try simp only [Act.put, List.getElem_toArray, List.getElem_cons_zero, List.getElem_cons_succ, List.setIfInBounds_toArray, List.set_cons_zero, List.set_cons_succ]
    refine wpAnyH_take (i := 4) (v := ?_) rfl (by kernel_rfl) (by kernel_rfl) (by kernel_rfl) (fun _ _ _ h => h) (Or.inl ⟨by rfl, ?_⟩) (by assumption) ?_
    rotate_left
    · intro wq hSq
      have hq := HC9.out wq hSq
      go_split_ands
      go_simp
      try with_reducible rfl
    try simp only [Act.put, List.getElem_toArray, List.getElem_cons_zero, List.getElem_cons_succ, List.setIfInBounds_toArray, List.set_cons_zero, List.set_cons_succ]
    refine wpAnyH_take (i := 5) (v := ?_) rfl (by kernel_rfl) (by kernel_rfl) (by kernel_rfl) (fun _ _ _ h => h) (Or.inl ⟨by rfl, ?_⟩) (by assumption) ?_
    rotate_left
    · intro wq hSq
      have hq := HC9.out wq hSq
      go_split_ands
      go_simp
      try with_reducible rfl
    try simp only [Act.put, List.getElem_toArray, List.getElem_cons_zero, List.getElem_cons_succ, List.setIfInBounds_toArray, List.set_cons_zero, List.set_cons_succ]
    refine wpAnyH_take (i := 6) (v := ?_) rfl (by kernel_rfl) (by kernel_rfl) (by kernel_rfl) (fun _ _ _ h => h) (Or.inl ⟨by rfl, ?_⟩) (by assumption) ?_
    rotate_left
    · intro wq hSq
      have hq := HC9.out wq hSq
      go_split_ands
      go_simp
      try with_reducible rfl
    try simp only [Act.put, List.getElem_toArray, List.getElem_cons_zero, List.getElem_cons_succ, List.setIfInBounds_toArray, List.set_cons_zero, List.set_cons_succ]
    clear hs2
    refine wpAnyH_ready (rs := [7]) (by kernel_rfl) (by simp) ?_
    refine AllReadyH.cons rfl (fun K hK => ?_) AllReadyH.nil
    try simp only [List.getElem_toArray, List.getElem_cons_zero, List.getElem_cons_succ]
    go_simp
    refine (own_any _ (is.drop k) _ (HI2.out.frm (HFW.out.trans' (Frm.refl _ _).drew)) HLT2.out HBT.out).mono ?_
    rintro e w5 ⟨hF5, v5, ys5, rfl, hy5, hI5⟩
    obtain ⟨A5, c5, rfl, _, _, _⟩ := row_open hI5.1
    have hw5 : Frm (fun _ => False) wb w5 := (Frm.refl _ _).drew.trans' hF5
    go_wp2_with fail
    refine hK.out _ _ (hw5.mono (fun _ _ h => h.elim)) (fun hHeld => ?_)
    clear hK K
    try simp only [Act.put, List.setIfInBounds_toArray, List.set_cons_zero, List.set_cons_succ]
    have HAP := Lib.hid (apply_any b2 lb _ ys5 _ w5 (HDD9.out.grow hw5) HOK9.out hI5 (fun q hq => HDD9.out.lt q hq) (own_facts hy5 HRT.out HBT.out).1 (own_facts hy5 HRT.out HBT.out).2)
    unfold ApplyP ptr at HAP
    rw [hy5, HYK.out] at HAP
    refine wpAnyH_ready (rs := [8]) (by kernel_rfl) (by simp) ?_
    refine AllReadyH.cons rfl (fun K hK => ?_) AllReadyH.nil
    try simp only [List.getElem_toArray, List.getElem_cons_zero, List.getElem_cons_succ]
    go_simp
    refine HAP.out.mono ?_
    rintro e w6 ⟨rfl, l6, hD6, hl6, hf6, hF6⟩
    have hw6 : Frm (fun j => ∃ q ∈ lb, j = q.1) wb w6 := (hw5.mono (fun _ _ h => h.elim)).trans hF6 (fun i hi h => h)
    go_wp2_with fail
    refine hK.out _ _ (hw6) (fun hHeld => ?_)
    clear hK K
    try simp only [Act.put, List.setIfInBounds_toArray, List.set_cons_zero, List.set_cons_succ]
    refine wpAnyH_take (i := 9) (v := ?_) rfl (by kernel_rfl) (by kernel_rfl) (by kernel_rfl) (fun _ _ _ h => h) (Or.inl ⟨by rfl, ?_⟩) (by assumption) ?_
    rotate_left
    · intro wq hSq
      try dsimp only at hSq
      go_split_ands
      go_simp
      try with_reducible rfl
    try simp only [Act.put, List.getElem_toArray, List.getElem_cons_zero, List.getElem_cons_succ, List.setIfInBounds_toArray, List.set_cons_zero, List.set_cons_succ]
    refine wpAnyH_take (i := 10) (v := ?_) rfl (by kernel_rfl) (by kernel_rfl) (by kernel_rfl) (fun _ _ _ h => h) (Or.inl ⟨by rfl, ?_⟩) (by assumption) ?_
    rotate_left
    · intro wq hSq
      try dsimp only at hSq
      go_split_ands
      go_simp
      try with_reducible rfl
    try simp only [Act.put, List.getElem_toArray, List.getElem_cons_zero, List.getElem_cons_succ, List.setIfInBounds_toArray, List.set_cons_zero, List.set_cons_succ]
    refine wpAnyH_take (i := 11) (v := ?_) rfl (by kernel_rfl) (by kernel_rfl) (by kernel_rfl) (fun _ _ _ h => h) (Or.inl ⟨by rfl, ?_⟩) (by assumption) ?_
    rotate_left
    · intro wq hSq
      try dsimp only at hSq
      go_split_ands
      go_simp
      try with_reducible rfl
    try simp only [Act.put, List.getElem_toArray, List.getElem_cons_zero, List.getElem_cons_succ, List.setIfInBounds_toArray, List.set_cons_zero, List.set_cons_succ]
    refine wpAnyH_take (i := 12) (v := ?_) rfl (by kernel_rfl) (by kernel_rfl) (by kernel_rfl) (fun _ _ _ h => h) (Or.inl ⟨by rfl, ?_⟩) (by assumption) ?_
    rotate_left
    · intro wq hSq
      try dsimp only at hSq
      go_split_ands
      go_simp
      try with_reducible rfl
    try simp only [Act.put, List.getElem_toArray, List.getElem_cons_zero, List.getElem_cons_succ, List.setIfInBounds_toArray, List.set_cons_zero, List.set_cons_succ]
    refine wpAnyH_take (i := 13) (v := ?_) rfl (by kernel_rfl) (by kernel_rfl) (by kernel_rfl) (fun _ _ _ h => h) (Or.inl ⟨by rfl, ?_⟩) (by assumption) ?_
    rotate_left
    · intro wq hSq
      try dsimp only at hSq
      go_split_ands
      go_simp
      try with_reducible rfl
    try simp only [Act.put, List.getElem_toArray, List.getElem_cons_zero, List.getElem_cons_succ, List.setIfInBounds_toArray, List.set_cons_zero, List.set_cons_succ]
    refine wpAnyH_done (by kernel_rfl) ?_ _
    simp only [HRB2.out] at hl6 ⊢
    have HDUF := Lib.hid ((HDU9.out.grow hw5).w2 hF6 hD6)
    have hlo : ∀ j, (∃ q ∈ lb, j = q.1) → W.heap.size ≤ j := fun j h => HDU9.out.lo2 HBLE.out h
    have HFWF := Lib.hid (HFW.out.trans hw6 (fun i hi h => absurd hi (Nat.not_lt.2 (hlo i h))))
    have hp9 := hw6.heap HP9.out (fun ⟨q, hq, e⟩ => block_ne (HDU9.out.d2.el q hq) HP9.out (by decide) e.symm)
    have HPF := Lib.hid hp9
    have HES : Hid (im l6 = im la) := by unfold Hid; rw [hl6, HL6.out]
    have HOKF : Hid (DOk (im l6)) := by unfold Hid; rw [HES.out]; exact HOKA.out
    clear HC9 hal9 hw6 hw5 hF6 hD6 hl6 hf6 hlo hHeld HAP hI5 hy5 hF5 HRT HBT HFW hp9 HDU9 HDD9 HP9 b1
    generalize w6 = wf at *
    generalize l6 = lf at *
    have HSV1 := Lib.hid (fun w hD => odSave_any b la w hD HOKA.out)
    have HSV2 := Lib.hid (fun w hD => odSave_any b2 lf w hD HOKF.out)
    unfold SaveP ptr at HSV1 HSV2
    rw [HES.out] at HSV2
    have hcc : ∀ Wx, Frm (fun _ => False) wf Wx → Wx.cell? ⟨a, 0, none⟩ = some (.pointer (some ⟨b, 0, none⟩)) ∧ Wx.cell? ⟨a2, 0, none⟩ = some (.pointer (some ⟨b2, 0, none⟩)) := fun Wx h => ⟨h.cell (cell_at HDUF.out.hp) (fun h => h), h.cell (cell_at HPF.out) (fun h => h)⟩
    have HCF := Lib.hid hcc
    have hal := lt_of_block HDUF.out.hp
    have hal2 := lt_of_block HPF.out
    clear hcc
    go_upto_region 13 with fail
    refine wp_region_held_drew (S := fun W => Frm (fun _ => False) wf W) (by kernel_rfl) ((Frm.refl _ _).drew) (fun hHeld => ?_)
    refine wpAnyH_take (i := 0) (v := ?_) rfl (by kernel_rfl) (by kernel_rfl) (by kernel_rfl) (fun _ _ _ h => h) (Or.inl ⟨by rfl, ?_⟩) (by assumption) ?_
    rotate_left
    · intro wq hSq
      have hq := HCF.out wq hSq
      go_split_ands
      go_simp
      try with_reducible rfl
    try simp only [Act.put, List.getElem_toArray, List.getElem_cons_zero, List.getElem_cons_succ, List.setIfInBounds_toArray, List.set_cons_zero, List.set_cons_succ]
    refine wpAnyH_take (i := 1) (v := ?_) rfl (by kernel_rfl) (by kernel_rfl) (by kernel_rfl) (fun _ _ _ h => h) (Or.inl ⟨by rfl, ?_⟩) (by assumption) ?_
    rotate_left
    · intro wq hSq
      have hq := HCF.out wq hSq
      go_split_ands
      go_simp
      try with_reducible rfl
    try simp only [Act.put, List.getElem_toArray, List.getElem_cons_zero, List.getElem_cons_succ, List.setIfInBounds_toArray, List.set_cons_zero, List.set_cons_succ]
    refine wpAnyH_take (i := 2) (v := ?_) rfl (by kernel_rfl) (by kernel_rfl) (by kernel_rfl) (fun _ _ _ h => h) (Or.inl ⟨by rfl, ?_⟩) (by assumption) ?_
    rotate_left
    · intro wq hSq
      have hq := HCF.out wq hSq
      go_split_ands
      go_simp
      try with_reducible rfl
    try simp only [Act.put, List.getElem_toArray, List.getElem_cons_zero, List.getElem_cons_succ, List.setIfInBounds_toArray, List.set_cons_zero, List.set_cons_succ]
    refine wpAnyH_take (i := 3) (v := ?_) rfl (by kernel_rfl) (by kernel_rfl) (by kernel_rfl) (fun _ _ _ h => h) (Or.inl ⟨by rfl, ?_⟩) (by assumption) ?_
    rotate_left
    · intro wq hSq
      have hq := HCF.out wq hSq
      go_split_ands
      go_simp
      try with_reducible rfl
    try simp only [Act.put, List.getElem_toArray, List.getElem_cons_zero, List.getElem_cons_succ, List.setIfInBounds_toArray, List.set_cons_zero, List.set_cons_succ]
    refine wpAnyH_take (i := 4) (v := ?_) rfl (by kernel_rfl) (by kernel_rfl) (by kernel_rfl) (fun _ _ _ h => h) (Or.inl ⟨by rfl, ?_⟩) (by assumption) ?_
    rotate_left
    · intro wq hSq
      have hq := HCF.out wq hSq
      go_split_ands
      go_simp
      try with_reducible rfl
    try simp only [Act.put, List.getElem_toArray, List.getElem_cons_zero, List.getElem_cons_succ, List.setIfInBounds_toArray, List.set_cons_zero, List.set_cons_succ]
    refine wpAnyH_take (i := 5) (v := ?_) rfl (by kernel_rfl) (by kernel_rfl) (by kernel_rfl) (fun _ _ _ h => h) (Or.inl ⟨by rfl, ?_⟩) (by assumption) ?_
    rotate_left
    · intro wq hSq
      have hq := HCF.out wq hSq
      go_split_ands
      go_simp
      try with_reducible rfl
    try simp only [Act.put, List.getElem_toArray, List.getElem_cons_zero, List.getElem_cons_succ, List.setIfInBounds_toArray, List.set_cons_zero, List.set_cons_succ]
    refine wpAnyH_take (i := 6) (v := ?_) rfl (by kernel_rfl) (by kernel_rfl) (by kernel_rfl) (fun _ _ _ h => h) (Or.inl ⟨by rfl, ?_⟩) (by assumption) ?_
    rotate_left
    · intro wq hSq
      have hq := HCF.out wq hSq
      go_split_ands
      go_simp
      try with_reducible rfl
    try simp only [Act.put, List.getElem_toArray, List.getElem_cons_zero, List.getElem_cons_succ, List.setIfInBounds_toArray, List.set_cons_zero, List.set_cons_succ]
    refine wpAnyH_take (i := 7) (v := ?_) rfl (by kernel_rfl) (by kernel_rfl) (by kernel_rfl) (fun _ _ _ h => h) (Or.inl ⟨by rfl, ?_⟩) (by assumption) ?_
    rotate_left
    · intro wq hSq
      have hq := HCF.out wq hSq
      go_split_ands
      go_simp
      try with_reducible rfl
    try simp only [Act.put, List.getElem_toArray, List.getElem_cons_zero, List.getElem_cons_succ, List.setIfInBounds_toArray, List.set_cons_zero, List.set_cons_succ]
    refine wpAnyH_take (i := 8) (v := ?_) rfl (by kernel_rfl) (by kernel_rfl) (by kernel_rfl) (fun _ _ _ h => h) (Or.inl ⟨by rfl, ?_⟩) (by assumption) ?_
    rotate_left
    · intro wq hSq
      have hq := HCF.out wq hSq
      go_split_ands
      go_simp
      try with_reducible rfl
    try simp only [Act.put, List.getElem_toArray, List.getElem_cons_zero, List.getElem_cons_succ, List.setIfInBounds_toArray, List.set_cons_zero, List.set_cons_succ]
    refine wpAnyH_take (i := 9) (v := ?_) rfl (by kernel_rfl) (by kernel_rfl) (by kernel_rfl) (fun _ _ _ h => h) (Or.inl ⟨by rfl, ?_⟩) (by assumption) ?_
    rotate_left
    · intro wq hSq
      have hq := HCF.out wq hSq
      go_split_ands
      go_simp
      try with_reducible rfl
    try simp only [Act.put, List.getElem_toArray, List.getElem_cons_zero, List.getElem_cons_succ, List.setIfInBounds_toArray, List.set_cons_zero, List.set_cons_succ]
    refine wpAnyH_take (i := 10) (v := ?_) rfl (by kernel_rfl) (by kernel_rfl) (by kernel_rfl) (fun _ _ _ h => h) (Or.inl ⟨by rfl, ?_⟩) (by assumption) ?_
    rotate_left
    · intro wq hSq
      have hq := HCF.out wq hSq
      go_split_ands
      go_simp
      try with_reducible rfl
    try simp only [Act.put, List.getElem_toArray, List.getElem_cons_zero, List.getElem_cons_succ, List.setIfInBounds_toArray, List.set_cons_zero, List.set_cons_succ]
    refine wpAnyH_take (i := 11) (v := ?_) rfl (by kernel_rfl) (by kernel_rfl) (by kernel_rfl) (fun _ _ _ h => h) (Or.inl ⟨by rfl, ?_⟩) (by assumption) ?_
    rotate_left
    · intro wq hSq
      have hq := HCF.out wq hSq
      go_split_ands
      go_simp
      try with_reducible rfl
    try simp only [Act.put, List.getElem_toArray, List.getElem_cons_zero, List.getElem_cons_succ, List.setIfInBounds_toArray, List.set_cons_zero, List.set_cons_succ]
    refine wpAnyH_take (i := 12) (v := ?_) rfl (by kernel_rfl) (by kernel_rfl) (by kernel_rfl) (fun _ _ _ h => h) (Or.inl ⟨by rfl, ?_⟩) (by assumption) ?_
    rotate_left
    · intro wq hSq
      have hq := HCF.out wq hSq
      go_split_ands
      go_simp
      try with_reducible rfl
    try simp only [Act.put, List.getElem_toArray, List.getElem_cons_zero, List.getElem_cons_succ, List.setIfInBounds_toArray, List.set_cons_zero, List.set_cons_succ]
    refine wpAnyH_take (i := 15) (v := ?_) rfl (by kernel_rfl) (by kernel_rfl) (by kernel_rfl) (fun _ _ _ h => h) (Or.inl ⟨by rfl, ?_⟩) (by assumption) ?_
    rotate_left
    · intro wq hSq
      have hq := HCF.out wq hSq
      go_split_ands
      go_simp
      try with_reducible rfl
    try simp only [Act.put, List.getElem_toArray, List.getElem_cons_zero, List.getElem_cons_succ, List.setIfInBounds_toArray, List.set_cons_zero, List.set_cons_succ]
    refine wpAnyH_take (i := 16) (v := ?_) rfl (by kernel_rfl) (by kernel_rfl) (by kernel_rfl) (fun _ _ _ h => h) (Or.inl ⟨by rfl, ?_⟩) (by assumption) ?_
    rotate_left
    · intro wq hSq
      have hq := HCF.out wq hSq
      go_split_ands
      go_simp
      try with_reducible rfl
    try simp only [Act.put, List.getElem_toArray, List.getElem_cons_zero, List.getElem_cons_succ, List.setIfInBounds_toArray, List.set_cons_zero, List.set_cons_succ]
    refine wpAnyH_take (i := 17) (v := ?_) rfl (by kernel_rfl) (by kernel_rfl) (by kernel_rfl) (fun _ _ _ h => h) (Or.inl ⟨by rfl, ?_⟩) (by assumption) ?_
    rotate_left
    · intro wq hSq
      have hq := HCF.out wq hSq
      go_split_ands
      go_simp
      try with_reducible rfl
    try simp only [Act.put, List.getElem_toArray, List.getElem_cons_zero, List.getElem_cons_succ, List.setIfInBounds_toArray, List.set_cons_zero, List.set_cons_succ]
    refine wpAnyH_take (i := 18) (v := ?_) rfl (by kernel_rfl) (by kernel_rfl) (by kernel_rfl) (fun _ _ _ h => h) (Or.inl ⟨by rfl, ?_⟩) (by assumption) ?_
    rotate_left
    · intro wq hSq
      have hq := HCF.out wq hSq
      go_split_ands
      go_simp
      try with_reducible rfl
    try simp only [Act.put, List.getElem_toArray, List.getElem_cons_zero, List.getElem_cons_succ, List.setIfInBounds_toArray, List.set_cons_zero, List.set_cons_succ]
    refine wpAnyH_ready (rs := [13]) (by kernel_rfl) (by simp) ?_
    refine AllReadyH.cons rfl (fun K hK => ?_) AllReadyH.nil
    try simp only [List.getElem_toArray, List.getElem_cons_zero, List.getElem_cons_succ]
    go_simp
    refine (HSV1.out _ (HDUF.out.d1.grow hHeld)).mono ?_
    rintro e w7 ⟨v7, rfl, hr7, hF7⟩
    have hB7 := BytesAt.of_row hr7
    go_wp2_with fail
    refine hK.out _ _ (hHeld.trans' hF7) (fun hHeld => ?_)
    clear hK K
    try simp only [Act.put, List.setIfInBounds_toArray, List.set_cons_zero, List.set_cons_succ]
    refine wpAnyH_ready (rs := [14, 19]) (by kernel_rfl) (by simp) ?_
    refine AllReadyH.cons rfl (fun K hK => ?_) (AllReadyH.cons rfl (fun K hK => ?_) AllReadyH.nil)
    · have hcv := conv_b2s hB7
      try simp only [List.getElem_toArray, List.getElem_cons_zero, List.getElem_cons_succ]
      go_simp
      refine hK.out _ _ hHeld (fun hHeld => ?_)
      clear hK K
      try simp only [Act.put, List.setIfInBounds_toArray, List.set_cons_zero, List.set_cons_succ]
      clear hcv
      refine wpAnyH_ready (rs := [19]) (by kernel_rfl) (by simp) ?_
      refine AllReadyH.cons rfl (fun K hK => ?_) AllReadyH.nil
      try simp only [List.getElem_toArray, List.getElem_cons_zero, List.getElem_cons_succ]
      go_simp
      refine (HSV2.out _ (HDUF.out.d2.grow hHeld)).mono ?_
      rintro e w8 ⟨v8, rfl, hr8, hF8⟩
      have hB8 := BytesAt.of_row hr8
      go_wp2_with fail
      refine hK.out _ _ (hHeld.trans' hF8) (fun hHeld => ?_)
      clear hK K
      try simp only [Act.put, List.setIfInBounds_toArray, List.set_cons_zero, List.set_cons_succ]
      have hcv := conv_b2s hB8
      refine wpAnyH_ready (rs := [20]) (by kernel_rfl) (by simp) ?_
      refine AllReadyH.cons rfl (fun K hK => ?_) AllReadyH.nil
      try simp only [List.getElem_toArray, List.getElem_cons_zero, List.getElem_cons_succ]
      go_simp
      refine hK.out _ _ hHeld (fun hHeld => ?_)
      clear hK K
      try simp only [Act.put, List.setIfInBounds_toArray, List.set_cons_zero, List.set_cons_succ]
      clear hcv
      refine wpAnyH_take (i := 21) (v := ?_) rfl (by kernel_rfl) (by kernel_rfl) (by kernel_rfl) (fun _ _ _ h => h) (Or.inl ⟨by rfl, ?_⟩) (by assumption) ?_
      rotate_left
      · intro wq hSq
        try dsimp only at hSq
        go_split_ands
        go_simp
        try with_reducible rfl
      try simp only [Act.put, List.getElem_toArray, List.getElem_cons_zero, List.getElem_cons_succ, List.setIfInBounds_toArray, List.set_cons_zero, List.set_cons_succ]
      refine wpAnyH_take (i := 22) (v := ?_) rfl (by kernel_rfl) (by kernel_rfl) (by kernel_rfl) (fun _ _ _ h => h) (Or.inl ⟨by rfl, ?_⟩) (by assumption) ?_
      rotate_left
      · intro wq hSq
        try dsimp only at hSq
        go_split_ands
        go_simp
        try with_reducible rfl
      try simp only [Act.put, List.getElem_toArray, List.getElem_cons_zero, List.getElem_cons_succ, List.setIfInBounds_toArray, List.set_cons_zero, List.set_cons_succ]
      refine wpAnyH_take (i := 23) (v := ?_) rfl (by kernel_rfl) (by kernel_rfl) (by kernel_rfl) (fun _ _ _ h => h) (Or.inl ⟨by rfl, ?_⟩) (by assumption) ?_
      rotate_left
      · intro wq hSq
        try dsimp only at hSq
        go_split_ands
        go_simp
        try with_reducible rfl
      try simp only [Act.put, List.getElem_toArray, List.getElem_cons_zero, List.getElem_cons_succ, List.setIfInBounds_toArray, List.set_cons_zero, List.set_cons_succ]
      refine wpAnyH_ready (rs := [24]) (by kernel_rfl) (by simp) ?_
      refine AllReadyH.cons rfl (fun K hK => ?_) AllReadyH.nil
      try simp only [List.getElem_toArray, List.getElem_cons_zero, List.getElem_cons_succ]
      go_simp
      refine (HLV.out _).mono ?_
      rintro e w9 ⟨rfl, hF9⟩
      go_wp2_with fail
      refine hK.out _ _ (hHeld.trans' hF9) (fun hHeld => ?_)
      clear hK K
      try simp only [Act.put, List.setIfInBounds_toArray, List.set_cons_zero, List.set_cons_succ]
      refine wpAnyH_take (i := 25) (v := ?_) rfl (by kernel_rfl) (by kernel_rfl) (by kernel_rfl) (fun _ _ _ h => h) (Or.inl ⟨by rfl, ?_⟩) (by assumption) ?_
      rotate_left
      · intro wq hSq
        try dsimp only at hSq
        go_split_ands
        go_simp
        try with_reducible rfl
      try simp only [Act.put, List.getElem_toArray, List.getElem_cons_zero, List.getElem_cons_succ, List.setIfInBounds_toArray, List.set_cons_zero, List.set_cons_succ]
      refine wpAnyH_take (i := 26) (v := ?_) rfl (by kernel_rfl) (by kernel_rfl) (by kernel_rfl) (fun _ _ _ h => h) (Or.inl ⟨by rfl, ?_⟩) (by assumption) ?_
      rotate_left
      · intro wq hSq
        try dsimp only at hSq
        go_split_ands
        go_simp
        try with_reducible rfl
      try simp only [Act.put, List.getElem_toArray, List.getElem_cons_zero, List.getElem_cons_succ, List.setIfInBounds_toArray, List.set_cons_zero, List.set_cons_succ]
      refine wpAnyH_done (by kernel_rfl) ?_ _
      have HH := Lib.hid hHeld
      clear hHeld hF9
      go_wp2_with fail
      go_ret
      exact ⟨rfl, HFWF.out.trans' HH.out⟩
    · try simp only [List.getElem_toArray, List.getElem_cons_zero, List.getElem_cons_succ]
      go_simp
      refine (HSV2.out _ (HDUF.out.d2.grow hHeld)).mono ?_
      rintro e w8 ⟨v8, rfl, hr8, hF8⟩
      have hB8 := BytesAt.of_row hr8
      have hB78 := hB7.grow hF8
      go_wp2_with fail
      refine hK.out _ _ (hHeld.trans' hF8) (fun hHeld => ?_)
      clear hK K
      try simp only [Act.put, List.setIfInBounds_toArray, List.set_cons_zero, List.set_cons_succ]
      refine wpAnyH_ready (rs := [14, 20]) (by kernel_rfl) (by simp) ?_
      refine AllReadyH.cons rfl (fun K hK => ?_) (AllReadyH.cons rfl (fun K hK => ?_) AllReadyH.nil)
      · have hcv := conv_b2s hB78
        try simp only [List.getElem_toArray, List.getElem_cons_zero, List.getElem_cons_succ]
        go_simp
        refine hK.out _ _ hHeld (fun hHeld => ?_)
        clear hK K
        try simp only [Act.put, List.setIfInBounds_toArray, List.set_cons_zero, List.set_cons_succ]
        clear hcv
        have hcv := conv_b2s hB8
        refine wpAnyH_ready (rs := [20]) (by kernel_rfl) (by simp) ?_
        refine AllReadyH.cons rfl (fun K hK => ?_) AllReadyH.nil
        try simp only [List.getElem_toArray, List.getElem_cons_zero, List.getElem_cons_succ]
        go_simp
        refine hK.out _ _ hHeld (fun hHeld => ?_)
        clear hK K
        try simp only [Act.put, List.setIfInBounds_toArray, List.set_cons_zero, List.set_cons_succ]
        clear hcv
        refine wpAnyH_take (i := 21) (v := ?_) rfl (by kernel_rfl) (by kernel_rfl) (by kernel_rfl) (fun _ _ _ h => h) (Or.inl ⟨by rfl, ?_⟩) (by assumption) ?_
        rotate_left
        · intro wq hSq
          try dsimp only at hSq
          go_split_ands
          go_simp
          try with_reducible rfl
        try simp only [Act.put, List.getElem_toArray, List.getElem_cons_zero, List.getElem_cons_succ, List.setIfInBounds_toArray, List.set_cons_zero, List.set_cons_succ]
        refine wpAnyH_take (i := 22) (v := ?_) rfl (by kernel_rfl) (by kernel_rfl) (by kernel_rfl) (fun _ _ _ h => h) (Or.inl ⟨by rfl, ?_⟩) (by assumption) ?_
        rotate_left
        · intro wq hSq
          try dsimp only at hSq
          go_split_ands
          go_simp
          try with_reducible rfl
        try simp only [Act.put, List.getElem_toArray, List.getElem_cons_zero, List.getElem_cons_succ, List.setIfInBounds_toArray, List.set_cons_zero, List.set_cons_succ]
        refine wpAnyH_take (i := 23) (v := ?_) rfl (by kernel_rfl) (by kernel_rfl) (by kernel_rfl) (fun _ _ _ h => h) (Or.inl ⟨by rfl, ?_⟩) (by assumption) ?_
        rotate_left
        · intro wq hSq
          try dsimp only at hSq
          go_split_ands
          go_simp
          try with_reducible rfl
        try simp only [Act.put, List.getElem_toArray, List.getElem_cons_zero, List.getElem_cons_succ, List.setIfInBounds_toArray, List.set_cons_zero, List.set_cons_succ]
        refine wpAnyH_ready (rs := [24]) (by kernel_rfl) (by simp) ?_
        refine AllReadyH.cons rfl (fun K hK => ?_) AllReadyH.nil
        try simp only [List.getElem_toArray, List.getElem_cons_zero, List.getElem_cons_succ]
        go_simp
        refine (HLV.out _).mono ?_
        rintro e w9 ⟨rfl, hF9⟩
        go_wp2_with fail
        refine hK.out _ _ (hHeld.trans' hF9) (fun hHeld => ?_)
        clear hK K
        try simp only [Act.put, List.setIfInBounds_toArray, List.set_cons_zero, List.set_cons_succ]
        refine wpAnyH_take (i := 25) (v := ?_) rfl (by kernel_rfl) (by kernel_rfl) (by kernel_rfl) (fun _ _ _ h => h) (Or.inl ⟨by rfl, ?_⟩) (by assumption) ?_
        rotate_left
        · intro wq hSq
          try dsimp only at hSq
          go_split_ands
          go_simp
          try with_reducible rfl
        try simp only [Act.put, List.getElem_toArray, List.getElem_cons_zero, List.getElem_cons_succ, List.setIfInBounds_toArray, List.set_cons_zero, List.set_cons_succ]
        refine wpAnyH_take (i := 26) (v := ?_) rfl (by kernel_rfl) (by kernel_rfl) (by kernel_rfl) (fun _ _ _ h => h) (Or.inl ⟨by rfl, ?_⟩) (by assumption) ?_
        rotate_left
        · intro wq hSq
          try dsimp only at hSq
          go_split_ands
          go_simp
          try with_reducible rfl
        try simp only [Act.put, List.getElem_toArray, List.getElem_cons_zero, List.getElem_cons_succ, List.setIfInBounds_toArray, List.set_cons_zero, List.set_cons_succ]
        refine wpAnyH_done (by kernel_rfl) ?_ _
        have HH := Lib.hid hHeld
        clear hHeld hF9
        go_wp2_with fail
        go_ret
        exact ⟨rfl, HFWF.out.trans' HH.out⟩
      · have hcv := conv_b2s hB8
        try simp only [List.getElem_toArray, List.getElem_cons_zero, List.getElem_cons_succ]
        go_simp
        refine hK.out _ _ hHeld (fun hHeld => ?_)
        clear hK K
        try simp only [Act.put, List.setIfInBounds_toArray, List.set_cons_zero, List.set_cons_succ]
        clear hcv
        have hcv := conv_b2s hB78
        refine wpAnyH_ready (rs := [14]) (by kernel_rfl) (by simp) ?_
        refine AllReadyH.cons rfl (fun K hK => ?_) AllReadyH.nil
        try simp only [List.getElem_toArray, List.getElem_cons_zero, List.getElem_cons_succ]
        go_simp
        refine hK.out _ _ hHeld (fun hHeld => ?_)
        clear hK K
        try simp only [Act.put, List.setIfInBounds_toArray, List.set_cons_zero, List.set_cons_succ]
        clear hcv
        refine wpAnyH_take (i := 21) (v := ?_) rfl (by kernel_rfl) (by kernel_rfl) (by kernel_rfl) (fun _ _ _ h => h) (Or.inl ⟨by rfl, ?_⟩) (by assumption) ?_
        rotate_left
        · intro wq hSq
          try dsimp only at hSq
          go_split_ands
          go_simp
          try with_reducible rfl
        try simp only [Act.put, List.getElem_toArray, List.getElem_cons_zero, List.getElem_cons_succ, List.setIfInBounds_toArray, List.set_cons_zero, List.set_cons_succ]
        refine wpAnyH_take (i := 22) (v := ?_) rfl (by kernel_rfl) (by kernel_rfl) (by kernel_rfl) (fun _ _ _ h => h) (Or.inl ⟨by rfl, ?_⟩) (by assumption) ?_
        rotate_left
        · intro wq hSq
          try dsimp only at hSq
          go_split_ands
          go_simp
          try with_reducible rfl
        try simp only [Act.put, List.getElem_toArray, List.getElem_cons_zero, List.getElem_cons_succ, List.setIfInBounds_toArray, List.set_cons_zero, List.set_cons_succ]
        refine wpAnyH_take (i := 23) (v := ?_) rfl (by kernel_rfl) (by kernel_rfl) (by kernel_rfl) (fun _ _ _ h => h) (Or.inl ⟨by rfl, ?_⟩) (by assumption) ?_
        rotate_left
        · intro wq hSq
          try dsimp only at hSq
          go_split_ands
          go_simp
          try with_reducible rfl
        try simp only [Act.put, List.getElem_toArray, List.getElem_cons_zero, List.getElem_cons_succ, List.setIfInBounds_toArray, List.set_cons_zero, List.set_cons_succ]
        refine wpAnyH_ready (rs := [24]) (by kernel_rfl) (by simp) ?_
        refine AllReadyH.cons rfl (fun K hK => ?_) AllReadyH.nil
        try simp only [List.getElem_toArray, List.getElem_cons_zero, List.getElem_cons_succ]
        go_simp
        refine (HLV.out _).mono ?_
        rintro e w9 ⟨rfl, hF9⟩
        go_wp2_with fail
        refine hK.out _ _ (hHeld.trans' hF9) (fun hHeld => ?_)
        clear hK K
        try simp only [Act.put, List.setIfInBounds_toArray, List.set_cons_zero, List.set_cons_succ]
        refine wpAnyH_take (i := 25) (v := ?_) rfl (by kernel_rfl) (by kernel_rfl) (by kernel_rfl) (fun _ _ _ h => h) (Or.inl ⟨by rfl, ?_⟩) (by assumption) ?_
        rotate_left
        · intro wq hSq
          try dsimp only at hSq
          go_split_ands
          go_simp
          try with_reducible rfl
        try simp only [Act.put, List.getElem_toArray, List.getElem_cons_zero, List.getElem_cons_succ, List.setIfInBounds_toArray, List.set_cons_zero, List.set_cons_succ]
        refine wpAnyH_take (i := 26) (v := ?_) rfl (by kernel_rfl) (by kernel_rfl) (by kernel_rfl) (fun _ _ _ h => h) (Or.inl ⟨by rfl, ?_⟩) (by assumption) ?_
        rotate_left
        · intro wq hSq
          try dsimp only at hSq
          go_split_ands
          go_simp
          try with_reducible rfl
        try simp only [Act.put, List.getElem_toArray, List.getElem_cons_zero, List.getElem_cons_succ, List.setIfInBounds_toArray, List.set_cons_zero, List.set_cons_succ]
        refine wpAnyH_done (by kernel_rfl) ?_ _
        have HH := Lib.hid hHeld
        clear hHeld hF9
        go_wp2_with fail
        go_ret
        exact ⟨rfl, HFWF.out.trans' HH.out⟩
end Go.Proofs.Ytemjdmgfilbfaaa
namespace Go.Proofs.Ytemjdmgfilbfaaa
open Go.ChangeShapes Go.WideShapes Go.ChangeAt Go.RowKit Go.Deep
set_option linter.unusedVariables false
set_option maxRecDepth 100000

section
variable {H : Type} {enc : TypeId × Value → H}

theorem rd_item {W : World} (cs : List Value) (d : DataW H) (h : Rd enc W 126 cs d) (hs : Sz 126 d) : ∃ x, cs = encIt x ∧ BytesAt W x.2.2.1 x.2.2.2 ∧ Rng (bare x) ∧ x.2.2.2.length ≤ 140737488351232 := by
  obtain ⟨hl, _⟩ := rd_struct Try.underlying126 h
  have h3 : Try.prog.cellsOf 126 = 3 := by kernel_rfl
  rw [h3] at hl
  obtain ⟨d0, r0, _⟩ := fldS Try.underlying126 h hs (i := 0) (off := 0) (n := 1) rfl rfl (by kernel_rfl)
  obtain ⟨d1, r1, _⟩ := fldS Try.underlying126 h hs (i := 1) (off := 1) (n := 1) rfl rfl (by kernel_rfl)
  obtain ⟨d2, r2, s2⟩ := fldS Try.underlying126 h hs (i := 2) (off := 2) (n := 1) rfl rfl (by kernel_rfl)
  match cs, hl with
  | [c0, c1, c2], _ =>
    obtain ⟨a, ha, wa⟩ := rd_int Try.underlying32 r0
    obtain ⟨b, hb, wb⟩ := rd_int Try.underlying5 r1
    obtain ⟨v, bs, hv, hB, hl⟩ := rd_bytesS Try.underlying33 Try.underlying5 (by kernel_rfl) (by kernel_rfl) r2 s2
    simp at ha hb hv
    have h16 := u16_wf wa
    have h8 := u8_wf wb
    exact ⟨(a, b, v, bs), by rw [ha, hb, hv]; rfl, hB, ⟨h16.1, h16.2, h8.1, h8.2⟩, hl⟩

theorem rd_items {W : World} {c : Value} {d : DataW H} (h : Rd enc W 73 [c] d) (hs : Sz 73 d) : ∃ ys, ItemsAt W c ys ∧ (∀ y ∈ ys, Rng (bare y)) ∧ ys.length * 32 ≤ 140737488351232 ∧ ∀ y ∈ ys, y.2.2.2.length ≤ 140737488351232 := by
  obtain ⟨v, ys, hv, hsl, hg, hl⟩ := rd_slS (encα := encIt) (sz := 3) (fun x => BytesAt W x.2.2.1 x.2.2.2 ∧ Rng (bare x) ∧ x.2.2.2.length ≤ 140737488351232) Try.underlying73 (by kernel_rfl) (by decide) rd_item h hs
  obtain rfl : c = v := by simpa using hv
  have hb : Try.prog.bytesOf 126 = 32 := by kernel_rfl
  rw [hb] at hl
  exact ⟨ys, ⟨hsl, fun x hx => (hg x hx).1⟩, fun y hy => (hg y hy).2.1, hl, fun y hy => (hg y hy).2.2⟩
end

set_option maxRecDepth 100000 in
theorem dcfJoin_lifted (os : Os) (started : os.Started) (H : Type) (enc : TypeId × Value → H) :
    ReturnsInHanded {} Try.checked os 11 .any (Rows.dcfJoinSpec.pre6 enc Try.prog Try.f11 Rows.dcfJoinRow.domain false) (Rows.dcfJoinSpec.post enc Try.prog Try.f11 false true false false) := by
  refine law_lift os started (by kernel_rfl) Try.func11 (fun t ht => ?_) (tb := 4) (by kernel_rfl) Try.underlying4 rfl (fun ds hl => ?_)
    (ChangeSpec.witness6 (enc := enc) (C := Try.checked) false ⟨#[], #[.slice none 0 0, .slice none 0 0, .int .u8 0], []⟩ 8 (by kernel_rfl) (by kernel_rfl) (by kernel_rfl) (by kernel_rfl)) ?_
  · rw [Try.params11] at ht
    simp only [List.mem_cons, List.not_mem_nil, or_false] at ht
    first | (rcases ht with rfl | rfl | rfl <;> exact ⟨by kernel_rfl, of_decide_eq_true (by kernel_rfl)⟩) | (rcases ht with rfl | rfl <;> exact ⟨by kernel_rfl, of_decide_eq_true (by kernel_rfl)⟩) | (subst ht; exact ⟨by kernel_rfl, of_decide_eq_true (by kernel_rfl)⟩)
  · rw [Try.params11] at hl
    first | (match ds, hl with | [d1, d2, d3], _ => exact ⟨rfl, rfl, rfl⟩) | (match ds, hl with | [d1, d2], _ => exact ⟨rfl, rfl, rfl⟩) | (match ds, hl with | [d1], _ => exact ⟨rfl, rfl, rfl⟩)
  · intro W base vs ds ps hval hA hlt hw
    rw [Try.params11] at hA hval hw
    obtain ⟨v0, vs, d0, ds, p0, q0, rfl, rfl, rfl, h0, hA⟩ := trodAll_cons hA
    obtain ⟨v1, vs, d1, ds, p1, q1, rfl, rfl, rfl, h1, hA⟩ := trodAll_cons hA
    obtain ⟨v2, vs, d2, ds, p2, q2, rfl, rfl, rfl, h2, hA⟩ := trodAll_cons hA
    obtain ⟨rfl, rfl, rfl⟩ := trodAll_nil hA
    obtain ⟨v, xs, hv, hsl, hg, hl⟩ := rd_slS (encα := cellsE) (sz := 14) (fun x => x.ok) Try.underlying22 (by kernel_rfl) (by decide) rd_en (arg_slice Try.underlying22 (hval 0 22 v0 rfl rfl) h0) (sz_arg hw (j := 0) rfl rfl)
    obtain rfl : v0 = v := by simpa using hv
    obtain ⟨is, hits, hir, hil, hib⟩ := rd_items (arg_slice Try.underlying73 (hval 1 73 v1 rfl rfl) h1) (sz_arg hw (j := 1) rfl rfl)
    obtain ⟨n, rfl, rfl, rfl, wn⟩ := open_int Try.underlying5 (hval 2 5 v2 rfl rfl) h2
    have hb : Try.prog.bytesOf 42 = 120 := by kernel_rfl
    rw [hb] at hl
    exact (join_any v0 v1 xs is n W hsl hg hl hits hil hir hib (u8_wf wn)).mono fun e w' h => ⟨h.1, h.2.below (Nat.le_refl _) (fun _ _ h => h)⟩

theorem dcfJoin_holds : Rows.DcfJoinSaid :=
  OpenClaim.holds_of_wide 11 Try.f11 rfl rfl rfl rfl rfl rfl rfl ⟨rfl, rfl, rfl, rfl, rfl⟩ rfl rfl rfl rfl rfl (by kernel_rfl) Try.func11 (by kernel_rfl)
    (of_decide_eq_true (by kernel_rfl)) (by unfold Func.isWrapper; first | (rw [if_pos (by decide +kernel)]; kernel_rfl) | (rw [if_neg (by decide +kernel)]; exact ⟨rfl, rfl⟩))
    (fun os started H enc _ => dcfJoin_lifted os started H enc)
#print axioms dcfJoin_holds
end Go.Proofs.Ytemjdmgfilbfaaa
