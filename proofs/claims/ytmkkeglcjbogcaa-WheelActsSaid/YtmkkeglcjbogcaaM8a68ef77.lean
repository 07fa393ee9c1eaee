/-
  The document's wheel: Cancel. The document's wheel: ticks pass. The document's ticks, and the program's: the same. The document's wheel: Tick. WheelActs: Left and Next of the program; calm; the two wheels.
-/
import Derived.Deep.CutBlock
import Derived.Test.YtmkkeglcjbogcaaM42e92ffc
import Derived.Test.YtmkkeglcjbogcaaM915ebada
set_option linter.unusedVariables false
set_option linter.unusedSimpArgs false
namespace Go.Proofs.Ytmkkeglcjbogcaa
open Go.RowKit
set_option linter.unusedVariables false
set_option linter.unusedSimpArgs false

theorem newsT_part {W : World} {g off : Nat} {now : Int} {es : List Tm} (h : ∀ j u, (cellsOf (encT now) es)[j]? = some u → W.cell? ⟨g, off + j, none⟩ = some u) (k : Nat) : ∀ j u, (cellsOf (encT now) (es.drop k))[j]? = some u → W.cell? ⟨g, off + k * 4 + j, none⟩ = some u := by
  intro j u hj
  rw [Nat.add_assoc]
  refine h _ _ ?_
  have hd : cellsOf (encT now) (es.drop k) = (cellsOf (encT now) es).drop (k * 4) := by
    by_cases hk : k ≤ es.length
    · conv => rhs; rw [← List.take_append_drop k es]
      unfold cellsOf
      rw [List.flatMap_append, List.drop_left' ?_]
      rw [← cellsOf.eq_def, encT_length, List.length_take, Nat.min_eq_left hk]
    · rw [List.drop_eq_nil_of_le (by omega), List.drop_eq_nil_of_le (by rw [encT_length]; omega)]
      rfl
  rw [hd, List.getElem?_drop] at hj
  exact hj
theorem newsT_front {W : World} {g off : Nat} {now : Int} {es : List Tm} (h : ∀ j u, (cellsOf (encT now) es)[j]? = some u → W.cell? ⟨g, off + j, none⟩ = some u) (k : Nat) : ∀ j u, (cellsOf (encT now) (es.take k))[j]? = some u → W.cell? ⟨g, off + j, none⟩ = some u := by
  intro j u hj
  refine h _ _ ?_
  have hd : cellsOf (encT now) es = cellsOf (encT now) (es.take k) ++ cellsOf (encT now) (es.drop k) := by
    conv => lhs; rw [← List.take_append_drop k es]
    unfold cellsOf
    rw [List.flatMap_append]
  rw [hd, List.getElem?_append_left (List.getElem?_eq_some_iff.1 hj).1]
  exact hj
theorem size_RT (w : World) : (Go.sizeOf 165).run Try.prog w = .ok 4 w := by
  have h : (Try.prog.info? 165).map (·.size) = some 4 := by kernel_rfl
  obtain ⟨i, hi, h1⟩ := Option.map_eq_some_iff.1 h
  simp [Go.sizeOf, typeInfo, hi, h1]
theorem sliceT_front {W0 : World} {A : Option Addr} {now : Int} {es : List Tm} {n cap : Nat} (hn : n = es.length) (j : Nat) (hj : j ≤ n) (hc : n ≤ cap) (h : 0 < n → NewsOf W0 A (cellsOf (encT now) es)) :
    ∃ A1, (∀ W, (Instr.slice 113 (.slice A n cap) none (some (.int .i64 (j : Int))) none).run Try.prog W = .ok (.slice A1 j cap) W) ∧ (0 < j → NewsOf W0 A1 (cellsOf (encT now) (es.take j))) := by
  have ht : Try.prog.underlying 113 = some (.slice (Try.prog.elem 113)) := by kernel_rfl
  have he : Try.prog.elem 113 = 165 := by kernel_rfl
  refine ⟨if cap = 0 then A else A.map (·.add (0 * 4)), fun W => ?_, fun h0 => ?_⟩
  · rw [run_slice_h W 113 _ _ _ ht .i64 _ (by omega) (by omega), he, size_RT]
    simp [Result.andThen, sliced]
  · obtain ⟨g, off, rfl, hc2⟩ := h (by omega)
    rw [if_neg (by omega)]
    exact ⟨g, off, by simp [Addr.add], fun i u hi => newsT_front hc2 j i u hi⟩
theorem sliceT_back {W0 : World} {A : Option Addr} {now : Int} {es : List Tm} {n cap : Nat} (hn : n = es.length) (j : Nat) (hj : j ≤ n) (hc : n ≤ cap) (h : 0 < n → NewsOf W0 A (cellsOf (encT now) es)) :
    ∃ A1, (∀ W, (Instr.slice 113 (.slice A n cap) (some (.int .i64 (j : Int))) none none).run Try.prog W = .ok (.slice A1 (n - j) (cap - j)) W) ∧ (0 < n - j → NewsOf W0 A1 (cellsOf (encT now) (es.drop j))) := by
  have ht : Try.prog.underlying 113 = some (.slice (Try.prog.elem 113)) := by kernel_rfl
  have he : Try.prog.elem 113 = 165 := by kernel_rfl
  refine ⟨if cap = j then A else A.map (·.add (j * 4)), fun W => ?_, fun h0 => ?_⟩
  · rw [run_slice_l W 113 _ _ _ ht .i64 _ (by omega) (by omega), he, size_RT]
    simp [Result.andThen, sliced]
  · obtain ⟨g, off, rfl, hc2⟩ := h (by omega)
    rw [if_neg (by omega)]
    refine ⟨g, off + j * 4, ?_, fun i u hi => newsT_part hc2 j i u hi⟩
    simp only [Option.map_some, Addr.add]
    by_cases h1 : j = 0
    · simp [h1]
    · have h2 : j * 4 ≠ 0 := by omega
      simp [h2]
theorem cancel_at {s : Wh} (hok : s.ok) {i : Nat} (hi : i < s.tm.length) : s.cancel s.tm[i].no = (⟨s.tm.take i ++ s.tm.drop (i + 1), s.now, s.last⟩, true) := by
  have ht := List.getElem_mem hi
  have h2 := (cancel_hit hok ht).1
  refine Prod.ext ?_ h2
  show (⟨s.tm.filter (fun u => u.no != s.tm[i].no), s.now, s.last⟩ : Wh) = _
  congr 1
  have hs := hok.srt
  clear h2 ht
  revert hs hi
  generalize s.tm = l
  intro hi hs
  induction l generalizing i with
  | nil => simp at hi
  | cons x r ih =>
    rw [List.pairwise_cons] at hs
    cases i with
    | zero =>
      simp only [List.getElem_cons_zero, List.take_zero, List.nil_append, List.drop_succ_cons, List.drop_zero]
      rw [List.filter_cons_of_neg (by simp), List.filter_eq_self.2]
      intro u hu
      have := hs.1 u hu
      simp
      omega
    | succ i =>
      have hi' : i < r.length := by simpa using hi
      have h1 := hs.1 r[i] (List.getElem_mem hi')
      simp only [List.getElem_cons_succ, List.take_succ_cons, List.drop_succ_cons, List.cons_append]
      rw [List.filter_cons_of_pos (by simp; omega), ih hi' hs.2]
theorem RWAt.put {w1 w5 : World} {d : Nat} {v v5 : Value} {s : Wh} (tm : List Tm) (h : RWAt w1 d v s) (hF : Frm (fun _ => False) w1 w5) (hown : w5.ownsRow 0 165 4 v5 tm.length (cellsOf (encT s.now) tm)) : RWAt (w5.setCell ⟨d, 0, none⟩ v5) d v5 ⟨tm, s.now, s.last⟩ := by
  have hc := hF.heap h.cell (fun h => h)
  refine ⟨heap_set_at hc rfl, ?_⟩
  refine Frm.row (Frm.set1 (Frm.refl (One d) w5) (o := 0) v5) hown (fun k hk e => ?_)
  have e : k = d := e
  subst e
  obtain ⟨_, cur, hcur⟩ := row_block hown hk
  rw [hc] at hcur
  cases hcur
def RCanPost (d : Nat) (r : Wh × Bool) (w : World) (e : Ending) (w' : World) : Prop := e = .returned (.bool r.2) ∧ ∃ v', RWAt w' d v' r.1 ∧ Frm (One d) w w'
set_option maxRecDepth 100000 in
set_option maxHeartbeats 2000000 in
theorem rcancel_any (w : World) (d : Nat) (v : Value) (s : Wh) (x : Int) (h : RWAt w d v s) (hok : s.ok) : Calls Try.prog 84 #[ptrW d, .int .i64 x] w (RCanPost d (s.cancel x) w) := by
  have H := Lib.hid h
  obtain ⟨A, cap, rfl, hc1, hc2, _⟩ := h.open_
  obtain ⟨n, hn⟩ : ∃ n, n = s.tm.length := ⟨_, rfl⟩
  have HF := Lib.hid (rwfind_any w d _ s x h)
  rw [← hn] at hc1 H
  have hlen := hok.len
  rw [← hn] at hlen
  have HN := Lib.hid hn
  have HOK := Lib.hid hok
  have c0 : w.cell? ⟨d, 0, none⟩ = some (.slice A n cap) := cell_at H.out.cell
  have HCC := Lib.hid (fun W (h : Frm (fun _ => False) w W) => h.cell c0 (fun h => h))
  have HNW := Lib.hid (H.out.news rfl)
  unfold ptrW at *
  clear h hn hok hc2 c0
  go_enter Try.func84, Try.ntmps84
  go_upto_region 2 with (go_at_call 111; refine HF.out.mono ?_; rintro e w2 ⟨r, rfl, hr, rfl⟩; have HR := Lib.hid hr; clear hr)
  rcases HR.out with ⟨rfl, hno⟩ | ⟨i, hi, rfl, hi2⟩
  · have HE := Lib.hid (cancel_miss hno)
    clear hno HR
    go_wp2_with fail
    go_ret
    unfold RCanPost
    rw [HE.out]
    exact ⟨rfl, _, H.out, Frm.refl _ _⟩
  · have hin : i < n := by rw [HN.out]; exact hi
    have hca := cancel_at HOK.out hi
    rw [hi2] at hca
    have HE := Lib.hid hca
    obtain ⟨A1, hs1, hn1⟩ := sliceT_front HN.out i (by omega) hc1 HNW.out
    obtain ⟨A2, hs2, hn2⟩ := sliceT_back HN.out (i + 1) (by omega) hc1 HNW.out
    have e1 : ((i + 1 : Nat) : Int) = (i : Int) + 1 := by omega
    rw [e1] at hs2
    have HS1 := Lib.hid hs1
    have HS2 := Lib.hid hs2
    have HN1 := Lib.hid hn1
    have HN2 := Lib.hid hn2
    have hi0 : ¬ ((i : Int) < 0) := by omega
    have HL1 : Hid ((s.tm.take i).length = i) := by unfold Hid; rw [List.length_take]; exact Nat.min_eq_left (by have := HN.out; omega)
    have HL2 : Hid ((s.tm.drop (i + 1)).length = n - (i + 1)) := by unfold Hid; rw [List.length_drop, HN.out]
    have q1 : IntKind.i64.wrap ((i : Int) + 1) = (i : Int) + 1 := IntWalk.i64_in _ (by omega)
    have HIN := Lib.hid hin
    have HC1 := Lib.hid hc1
    clear hca hi2 HR hs1 hs2 hn1 hn2 e1 hi hin hc1
    go_wp2_with fail
    refine wp_region_L (S := fun W => Frm (fun _ => False) w.drew W) 19 (by kernel_rfl) (Frm.refl _ _) (fun hHeld => ?_)
    have HRD := Lib.hid (H.out.grow ((Frm.refl _ _).drew))
    have HN1' := Lib.hid (fun h0 => (HN1.out h0).grow ((Frm.refl (fun _ => False) w).drew))
    have HN2' := Lib.hid (fun h0 => (HN2.out h0).grow ((Frm.refl (fun _ => False) w).drew))
    have HCC' := Lib.hid (fun W (h : Frm (fun _ => False) w.drew W) => HCC.out W ((Frm.drew (Frm.refl (fun _ => False) w)).trans' h))
    have HFD := Lib.hid ((Frm.refl (One d) w).drew)
    obtain ⟨wD, hwDe⟩ : ∃ wD, wD = w.drew := ⟨_, rfl⟩
    rw [← hwDe] at HRD HN1' HN2' HCC' HFD hHeld ⊢
    clear hwDe
    refine wpAnyL_take (i := 0) (v := ?_) rfl (by kernel_rfl) (by kernel_rfl) (by kernel_rfl) (by kernel_rfl) (fun _ _ _ h => h) (Or.inl ⟨by rfl, ?_⟩) (by assumption) ?_; rotate_left; · (intro wq hSq; have hq := HCC'.out wq hSq; go_split_ands; go_simp; (try with_reducible rfl))
    try simp only [Act.put, List.getElem_toArray, List.getElem_cons_zero, List.getElem_cons_succ, List.setIfInBounds_toArray, List.set_cons_zero, List.set_cons_succ]
    refine wpAnyL_take (i := 2) (v := ?_) rfl (by kernel_rfl) (by kernel_rfl) (by kernel_rfl) (by kernel_rfl) (fun _ _ _ h => h) (Or.inl ⟨by rfl, ?_⟩) (by assumption) ?_; rotate_left; · (intro wq hSq; have hq := HCC'.out wq hSq; go_split_ands; go_simp; (try with_reducible rfl))
    try simp only [Act.put, List.getElem_toArray, List.getElem_cons_zero, List.getElem_cons_succ, List.setIfInBounds_toArray, List.set_cons_zero, List.set_cons_succ]
    refine wpAnyL_take (i := 3) (v := ?_) rfl (by kernel_rfl) (by kernel_rfl) (by kernel_rfl) (by kernel_rfl) (fun _ _ _ h => h) (Or.inl ⟨by rfl, ?_⟩) (by assumption) ?_; rotate_left; · (intro wq hSq; have hq := HCC'.out wq hSq; go_split_ands; go_simp; (try with_reducible rfl))
    try simp only [Act.put, List.getElem_toArray, List.getElem_cons_zero, List.getElem_cons_succ, List.setIfInBounds_toArray, List.set_cons_zero, List.set_cons_succ]
    refine wpAnyL_take (i := 4) (v := ?_) rfl (by kernel_rfl) (by kernel_rfl) (by kernel_rfl) (by kernel_rfl) (fun _ _ _ h => h) (Or.inl ⟨by rfl, ?_⟩) (by assumption) ?_; rotate_left; · (intro wq hSq; have hq := HCC'.out wq hSq; go_split_ands; go_simp; (try with_reducible rfl))
    try simp only [Act.put, List.getElem_toArray, List.getElem_cons_zero, List.getElem_cons_succ, List.setIfInBounds_toArray, List.set_cons_zero, List.set_cons_succ]
    refine wpAnyL_take (i := 5) (v := ?_) rfl (by kernel_rfl) (by kernel_rfl) (by kernel_rfl) (by kernel_rfl) (fun _ _ _ h => h) (Or.inl ⟨by rfl, ?_⟩) (by assumption) ?_; rotate_left; · (intro wq hSq; have hq := HCC'.out wq hSq; go_split_ands; go_simp; (try with_reducible rfl))
    try simp only [Act.put, List.getElem_toArray, List.getElem_cons_zero, List.getElem_cons_succ, List.setIfInBounds_toArray, List.set_cons_zero, List.set_cons_succ]
    refine wpAnyL_take (i := 6) (v := ?_) rfl (by kernel_rfl) (by kernel_rfl) (by kernel_rfl) (by kernel_rfl) (fun _ _ _ h => h) (Or.inl ⟨by rfl, ?_⟩) (by assumption) ?_; rotate_left; · (intro wq hSq; have hq := HCC'.out wq hSq; go_split_ands; go_simp; (try with_reducible rfl))
    try simp only [Act.put, List.getElem_toArray, List.getElem_cons_zero, List.getElem_cons_succ, List.setIfInBounds_toArray, List.set_cons_zero, List.set_cons_succ]
    refine wpAnyL_take (i := 7) (v := ?_) rfl (by kernel_rfl) (by kernel_rfl) (by kernel_rfl) (by kernel_rfl) (fun _ _ _ h => h) (Or.inl ⟨by rfl, ?_⟩) (by assumption) ?_; rotate_left; · (intro wq hSq; have hq := (fun W _ => HS1.out W) wq hSq; go_split_ands; go_simp; (try with_reducible rfl))
    try simp only [Act.put, List.getElem_toArray, List.getElem_cons_zero, List.getElem_cons_succ, List.setIfInBounds_toArray, List.set_cons_zero, List.set_cons_succ]
    refine wpAnyL_take (i := 9) (v := ?_) rfl (by kernel_rfl) (by kernel_rfl) (by kernel_rfl) (by kernel_rfl) (fun _ _ _ h => h) (Or.inl ⟨by rfl, ?_⟩) (by assumption) ?_; rotate_left; · (intro wq hSq; have hq := HCC'.out wq hSq; go_split_ands; go_simp; (try with_reducible rfl))
    try simp only [Act.put, List.getElem_toArray, List.getElem_cons_zero, List.getElem_cons_succ, List.setIfInBounds_toArray, List.set_cons_zero, List.set_cons_succ]
    refine wpAnyL_take (i := 10) (v := ?_) rfl (by kernel_rfl) (by kernel_rfl) (by kernel_rfl) (by kernel_rfl) (fun _ _ _ h => h) (Or.inl ⟨by rfl, ?_⟩) (by assumption) ?_; rotate_left; · (intro wq hSq; have hq := HCC'.out wq hSq; go_split_ands; go_simp; (try with_reducible rfl))
    try simp only [Act.put, List.getElem_toArray, List.getElem_cons_zero, List.getElem_cons_succ, List.setIfInBounds_toArray, List.set_cons_zero, List.set_cons_succ]
    refine wpAnyL_take (i := 11) (v := ?_) rfl (by kernel_rfl) (by kernel_rfl) (by kernel_rfl) (by kernel_rfl) (fun _ _ _ h => h) (Or.inl ⟨by rfl, ?_⟩) (by assumption) ?_; rotate_left; · (intro wq hSq; have hq := HCC'.out wq hSq; go_split_ands; go_simp; (try with_reducible rfl))
    try simp only [Act.put, List.getElem_toArray, List.getElem_cons_zero, List.getElem_cons_succ, List.setIfInBounds_toArray, List.set_cons_zero, List.set_cons_succ]
    refine wpAnyL_take (i := 12) (v := ?_) rfl (by kernel_rfl) (by kernel_rfl) (by kernel_rfl) (by kernel_rfl) (fun _ _ _ h => h) (Or.inl ⟨by rfl, ?_⟩) (by assumption) ?_; rotate_left; · (intro wq hSq; have hq := HCC'.out wq hSq; go_split_ands; go_simp; (try with_reducible rfl))
    try simp only [Act.put, List.getElem_toArray, List.getElem_cons_zero, List.getElem_cons_succ, List.setIfInBounds_toArray, List.set_cons_zero, List.set_cons_succ]
    refine wpAnyL_take (i := 13) (v := ?_) rfl (by kernel_rfl) (by kernel_rfl) (by kernel_rfl) (by kernel_rfl) (fun _ _ _ h => h) (Or.inl ⟨by rfl, ?_⟩) (by assumption) ?_; rotate_left; · (intro wq hSq; have hq := HCC'.out wq hSq; go_split_ands; go_simp; (try with_reducible rfl))
    try simp only [Act.put, List.getElem_toArray, List.getElem_cons_zero, List.getElem_cons_succ, List.setIfInBounds_toArray, List.set_cons_zero, List.set_cons_succ]
    refine wpAnyL_take (i := 14) (v := ?_) rfl (by kernel_rfl) (by kernel_rfl) (by kernel_rfl) (by kernel_rfl) (fun _ _ _ h => h) (Or.inl ⟨by rfl, ?_⟩) (by assumption) ?_; rotate_left; · (intro wq hSq; have hq := HCC'.out wq hSq; go_split_ands; go_simp; (try with_reducible rfl))
    try simp only [Act.put, List.getElem_toArray, List.getElem_cons_zero, List.getElem_cons_succ, List.setIfInBounds_toArray, List.set_cons_zero, List.set_cons_succ]
    refine wpAnyL_take (i := 15) (v := ?_) rfl (by kernel_rfl) (by kernel_rfl) (by kernel_rfl) (by kernel_rfl) (fun _ _ _ h => h) (Or.inl ⟨by rfl, ?_⟩) (by assumption) ?_; rotate_left; · (intro wq hSq; have hq := (fun W _ => HS2.out W) wq hSq; go_split_ands; go_simp; (try with_reducible rfl))
    try simp only [Act.put, List.getElem_toArray, List.getElem_cons_zero, List.getElem_cons_succ, List.setIfInBounds_toArray, List.set_cons_zero, List.set_cons_succ]
    refine wpAnyL_ready (rs := [1]) (by kernel_rfl) (by simp) ?_
    refine AllReadyL.cons rfl (fun K hK => ?_) AllReadyL.nil
    try simp only [List.getElem_toArray, List.getElem_cons_zero, List.getElem_cons_succ]
    go_simp
    have z1 := empty_row wD 165 4 0 (Nat.zero_le _)
    have f1 : Frm (fun _ => False) wD (wD.alloc (.cells #[] 165)) := (Frm.refl _ _).alloc _
    refine hK.out _ _ (hHeld.trans' f1) (fun hHeld => ?_)
    clear hK K
    try simp only [Act.put, List.setIfInBounds_toArray, List.set_cons_zero, List.set_cons_succ]
    obtain ⟨wA, hwA⟩ : ∃ wA, wA = wD.alloc (.cells #[] 165) := ⟨_, rfl⟩
    rw [← hwA] at z1 f1 hHeld ⊢
    have HA := Lib.hid z1
    clear z1 f1 hwA
    refine wpAnyL_ready (rs := [8]) (by kernel_rfl) (by simp) ?_
    refine AllReadyL.cons rfl (fun K hK => ?_) AllReadyL.nil
    try simp only [List.getElem_toArray, List.getElem_cons_zero, List.getElem_cons_succ]
    refine wp_cloneW el_RT (.tmp 12) (.tmp 18) rfl rfl rfl HA.out (news := cellsOf (encT s.now) (s.tm.take i)) (by rw [encT_length, HL1.out]) (fun h0 => (HN1'.out h0).grow hHeld) (encT_one _ _) (by have := HIN.out; unfold maxLen; omega) (by have := HIN.out; omega) (Nat.zero_le _) ?_
    intro A3 cap3 w3 hown3 hF3 hob
    have hk3 := keep_new hHeld hF3 (Nat.le_refl _)
    have hob3 : ∀ k, (Value.slice A3 i cap3).ownBlock = some k → wD.heap.size ≤ k := fun k hk => by
      rcases hob k hk with h | h
      · have e9 : wD.heap.size = k := own_eq h
        exact Nat.le_of_eq e9
      · have := hHeld.size
        omega
    refine hK.out _ _ (hk3) (fun hHeld => ?_)
    clear hK K
    try simp only [Act.put, List.setIfInBounds_toArray, List.set_cons_zero, List.set_cons_succ]
    have HO3 := Lib.hid hown3
    have HOB := Lib.hid hob3
    clear hown3 hF3 hk3 hob3 hob
    refine wpAnyL_ready (rs := [16]) (by kernel_rfl) (by simp) ?_
    refine AllReadyL.cons rfl (fun K hK => ?_) AllReadyL.nil
    try simp only [List.getElem_toArray, List.getElem_cons_zero, List.getElem_cons_succ]
    refine wp_app_src el_RT (.tmp 19) (.tmp 26) rfl rfl rfl HO3.out (news := cellsOf (encT s.now) (s.tm.drop (i + 1))) (by rw [encT_length, HL2.out]) (fun h0 => (HN2'.out h0).grow hHeld) (encT_one _ _) (by have := HIN.out; unfold maxLen; omega) (by have := HIN.out; omega) (Nat.zero_le _) ?_
    intro A5 cap5 w5 hown5 hF5
    have hk5 := hHeld.trans hF5 (fun i9 hi9 h => absurd hi9 (Nat.not_lt.2 (HOB.out i9 h)))
    refine hK.out _ _ (hk5) (fun hHeld => ?_)
    clear hK K
    try simp only [Act.put, List.setIfInBounds_toArray, List.set_cons_zero, List.set_cons_succ]
    have hown6 : w5.ownsRow 0 165 4 (.slice A5 (i + (n - (i + 1))) cap5) (s.tm.take i ++ s.tm.drop (i + 1)).length (cellsOf (encT s.now) (s.tm.take i ++ s.tm.drop (i + 1))) := by
      rw [List.length_append, HL1.out, HL2.out]
      have e : cellsOf (encT s.now) (s.tm.take i ++ s.tm.drop (i + 1)) = cellsOf (encT s.now) (s.tm.take i) ++ cellsOf (encT s.now) (s.tm.drop (i + 1)) := by unfold cellsOf; rw [List.flatMap_append]
      rw [e]
      exact hown5
    have hcc := hHeld.heap HRD.out.cell (fun h => h)
    have z0 := cell_at (o := 0) hcc
    simp only [List.getElem?_toArray, List.getElem?_cons_zero] at z0
    have zf := frees hcc
    have HP := Lib.hid (HRD.out.put _ hHeld hown6)
    have HH := Lib.hid hHeld
    clear hcc hown5 hown6 hF5 hk5
    refine wpAnyL_takem (i := 17) (m := 18) (v := ?_) rfl (by kernel_rfl) (by kernel_rfl) (by kernel_rfl) (by kernel_rfl) (by kernel_rfl) (by kernel_rfl) (fun _ _ _ h => h) (Or.inl ⟨by rfl, ?_⟩) (by assumption) ?_
    rotate_left
    · intro wq hSq
      have hq := (fun _ _ => trivial) wq hSq
      go_split_ands
      go_simp
      try with_reducible rfl
    try simp only [Act.put, List.getElem_toArray, List.getElem_cons_zero, List.getElem_cons_succ, List.setIfInBounds_toArray, List.set_cons_zero, List.set_cons_succ]
    refine wpAnyL_take (i := 18) (v := ?_) rfl (by kernel_rfl) (by kernel_rfl) (by kernel_rfl) (by kernel_rfl) (fun _ _ _ h => h) (Or.inl ⟨by rfl, ?_⟩) (by assumption) ?_; rotate_left; · (intro wq hSq; have hq := (fun _ _ => trivial) wq hSq; go_split_ands; go_simp; (try with_reducible rfl))
    try simp only [Act.put, List.getElem_toArray, List.getElem_cons_zero, List.getElem_cons_succ, List.setIfInBounds_toArray, List.set_cons_zero, List.set_cons_succ]
    refine wpAnyL_ready (rs := [19]) (by kernel_rfl) (by simp) ?_
    refine AllReadyL.last rfl (fun K hK => ?_)
    try simp only [List.getElem_toArray, List.getElem_cons_zero, List.getElem_cons_succ]
    go_simp
    refine hK.out _ _ ?_
    clear hK K
    try simp only [Act.put, List.setIfInBounds_toArray, List.set_cons_zero, List.set_cons_succ]
    refine wpAnyL_done (by kernel_rfl) ?_ _
    go_wp2_with fail
    go_ret
    unfold RCanPost
    rw [HE.out]
    exact ⟨rfl, _, HP.out, (HFD.out.trans HH.out (fun _ _ h => h.elim)).trans' (Frm.set1 (Frm.refl (One d) w5) (o := 0) _)⟩
end Go.Proofs.Ytmkkeglcjbogcaa
namespace Go.Proofs.Ytmkkeglcjbogcaa
open Go.RowKit
set_option linter.unusedVariables false
set_option linter.unusedSimpArgs false

def PassPost (d : Nat) (r : Wh × List Int) (B : Nat) (v : Value) (w : World) (e : Ending) (w' : World) : Prop :=
  ∃ v' vl, e = .returned v' ∧ RWAt w' d vl r.1 ∧ RowI w' B v' r.2 ∧ Frm (fun k => k = d ∨ v.ownBlock = some k) w w' ∧ ∀ k, v'.ownBlock = some k → v.ownBlock = some k ∨ w.heap.size ≤ k
/-- What holds of the loop's head. -/
structure PassI (d : Nat) (s : Wh) (now' : Int) (B : Nat) (v vt0 : Value) (told : List Int) (w : World) (k : Nat) (vt vl : Value) (wr : World) : Prop where
  cell : wr.heap[d]? = some (.cells #[v, .int .u64 now', .int .i64 s.last] 115 (0, 0))
  old : wr.ownsRow 0 165 4 v s.tm.length (cellsOf (encT s.now) s.tm)
  new : wr.ownsRow w.heap.size 165 4 vl ((s.tm.take k).filterMap (fireT now')).length (cellsOf (encT now') ((s.tm.take k).filterMap (fireT now')))
  row : RowI wr B vt ((s.tm.take k).foldl (tellT now') told)
  frm : Frm (fun j => j = d ∨ vt0.ownBlock = some j) w wr
  blk : ∀ j, vt.ownBlock = some j → vt0.ownBlock = some j ∨ w.heap.size ≤ j
  vlt : ∀ j, v.ownBlock = some j → j < w.heap.size
theorem take_fire (now : Int) (l : List Tm) {k : Nat} (hk : k < l.length) : (l.take (k + 1)).filterMap (fireT now) = (l.take k).filterMap (fireT now) ++ (match fireT now l[k] with | some u => [u] | none => []) := by
  rw [List.take_succ_eq_append_getElem hk, List.filterMap_append]
  congr 1
  cases h : fireT now l[k] <;> simp [h]
theorem take_tell (now : Int) (l : List Tm) {k : Nat} (hk : k < l.length) (told : List Int) : (l.take (k + 1)).foldl (tellT now) told = tellT now ((l.take k).foldl (tellT now) told) l[k] := by
  rw [List.take_succ_eq_append_getElem hk, List.foldl_append]
  rfl
/-- Nothing old is touched. -/
theorem PassI.grow {d : Nat} {s : Wh} {now' : Int} {B : Nat} {v vt0 vt vl : Value} {told : List Int} {w wr w2 : World} {k : Nat} (h : PassI d s now' B v vt0 told w k vt vl wr) (hF : Frm (fun _ => False) wr w2) : PassI d s now' B v vt0 told w k vt vl w2 :=
  ⟨hF.heap h.cell (fun h => h), hF.row h.old (fun _ _ h => h), hF.row h.new (fun _ _ h => h), hF.row h.row (fun _ _ h => h), h.frm.trans hF (fun _ _ h => h.elim), h.blk, h.vlt⟩
/-- The timer stays, or is put in again. -/
theorem PassI.keep {d : Nat} {s : Wh} {now' : Int} {B : Nat} {v vt0 vt vl vl2 vt2 : Value} {told : List Int} {w wr w2 : World} {k : Nat} (h : PassI d s now' B v vt0 told w k vt vl wr) (hk : k < s.tm.length) {u : Tm} (hu : fireT now' s.tm[k] = some u)
    (hrow : RowI w2 B vt2 (tellT now' ((s.tm.take k).foldl (tellT now') told) s.tm[k])) (hb : ∀ j, vt2.ownBlock = some j → vt.ownBlock = some j ∨ w.heap.size ≤ j)
    (hnew : w2.ownsRow w.heap.size 165 4 vl2 (((s.tm.take k).filterMap (fireT now')).length + 1) (cellsOf (encT now') ((s.tm.take k).filterMap (fireT now')) ++ encT now' u)) (hF : Frm (fun j => vt.ownBlock = some j ∨ vl.ownBlock = some j) wr w2) : PassI d s now' B v vt0 told w (k + 1) vt2 vl2 w2 := by
  have hd : ¬ (vt.ownBlock = some d ∨ vl.ownBlock = some d) := by
    rintro (e | e)
    · obtain ⟨cur, hc⟩ := h.row.blk e
      rw [h.cell] at hc
      cases hc
    · obtain ⟨_, cur, hc⟩ := row_block h.new e
      rw [h.cell] at hc
      cases hc
  refine ⟨hF.heap h.cell hd, hF.row h.old (fun j hj e => ?_), ?_, ?_, h.frm.trans hF (fun i hi e => ?_), fun j hj => ?_, h.vlt⟩
  · rcases e with e | e
    · obtain ⟨cur, hc⟩ := h.row.blk e
      obtain ⟨_, cur2, hc2⟩ := row_block h.old hj
      rw [hc] at hc2
      cases hc2
    · have h1 := (row_block h.new e).1
      have h2 := h.vlt j hj
      omega
  · rw [take_fire now' s.tm hk, hu]
    simp only []
    rw [List.length_append, List.length_singleton, encT_snoc]
    exact hnew
  · rw [take_tell now' s.tm hk]
    exact hrow
  · rcases e with e | e
    · rcases h.blk i e with h2 | h2
      · exact .inr h2
      · omega
    · have := (row_block h.new e).1
      omega
  · rcases hb j hj with h2 | h2
    · exact h.blk j h2
    · exact .inr h2
/-- The timer goes. -/
theorem PassI.gone {d : Nat} {s : Wh} {now' : Int} {B : Nat} {v vt0 vt vl vt2 : Value} {told : List Int} {w wr w2 : World} {k : Nat} (h : PassI d s now' B v vt0 told w k vt vl wr) (hk : k < s.tm.length) (hu : fireT now' s.tm[k] = none)
    (hrow : RowI w2 B vt2 (tellT now' ((s.tm.take k).foldl (tellT now') told) s.tm[k])) (hb : ∀ j, vt2.ownBlock = some j → vt.ownBlock = some j ∨ w.heap.size ≤ j)
    (hF : Frm (fun j => vt.ownBlock = some j) wr w2) : PassI d s now' B v vt0 told w (k + 1) vt2 vl w2 := by
  have hn : ∀ j cs t, wr.heap[j]? = some (.cells cs t (0, 0)) → t ≠ 3 → ¬ vt.ownBlock = some j := fun j cs t hj ht e => by
    obtain ⟨cur, hc⟩ := h.row.blk e
    rw [hj] at hc
    cases hc
    exact ht rfl
  refine ⟨hF.heap h.cell (hn _ _ _ h.cell (by decide)), hF.row h.old (fun j hj e => ?_), ?_, ?_, h.frm.trans hF (fun i hi e => ?_), fun j hj => ?_, h.vlt⟩
  · obtain ⟨_, cur2, hc2⟩ := row_block h.old hj
    exact hn _ _ _ hc2 (by decide) e
  · rw [take_fire now' s.tm hk, hu]
    simp only [List.append_nil]
    exact hF.row h.new (fun j hj e => by
      obtain ⟨_, cur2, hc2⟩ := row_block h.new hj
      exact hn _ _ _ hc2 (by decide) e)
  · rw [take_tell now' s.tm hk]
    exact hrow
  · rcases h.blk i e with h2 | h2
    · exact .inr h2
    · omega
  · rcases hb j hj with h2 | h2
    · exact h.blk j h2
    · exact .inr h2
set_option maxRecDepth 100000 in
set_option maxHeartbeats 4000000 in
theorem rwpass_any (w : World) (d : Nat) (v vt : Value) (s : Wh) (n : Int) (B : Nat) (told : List Int) (h : RWAt w d v s) (hrow : RowI w B vt told) (hB : B ≤ w.heap.size) (htl : told.length ≤ 65536) (hok : s.ok) (hn0 : 0 ≤ n) (hn1 : ∀ t ∈ s.tm, s.now + n ≤ t.due) (hnow : s.now + n ≤ 4611686022722355200) :
    Calls Try.prog 112 #[ptrW d, .int .u64 n, vt] w (PassPost d (Wh.fires ⟨s.tm, s.now + n, s.last⟩ told) B vt w) := by
  have H := Lib.hid h
  have HR := Lib.hid hrow
  have HOK := Lib.hid hok
  obtain ⟨A, cap, rfl, hc1, hc2, -⟩ := h.open_
  obtain ⟨At, capt, rfl, ht1, ht2, -⟩ := row_open hrow
  have k1 : w.cell? ⟨d, 1, none⟩ = some (.int .u64 s.now) := cell_at h.cell
  have kf := frees h.cell
  have hw0 := hok.now
  unfold ptrW
  clear h hrow hok
  go_enter Try.func112, Try.ntmps112
  go_upto_region 2 with fail
  obtain ⟨now', hnw⟩ : ∃ now', now' = s.now + n := ⟨_, rfl⟩
  have hF1 : Frm (One d) w (w.setCell ⟨d, 1, none⟩ (.int .u64 (s.now + n))) := Frm.set1 (Frm.refl (One d) w) (o := 1) _
  have hci : (w.setCell ⟨d, 1, none⟩ (.int .u64 (s.now + n))).heap[d]? = some (.cells #[.slice A s.tm.length cap, .int .u64 (s.now + n), .int .i64 s.last] 115 (0, 0)) := heap_set_at H.out.cell rfl
  obtain ⟨w1, hw1⟩ : ∃ w1, w1 = w.setCell ⟨d, 1, none⟩ (.int .u64 (s.now + n)) := ⟨_, rfl⟩
  rw [← hw1] at hF1 hci ⊢
  rw [← hnw] at hci hnow ⊢
  have hI : PassI d s now' B (.slice A s.tm.length cap) (.slice At told.length capt) told w 0 (.slice At told.length capt) (.slice (some ⟨w1.heap.size, 0, none⟩) 0 0) (w1.alloc (.cells #[] 165)) := by
    have hFa : Frm (fun _ => False) w1 (w1.alloc (.cells #[] 165)) := (Frm.refl _ _).alloc _
    have hdn : ∀ j cs t, w.heap[j]? = some (.cells cs t (0, 0)) → t ≠ 115 → ¬ One d j := fun j cs t hj ht e => by
      have e : j = d := e
      subst e
      rw [H.out.cell] at hj
      cases hj
      exact ht rfl
    refine ⟨hFa.heap hci (fun h => h), hFa.row (hF1.row H.out.row (fun j hj => by obtain ⟨_, cur, hc⟩ := row_block H.out.row hj; exact hdn _ _ _ hc (by decide))) (fun _ _ h => h), ?_, hFa.row (hF1.row HR.out (fun j hj => by obtain ⟨cur, hc⟩ := HR.out.blk hj; exact hdn _ _ _ hc (by decide))) (fun _ _ h => h), (hF1.mono (fun _ _ h => .inl h)).trans hFa (fun _ _ h => h.elim), fun j hj => .inl hj, fun j hj => ?_⟩
    · exact empty_row w1 _ _ _ hF1.size
    · obtain ⟨_, cur, hc⟩ := row_block H.out.row hj
      exact lt_of_block hc
  have HI := Lib.hid hI
  have HNW := Lib.hid hnw
  have HW1 := Lib.hid hF1.size
  have HN1 := Lib.hid hn1
  obtain ⟨m, hm⟩ : ∃ m, m = s.tm.length := ⟨_, rfl⟩
  have hm1 : m ≤ 1024 := by rw [hm]; exact HOK.out.len
  rw [← hm] at HI hc1 
  have HM := Lib.hid hm
  have HTL := Lib.hid htl
  clear hI hF1 hci hw1 k1 kf hn1 hm htl hnw
  go_wp2_with fail
  try go_frame
  go_loopw [2, 7, 8] (fun a b i wr => ∃ k : Nat, k ≤ m ∧ i = .int .i64 k ∧ PassI d s now' B (.slice A m cap) (.slice At told.length capt) told w k a b wr) (fun _ _ i _ => m - (intOf i).toNat)
  case atStart => exact ⟨0, Nat.zero_le _, rfl, HI.out⟩
  case round =>
    obtain ⟨k, hk, rfl, hI⟩ := hrel
    have HIR := Lib.hid hI
    have j0 : wr.cell? ⟨d, 0, none⟩ = some (.slice A m cap) := cell_at hI.cell
    have jf := frees hI.cell
    obtain ⟨A1, cap1, rfl, hd1, hd2, -⟩ := row_open hI.row
    obtain ⟨A2, cap2, rfl, he1, he2, -⟩ := row_open hI.new
    by_cases hlt : k < m
    · have hkl : k < s.tm.length := by rw [← HM.out]; exact hlt
      have hold := hI.old
      rw [← HM.out] at hold
      obtain ⟨A', cap', e, -, -, h3⟩ := row_open hold
      simp only [Value.slice.injEq] at e
      obtain ⟨rfl, -, rfl⟩ := e
      obtain ⟨g2, rfl, -, -, -, hcell⟩ := h3 (by omega)
      obtain ⟨t, ht⟩ : ∃ t, t = s.tm[k] := ⟨_, rfl⟩
      have hdt := HOK.out.due t (by rw [ht]; exact List.getElem_mem hkl)
      have hpt := HOK.out.per t (by rw [ht]; exact List.getElem_mem hkl)
      have hnt := HN1.out t (by rw [ht]; exact List.getElem_mem hkl)
      have HRW : Hid (wr.rangeAt g2 (k * 4) [.int .i64 t.no, .int .u64 (t.due - s.now), .int .u64 t.per, .int .i64 t.what]) := fun j u hj => by
        have hj : (encT s.now s.tm[k])[j]? = some u := by rw [← ht]; exact hj
        have hj4 : j < 4 := by have := (List.getElem?_eq_some_iff.1 hj).1; rwa [encT_len] at this
        rw [hcell _ (by omega), cellsOf_get (encT_len s.now) s.tm k j hkl hj4]
        exact hj
      have HT := Lib.hid ht
      have hkm : (k : Int) < (m : Int) := by omega
      have q1 : IntKind.u64.wrap (t.due - s.now - n) = t.due - now' := by rw [HNW.out]; rw [show t.due - s.now - n = t.due - (s.now + n) by omega]; exact IntWalk.u64_in _ (by omega)
      have hnt2 : now' ≤ t.due := by rw [HNW.out]; exact hnt
      have HLT : Hid (k + 1 ≤ m) := hlt
      obtain ⟨X, hX⟩ : ∃ X, X = (s.tm.take k).foldl (tellT now') told := ⟨_, rfl⟩
      obtain ⟨Y, hY⟩ : ∃ Y, Y = (s.tm.take k).filterMap (fireT now') := ⟨_, rfl⟩
      have HX := Lib.hid hX
      have HY := Lib.hid hY
      have HXL := Lib.hid (show X.length ≤ 65536 by rw [hX]; exact tell_len _ _ _ HTL.out)
      have hYL : Y.length ≤ 1024 := by rw [hY]; exact Nat.le_trans (List.length_filterMap_le _ _) (by rw [List.length_take]; omega)
      rw [← hX, ← hY]
      rw [← hX, ← hY] at HIR
      clear hold h3 hcell ht hX hY hI
      go_upto_region 8 with (refine wpList_load_mid rfl 165 (.tmp 34) rfl g2 (k * 4) rfl _ _ HRW.out Try.underlying165 rfl (by kernel_rfl) ?_)
      have hwb : Frm (fun _ => False) wr (wr.alloc (.cells #[.int .i64 t.no, .int .u64 (t.due - now'), .int .u64 t.per, .int .i64 t.what] 165 (0, 0))) := (Frm.refl _ _).alloc _
      have hbx : (wr.alloc (.cells #[.int .i64 t.no, .int .u64 (t.due - now'), .int .u64 t.per, .int .i64 t.what] 165 (0, 0))).heap[wr.heap.size]? = some (.cells #[.int .i64 t.no, .int .u64 (t.due - now'), .int .u64 t.per, .int .i64 t.what] 165 (0, 0)) := heap_new wr _
      obtain ⟨wb, hwbe⟩ : ∃ wb, wb = wr.alloc (.cells #[.int .i64 t.no, .int .u64 (t.due - now'), .int .u64 t.per, .int .i64 t.what] 165 (0, 0)) := ⟨_, rfl⟩
      rw [← hwbe] at hwb hbx ⊢
      have hIb := HIR.out.grow hwb
      have HIB := Lib.hid hIb
      have HWB := Lib.hid hwb
      have HBX := Lib.hid hbx
      have hvl : ∀ j, (Value.slice A2 Y.length cap2).ownBlock = some j → j < wr.heap.size := fun j hj => by
        have h1 := HIR.out.new
        obtain ⟨_, cur, hc⟩ := row_block h1 hj
        exact lt_of_block hc
      have HVL := Lib.hid hvl
      have HNEW : Hid (wb.ownsRow w.heap.size 165 4 (.slice A2 Y.length cap2) Y.length (cellsOf (encT now') Y)) := by have h1 := hIb.new; rw [← HY.out] at h1; exact h1
      have HROW : Hid (RowI wb B (.slice A1 X.length cap1) X) := by have h1 := hIb.row; rw [← HX.out] at h1; exact h1
      have x0 : wb.cell? ⟨wr.heap.size, 0, none⟩ = some (.int .i64 t.no) := cell_at hbx
      have x1 : wb.cell? ⟨wr.heap.size, 1, none⟩ = some (.int .u64 (t.due - now')) := cell_at hbx
      have x2 : wb.cell? ⟨wr.heap.size, 2, none⟩ = some (.int .u64 t.per) := cell_at hbx
      have x3 : wb.cell? ⟨wr.heap.size, 3, none⟩ = some (.int .i64 t.what) := cell_at hbx
      have xf := frees hbx
      have HWS := Lib.hid (Nat.le_trans HW1.out (show w1.heap.size ≤ w1.heap.size from Nat.le_refl _))
      have hws : w.heap.size ≤ wr.heap.size := HIR.out.frm.size
      clear hwbe hwb hbx hIb hvl j0 jf HRW q1
      by_cases hdn : 0 < t.due - now'
      · have g5 : decide (0 < t.due - now') = true := by simp; omega
        have g6 : now' < t.due := by omega
        have HFT := Lib.hid (show fireT now' s.tm[k] = some t by rw [← HT.out]; unfold fireT; rw [if_neg (by omega)])
        have HTE := Lib.hid (show tellT now' X s.tm[k] = X by rw [← HT.out]; unfold tellT; rw [if_neg (by omega)])
        clear hdn
        go_wp2_with (at_builtin; refine wpl_app_new rfl el_RT (.tmp 44) (.tmp 46) rfl rfl rfl rfl HNEW.out rfl (fun u hu => by simp at hu; rcases hu with rfl | rfl | rfl | rfl <;> rfl) (by unfold maxLen; omega) (by omega) (by have := HWB.out.size; omega) ?_; intro v5 w5 hown5 hF5; have HO5 := Lib.hid hown5; have HF5 := Lib.hid hF5; clear hown5 hF5)
        go_roundw
        case rel =>
          refine ⟨k + 1, HLT.out, by go_num, HIR.out.keep hkl HFT.out ?_ (fun j hj => .inl hj) ?_ ((HWB.out.mono (fun _ _ h => h.elim)).trans' (HF5.out.mono (fun _ _ h => .inr h)))⟩
          · rw [← HX.out, HTE.out]
            exact HF5.out.row HROW.out (fun j hj e => by
              obtain ⟨cur, hc⟩ := HROW.out.blk hj
              obtain ⟨_, cur2, hc2⟩ := row_block HNEW.out e
              rw [hc] at hc2
              cases hc2)
          · rw [← HY.out]
            exact HO5.out
        case measure => have := HLT.out; simp [intOf]; omega
      · have hdd : t.due = now' := by omega
        have hz : t.due - now' = 0 := by omega
        rw [hz] at x1
        have HDD := Lib.hid hdd
        have hHB2 := Nat.le_trans hB (Nat.le_trans hws HWB.out.size)
        have HB2 := Lib.hid hHB2
        clear hdn hdd hz hHB2
        go_upto_if 50 with fail
        obtain ⟨bb, hbb⟩ : ∃ bb, bb = decide ((X.length : Int) < 65536) := ⟨_, rfl⟩
        rw [← hbb]
        have HBB := Lib.hid hbb
        clear hbb
        go_cut [2] (fun a wx => ToldC B (.slice A1 X.length cap1) (tellT now' X t) wb a wx)
        case first =>
          cases bb with
          | true =>
            have hxl : X.length < 65536 := by have := HBB.out; simp at this; omega
            have HTE := Lib.hid (show tellT now' X t = X ++ [t.what] by unfold tellT; rw [if_pos ⟨HDD.out, hxl⟩])
            clear hxl
            go_wp2_with (at_builtin; refine wpl_app rfl el_intW (.tmp 51) (.tmp 54) rfl rfl rfl (Frm.row (Frm.alloc (Frm.refl (fun _ => False) wb) _) HROW.out (fun _ _ h => h)) (heap_new_at (by simp)) rfl (fun u hu => by simp at hu; subst hu; rfl) (by decide) (by have := HXL.out; unfold maxLen; omega) (by have := HXL.out; omega) (by have := HB2.out; simp; omega) ?_; intro g5 cap5 w5 hown5 hF5 hat5 hlt5; have HO5 := Lib.hid hown5; have HF5 := Lib.hid hF5; have HA5 := Lib.hid hat5; clear hown5 hF5 hat5)
            go_meet
            refine ⟨?_, ((Frm.refl (fun j => (Value.slice A1 X.length cap1).ownBlock = some j) wb).alloc _).trans' HF5.out, fun j hj => ?_⟩
            · rw [HTE.out]
              unfold RowI
              rw [List.length_append, List.length_singleton, List.map_append]
              exact HO5.out
            · simp only [Value.ownBlock, Option.some.injEq] at hj
              subst hj
              refine HA5.out.imp id (fun h => ?_)
              simp at h
              omega
          | false =>
            have hxl : ¬ X.length < 65536 := by have := HBB.out; simp at this; omega
            have HTE := Lib.hid (show tellT now' X t = X by unfold tellT; rw [if_neg (fun h => hxl h.2)])
            clear hxl
            go_wp2_with fail
            go_meet
            refine ⟨?_, Frm.refl _ _, fun j hj => .inl hj⟩
            rw [HTE.out]
            exact HROW.out
        case rest =>
          have HCT := Lib.hid hcut
          have hni : ∀ j cs tt, wb.heap[j]? = some (.cells cs tt (0, 0)) → tt ≠ 3 → ¬ (Value.slice A1 X.length cap1).ownBlock = some j := fun j cs tt hj ht e => by
            obtain ⟨cur, hc⟩ := HROW.out.blk e
            rw [hj] at hc
            cases hc
            exact ht rfl
          have hbc := HCT.out.frm.heap HBX.out (hni _ _ _ HBX.out (by decide))
          have y0 : wc.cell? ⟨wr.heap.size, 0, none⟩ = some (.int .i64 t.no) := cell_at hbc
          have y1 : wc.cell? ⟨wr.heap.size, 1, none⟩ = some (.int .u64 (t.due - now')) := cell_at hbc
          have y2 : wc.cell? ⟨wr.heap.size, 2, none⟩ = some (.int .u64 t.per) := cell_at hbc
          have y3 : wc.cell? ⟨wr.heap.size, 3, none⟩ = some (.int .i64 t.what) := cell_at hbc
          have yf := frees hbc
          have HBC := Lib.hid hbc
          have HNC : Hid (wc.ownsRow w.heap.size 165 4 (.slice A2 Y.length cap2) Y.length (cellsOf (encT now') Y)) := HCT.out.frm.row HNEW.out (fun j hj => by
            obtain ⟨_, cur, hc⟩ := row_block HNEW.out hj
            exact hni _ _ _ hc (by decide))
          have hzz := fun j hj => (HCT.out.blk j hj).imp id (fun h => Nat.le_trans (Nat.le_trans hws HWB.out.size) h)
          have HZZ := Lib.hid hzz
          clear hcut hbc hni hzz x0 x1 x2 x3 xf
          by_cases hper : 0 < t.per
          · have g6 : decide (0 < t.per) = true := by simp [hper]
            have HFT := Lib.hid (show fireT now' s.tm[k] = some ⟨t.no, t.due + t.per, t.per, t.what⟩ by rw [← HT.out]; unfold fireT; rw [if_pos HDD.out, if_pos hper])
            clear hper
            go_upto_region 14 with fail
            have hb7 : (wc.setCell ⟨wr.heap.size, 1, none⟩ (.int .u64 t.per)).heap[wr.heap.size]? = some (.cells #[.int .i64 t.no, .int .u64 t.per, .int .u64 t.per, .int .i64 t.what] 165 (0, 0)) := heap_set_at HBC.out rfl
            have hF7 : Frm (One wr.heap.size) wc (wc.setCell ⟨wr.heap.size, 1, none⟩ (.int .u64 t.per)) := Frm.set1 (Frm.refl (One wr.heap.size) wc) (o := 1) _
            obtain ⟨w7, hw7⟩ : ∃ w7, w7 = wc.setCell ⟨wr.heap.size, 1, none⟩ (.int .u64 t.per) := ⟨_, rfl⟩
            rw [← hw7] at hb7 hF7 ⊢
            have z0 : w7.cell? ⟨wr.heap.size, 0, none⟩ = some (.int .i64 t.no) := cell_at hb7
            have z1 : w7.cell? ⟨wr.heap.size, 1, none⟩ = some (.int .u64 t.per) := cell_at hb7
            have z2 : w7.cell? ⟨wr.heap.size, 2, none⟩ = some (.int .u64 t.per) := cell_at hb7
            have z3 : w7.cell? ⟨wr.heap.size, 3, none⟩ = some (.int .i64 t.what) := cell_at hb7
            have HN7 : Hid (w7.ownsRow w.heap.size 165 4 (.slice A2 Y.length cap2) Y.length (cellsOf (encT now') Y)) := hF7.row HNC.out (fun j hj e => by
              have e : j = wr.heap.size := e
              have := HVL.out j hj
              omega)
            have HF7 := Lib.hid hF7
            have HWC := Lib.hid (Nat.le_trans hws (Nat.le_trans HWB.out.size (Nat.le_trans HCT.out.frm.size hF7.size)))
            clear hw7 hb7 hF7 y0 y1 y2 y3 yf
            go_wp2_with (at_builtin; refine wpl_app_new rfl el_RT (.tmp 62) (.tmp 64) rfl rfl rfl rfl HN7.out rfl (fun u hu => by simp at hu; rcases hu with rfl | rfl | rfl | rfl <;> rfl) (by unfold maxLen; omega) (by omega) (by exact HWC.out) ?_; intro v5 w5 hown5 hF5; have HO5 := Lib.hid hown5; have HF5 := Lib.hid hF5; clear hown5 hF5)
            go_roundw
            case rel =>
              have hrow7 := HF7.out.row HCT.out.row (fun j hj e => by
                have e : j = wr.heap.size := e
                subst e
                obtain ⟨cur, hc⟩ := HCT.out.row.blk hj
                rw [HBC.out] at hc
                cases hc)
              have hrow5 := HF5.out.row hrow7 (fun j hj e => by
                obtain ⟨_, cur, hc⟩ := row_block hrow7 hj
                obtain ⟨_, cur2, hc2⟩ := row_block HN7.out e
                rw [hc] at hc2
                cases hc2)
              refine ⟨k + 1, HLT.out, by go_num, HIR.out.keep hkl HFT.out ?_ HZZ.out ?_ ?_⟩
              · rw [← HX.out, ← HT.out]
                exact hrow5
              · rw [← HY.out]
                have e : encT now' ⟨t.no, t.due + t.per, t.per, t.what⟩ = [.int .i64 t.no, .int .u64 t.per, .int .u64 t.per, .int .i64 t.what] := by
                  have := HDD.out
                  unfold encT
                  simp
                  omega
                rw [e]
                exact HO5.out
              · refine (((HWB.out.mono (fun _ _ h => h.elim)).trans HCT.out.frm (fun i hi e => .inl e)).trans HF7.out (fun i hi e => ?_)).trans HF5.out (fun i hi e => .inr e)
                have e : i = wr.heap.size := e
                omega
            case measure => have := HLT.out; simp [intOf]; omega
          · have g6 : decide (0 < t.per) = false := by simp [hper]
            have HFT := Lib.hid (show fireT now' s.tm[k] = none by rw [← HT.out]; unfold fireT; rw [if_pos HDD.out, if_neg hper])
            clear hper
            go_wp2_with fail
            go_roundw
            case rel =>
              refine ⟨k + 1, HLT.out, by go_num, HIR.out.gone hkl HFT.out ?_ HZZ.out ((HWB.out.mono (fun _ _ h => h.elim)).trans HCT.out.frm (fun i hi e => e))⟩
              rw [← HX.out, ← HT.out]
              exact HCT.out.row
            case measure => have := HLT.out; simp [intOf]; omega
    · obtain rfl : k = m := by omega
      have hkm : ¬ (k : Int) < (k : Int) := by omega
      go_wp2_with fail
      go_ret
      obtain ⟨ic, io, inw, ir, ifr, ib, iv⟩ := HIR.out
      have e1 : s.tm.take k = s.tm := List.take_of_length_le (by rw [← HM.out]; exact Nat.le_refl _)
      rw [e1] at inw ir ib ⊢
      rw [← HNW.out]
      have hF9 : Frm (One d) wr (wr.setCell ⟨d, 0, none⟩ (.slice A2 (s.tm.filterMap (fireT now')).length cap2)) := Frm.set1 (Frm.refl (One d) wr) (o := 0) _
      have hnd : ∀ j cs tt, wr.heap[j]? = some (.cells cs tt (0, 0)) → tt ≠ 115 → ¬ One d j := fun j cs tt hj ht e => by
        have e : j = d := e
        subst e
        rw [ic] at hj
        cases hj
        exact ht rfl
      have hnew2 := hF9.row inw (fun j hj => by obtain ⟨_, cur, hc⟩ := row_block inw hj; exact hnd _ _ _ hc (by decide))
      have hrow2 : RowI _ B _ _ := hF9.row ir (fun j hj => by obtain ⟨cur, hc⟩ := ir.blk hj; exact hnd _ _ _ hc (by decide))
      exact ⟨_, _, rfl, ⟨heap_set_at ic rfl, row_base hnew2 (Nat.zero_le _)⟩, hrow2, ifr.trans hF9 (fun _ _ e => .inl e), ib⟩
end Go.Proofs.Ytmkkeglcjbogcaa
namespace Go.Proofs.Ytmkkeglcjbogcaa
set_option linter.unusedVariables false

/-- Ticks as the document lets them go by: n are left. -/
def Wh.drun : Nat → Int → Wh → List Int → Wh × List Int
  | 0, _, s, told => (s, told)
  | f + 1, n, s, told =>
    if n ≤ 0 then (s, told)
    else
      let least := if s.next.2 = false ∨ n < s.next.1 then n else s.next.1
      let r := Wh.fires ⟨s.tm, s.now + least, s.last⟩ told
      Wh.drun f (n - least) r.1 r.2
theorem fires_none {s : Wh} (told : List Int) (h : ∀ t ∈ s.tm, t.due ≠ s.now) : s.fires told = (s, told) := by
  have h1 : ∀ (l : List Tm), (∀ t ∈ l, t.due ≠ s.now) → l.filterMap (fireT s.now) = l ∧ ∀ told, l.foldl (tellT s.now) told = told := by
    intro l hl
    induction l with
    | nil => exact ⟨rfl, fun _ => rfl⟩
    | cons x r ih =>
      obtain ⟨i1, i2⟩ := ih (fun t ht => hl t (List.mem_cons_of_mem _ ht))
      have hx := hl x (List.mem_cons_self ..)
      refine ⟨?_, fun told => ?_⟩
      · rw [List.filterMap_cons, show fireT s.now x = some x by unfold fireT; rw [if_neg hx]]
        simp only [i1]
      · rw [List.foldl_cons, show tellT s.now told x = told by unfold tellT; rw [if_neg (fun h => hx h.1)]]
        exact i2 told
  obtain ⟨h2, h3⟩ := h1 s.tm h
  unfold Wh.fires
  rw [h2, h3]
theorem drun_zero (f : Nat) (s : Wh) (told : List Int) : Wh.drun f 0 s told = (s, told) := by cases f <;> simp [Wh.drun]
theorem run_end {e : Int} (f : Nat) {s : Wh} (told : List Int) (h : s.ok) (he : e = s.now) : Wh.run e (f + 1) s told = (s, told) := by
  unfold Wh.run
  rw [if_pos]
  · rw [he]
  · cases hn : s.next.2 with
    | false => exact .inl rfl
    | true => exact .inr (by have := next_facts h hn; omega)
theorem drun_run (f g : Nat) (n : Int) (s : Wh) (told : List Int) (h : s.ok) (h0 : 0 ≤ n) (hf : n ≤ f) (hg : n < g) : Wh.drun f n s told = Wh.run (s.now + n) g s told := by
  induction f generalizing g n s told with
  | zero =>
    obtain rfl : n = 0 := by omega
    obtain ⟨g, rfl⟩ : ∃ g', g = g' + 1 := ⟨g - 1, by omega⟩
    rw [run_end g told h (by omega)]
    rfl
  | succ f ih =>
    obtain ⟨g, rfl⟩ : ∃ g', g = g' + 1 := ⟨g - 1, by omega⟩
    by_cases hn : n = 0
    · subst hn
      rw [run_end g told h (by omega)]
      exact drun_zero _ _ _
    have hq : ¬ n ≤ 0 := by omega
    unfold Wh.drun
    rw [if_neg hq]
    by_cases hc : s.next.2 = false ∨ n < s.next.1
    · simp only [if_pos hc, Int.sub_self]
      rw [drun_zero]
      have hno : ∀ t ∈ s.tm, t.due ≠ s.now + n := fun t ht e => by
        cases hx : s.next.2 with
        | false =>
          have : s.tm = [] := by
            unfold Wh.next at hx
            cases htm : s.tm with
            | nil => rfl
            | cons x r => rw [htm] at hx; cases hx
          rw [this] at ht; cases ht
        | true =>
          have h1 := (next_facts h hx).2.2 t ht
          rcases hc with hc | hc
          · rw [hx] at hc; cases hc
          · omega
      rw [fires_none told (s := ⟨s.tm, s.now + n, s.last⟩) hno]
      unfold Wh.run
      rw [if_pos (hc.imp id (fun h => by omega))]
    · simp only [if_neg hc]
      have hx : s.next.2 = true := by
        cases hx : s.next.2 with
        | true => rfl
        | false => exact absurd (.inl hx) hc
      have hl : s.next.1 ≤ n := Int.not_lt.1 (fun h => hc (.inr h))
      have h1 := next_facts h hx
      rw [ih g (n - s.next.1) _ _ (step_ok told h hx) (by omega) (by omega) (by omega)]
      conv => rhs; unfold Wh.run
      rw [if_neg (fun h => h.elim (fun h => by rw [hx] at h; cases h) (fun h => by omega))]
      have e : (Wh.fires ⟨s.tm, s.now + s.next.1, s.last⟩ told).1.now + (n - s.next.1) = s.now + n := by
        show s.now + s.next.1 + (n - s.next.1) = s.now + n
        omega
      rw [e]
end Go.Proofs.Ytmkkeglcjbogcaa
namespace Go.Proofs.Ytmkkeglcjbogcaa
open Go.RowKit
set_option linter.unusedVariables false
set_option linter.unusedSimpArgs false

def RTickPost (d : Nat) (r : Wh × List Int) (w : World) (e : Ending) (w' : World) : Prop :=
  ∃ v vl, e = .returned v ∧ RWAt w' d vl r.1 ∧ RowI w' w.heap.size v r.2 ∧ Frm (One d) w w'
structure RTickI (d : Nat) (en : Int) (r : Wh × List Int) (w : World) (f : Nat) (m : Int) (s : Wh) (told : List Int) (v vl : Value) (wr : World) : Prop where
  whl : RWAt wr d vl s
  ok : s.ok
  m0 : 0 ≤ m ∧ m ≤ 1048576
  now : s.now + m = en
  run : Wh.drun f m s told = r
  fuel : m ≤ f
  row : RowI wr w.heap.size v told
  len : told.length ≤ 65536
  frm : Frm (One d) w wr
/-- One step. -/
def Wh.step (m : Int) (s : Wh) : Int := if s.next.2 = false ∨ m < s.next.1 then m else s.next.1
theorem step_facts {m : Int} {s : Wh} (h : s.ok) (hm : 0 < m) : 1 ≤ s.step m ∧ s.step m ≤ m ∧ (∀ t ∈ s.tm, s.now + s.step m ≤ t.due) ∧ ∀ told, (Wh.fires ⟨s.tm, s.now + s.step m, s.last⟩ told).1.ok := by
  unfold Wh.step
  by_cases hc : s.next.2 = false ∨ m < s.next.1
  · rw [if_pos hc]
    have hok := stop_ok h (e := s.now + m) (by omega) (hc.imp id (fun h => by omega))
    have hd : ∀ t ∈ s.tm, s.now + m < t.due := fun t ht => (hok.due t ht).1
    refine ⟨by omega, Int.le_refl _, fun t ht => by have := hd t ht; omega, fun told => ?_⟩
    rw [fires_none told (s := ⟨s.tm, s.now + m, s.last⟩) (fun t ht => by have := hd t ht; show t.due ≠ s.now + m; omega)]
    exact hok
  · rw [if_neg hc]
    have hx : s.next.2 = true := by
      cases hx : s.next.2 with
      | true => rfl
      | false => exact absurd (.inl hx) hc
    have h1 := next_facts h hx
    exact ⟨h1.1, Int.not_lt.1 (fun h => hc (.inr h)), h1.2.2, fun told => step_ok told h hx⟩
theorem drun_step {f : Nat} {m : Int} {s : Wh} {told : List Int} (hm : 0 < m) : Wh.drun (f + 1) m s told = Wh.drun f (m - s.step m) (Wh.fires ⟨s.tm, s.now + s.step m, s.last⟩ told).1 (Wh.fires ⟨s.tm, s.now + s.step m, s.last⟩ told).2 := by
  rw [Wh.drun, if_neg (by omega)]
  rfl
set_option maxRecDepth 100000 in
set_option maxHeartbeats 2000000 in
theorem rwtick_any (w : World) (d : Nat) (v : Value) (s : Wh) (x : Int) (h : RWAt w d v s) (hs : s.fits) (hx : 0 ≤ x) : Calls Try.prog 86 #[ptrW d, .int .u64 x] w (RTickPost d (s.tick x) w) := by
  obtain ⟨en, hen⟩ : ∃ en, en = s.now + min x 1048576 := ⟨_, rfl⟩
  have hw0 := hs.ok.now
  have hw1 := hs.now
  have hen2 : en ≤ 4611686018428436480 := by omega
  have HRN := Lib.hid (drun_run 1048576 1048577 (min x 1048576) s [] hs.ok (by omega) (by omega) (by omega))
  have H := Lib.hid h
  have HS := Lib.hid hs
  obtain ⟨y, hy⟩ : ∃ y, y = min x 1048576 := ⟨_, rfl⟩
  have HRN2 : Hid (Wh.drun 1048576 y s [] = s.tick x) := by unfold Hid; rw [hy]; exact HRN.out
  have HI : ∀ wr : World, wr = w.alloc (.cells #[] 3) → Hid (RTickI d en (s.tick x) w 1048576 y s [] (.slice (some ⟨w.heap.size, 0, none⟩) 0 0) v wr) := fun wr e => by
    subst e
    exact ⟨H.out.grow ((Frm.refl _ _).alloc _), HS.out.ok, ⟨by omega, by omega⟩, by rw [hen, hy], HRN2.out, by omega, empty_row w _ _ _ (Nat.le_refl _), Nat.zero_le _, (Frm.refl _ _).alloc _⟩
  have HI1 := Lib.hid (HI _ rfl).out
  have HY := Lib.hid hy
  unfold ptrW
  generalize s.tick x = r at *
  clear h hs hen HI hw1 hw0
  have hcase : (x ≤ 1048576 ∧ y = x) ∨ (1048576 < x ∧ y = 1048576) := by omega
  clear hy
  go_enter Try.func86, Try.ntmps86
  have hfin : ∃ gx : Bool, decide (1048576 < x) = gx ∧ y = if gx then 1048576 else x := ⟨_, rfl, by
    by_cases h9 : 1048576 < x
    · rw [if_pos (by simpa using h9)]; omega
    · rw [if_neg (by simpa using h9)]; omega⟩
  obtain ⟨gx, g1, hyx⟩ := hfin
  clear hcase
  cases gx
  all_goals
    simp only [if_true, if_false, Bool.false_eq_true] at hyx
    subst hyx
    go_wp2_with fail
    try go_frame
    go_loopw [1, 5] (fun a b wr => ∃ (f : Nat) (m : Int) (s' : Wh) (told : List Int) (vl : Value), a = .int .u64 m ∧ RTickI d en r w f m s' told b vl wr) (fun a _ _ => (intOf a).toNat)
    case atStart => exact ⟨_, _, _, _, _, rfl, HI1.out⟩
    case round =>
      obtain ⟨f, m, s', told, vl, rfl, hI⟩ := hrel
      have HIR := Lib.hid hI
      obtain ⟨A1, cap1, rfl, hd1, hd2, -⟩ := row_open hI.row
      obtain ⟨hm0, hm1⟩ := hI.m0
      have hen3 := hI.now
      by_cases hm : 0 < m
      · obtain ⟨q1, q2, q3, q4⟩ := step_facts hI.ok hm
        have HNX := Lib.hid (rwnext_any wr d vl s' hI.whl)
        have HPS := Lib.hid (fun W (hF : Frm (fun _ => False) wr W) => rwpass_any W d vl (.slice A1 told.length cap1) s' (s'.step m) w.heap.size told (hI.whl.grow hF) (hF.row hI.row (fun _ _ h => h)) (Nat.le_trans hI.frm.size hF.size) hI.len hI.ok (by omega) q3 (by omega))
        obtain ⟨le, an, hna⟩ : ∃ le an, s'.next = (le, an) := ⟨_, _, rfl⟩
        obtain ⟨st, hst⟩ : ∃ st, st = s'.step m := ⟨_, rfl⟩
        rw [← hst] at HPS q1 q2
        have hst2 : st = if an = false ∨ m < le then m else le := by rw [hst]; unfold Wh.step; rw [hna]
        have HST := Lib.hid hst
        have HQ4 := Lib.hid q4
        rw [hna] at HNX
        unfold ptrW at HNX HPS
        have qw : IntKind.u64.wrap (m - st) = m - st := IntWalk.u64_in _ (by omega)
        have hmg : decide (0 < m) = true := by simp [hm]
        have HHM := Lib.hid hm
        have hcs : ∃ (c2 : Bool), decide (m < le) = c2 ∧ st = if (!an || c2) = true then m else le := ⟨_, rfl, by
          rw [hst2]
          cases an with
          | false => simp
          | true =>
            by_cases h8 : m < le
            · simp [h8]
            · simp [h8]⟩
        obtain ⟨c2, hc2, hst3⟩ := hcs
        clear hst hst2 hna q3 q4 hI hm
        cases an
        all_goals
          cases c2
        all_goals
          simp only [Bool.not_false, Bool.not_true, Bool.or_true, Bool.or_false, Bool.true_or, Bool.false_or, if_true, if_false, Bool.false_eq_true] at hst3
          subst hst3
          go_wp2_with (first | (go_at_call 88; refine HNX.out.mono ?_; rintro e w2 ⟨rfl, hF2⟩; have HP2 := Lib.hid (HPS.out w2 hF2); have HF2 := Lib.hid hF2; clear hF2) | (go_at_call 112; refine HP2.out.mono ?_; rintro e w3 ⟨v3, vl3, rfl, hA3, hr3, hF3, hb3⟩; have HA3 := Lib.hid hA3; have HR3 := Lib.hid hr3; have HF3 := Lib.hid hF3; clear hA3 hr3 hF3 hb3))
          go_roundw
          case rel =>
            have hI := HIR.out
            have hf : ∃ g, f = g + 1 := ⟨f - 1, by have := hI.fuel; omega⟩
            obtain ⟨g, rfl⟩ := hf
            have hr := hI.run
            rw [drun_step HHM.out, ← HST.out] at hr
            try rw [Int.sub_self] at hr
            have hok := HQ4.out told
            rw [← HST.out] at hok
            refine ⟨g, _, _, _, _, rfl, HA3.out, hok, ⟨by omega, by omega⟩, ?_, hr, by have := hI.fuel; omega, HR3.out, tell_len _ _ _ hI.len, ?_⟩
            · show s'.now + _ + _ = en
              omega
            · refine (hI.frm.trans HF2.out (fun _ _ h => h.elim)).trans HF3.out (fun i hi e => ?_)
              rcases e with e | e
              · exact e
              · have := (row_block hI.row e).1
                omega
          case measure => simp [intOf]; omega
      · obtain rfl : m = 0 := by omega
        go_wp2_with fail
        go_ret
        have hr := HIR.out.run
        rw [drun_zero] at hr
        subst hr
        exact ⟨_, _, rfl, HIR.out.whl, HIR.out.row, HIR.out.frm⟩
end Go.Proofs.Ytmkkeglcjbogcaa
namespace Go.Proofs.Ytmkkeglcjbogcaa
open Go.RowKit
set_option linter.unusedVariables false
set_option linter.unusedSimpArgs false

theorem wleft_any (w : World) (p n bw : Nat) (bs : List Nat) (s : Wh) (x : Int) (h : WhAt w p n bw bs s) (hs : s.fits) : Calls Try.prog 52 #[ptrW p, .int .i64 x] w fun e w' => e = .returned (.tuple #[.int .u64 (s.left x).1, .bool (s.left x).2]) ∧ Frm (fun _ => False) w w' := by
  by_cases hx : ∃ t ∈ s.tm, t.no = x
  · obtain ⟨t, ht, rfl⟩ := hx
    have h1 := hs.ok.due t ht
    rw [left_hit hs.ok ht]
    exact wleft_hit w p n bw bs s t h ht (by omega) (by omega)
  · have hno : ∀ t ∈ s.tm, t.no ≠ x := fun t ht e => hx ⟨t, ht, e⟩
    rw [left_miss hno]
    refine (wleft_miss w p n bw bs s x h hno).mono ?_
    rintro e w' ⟨rfl, rfl⟩
    exact ⟨rfl, Frm.refl _ _⟩
set_option maxRecDepth 100000 in
theorem wNext_any (w : World) (p n bw : Nat) (bs : List Nat) (s : Wh) (h : WhAt w p n bw bs s) (hs : s.fits) : Calls Try.prog 87 #[ptrW p] w (NextPost s w) := by
  have H := Lib.hid (wnext_any w p n bw bs s h hs.ok (by have := hs.now; omega))
  unfold NextPost at *
  obtain ⟨le, an, hna⟩ : ∃ le an, s.next = (le, an) := ⟨_, _, rfl⟩
  rw [hna] at H ⊢
  unfold ptrW at *
  clear h hs hna
  go_enter Try.func87, Try.ntmps87
  go_wp2_with (go_at_call 81; refine H.out.mono ?_; rintro e w2 ⟨rfl, hF2⟩)
  go_ret2
  exact ⟨rfl, hF2⟩
def BoolPost (w : World) (e : Ending) (w' : World) : Prop := ∃ b, e = .returned (.bool b) ∧ w = w'
set_option maxRecDepth 100000 in
set_option maxHeartbeats 1000000 in
theorem wcalm_any (w : World) (d : Nat) (v : Value) (s : Wh) (h : RWAt w d v s) : Calls Try.prog 53 #[ptrW d] w (BoolPost w) := by
  obtain ⟨A, cap, rfl, hc1, hc2, hcl⟩ := h.open_
  have k0 : w.cell? ⟨d, 0, none⟩ = some (.slice A s.tm.length cap) := cell_at h.cell
  obtain ⟨n, hn⟩ : ∃ n, n = s.tm.length := ⟨_, rfl⟩
  rw [← hn] at k0 hc1
  have hnm : n ≤ 9223372036854775807 := by unfold maxLen at hc2; omega
  have HN := Lib.hid hn
  have HCL := Lib.hid hcl
  unfold ptrW
  clear hcl hn h hc1 hc2
  go_enter Try.func53, Try.ntmps53
  go_wp2_with fail
  try go_frame
  go_loop [3] (fun i => ∃ k : Nat, k ≤ n ∧ i = .int .i64 k) (fun i => n - (intOf i).toNat)
  case atStart => exact ⟨0, Nat.zero_le _, rfl⟩
  case round =>
    obtain ⟨k, hk, rfl⟩ := hrel
    by_cases hlt : k < n
    · have hkl : k < s.tm.length := by rw [← HN.out]; exact hlt
      obtain ⟨g, rfl, hc⟩ := HCL.out (by omega)
      have c2 := (hc k hkl).2.2.1
      obtain ⟨y, hy⟩ : ∃ y, y = s.tm[k].per := ⟨_, rfl⟩
      rw [← hy] at c2
      have hkn : (k : Int) < (n : Int) := by omega
      clear hc hy
      by_cases h1 : 0 < y
      · have g1 : decide (0 < y) = true := by simp [h1]
        by_cases h2 : y < 100
        · have g2 : decide (y < 100) = true := by simp [h2]
          clear h1 h2
          go_wp2_with fail
          go_ret
          exact ⟨_, rfl, rfl⟩
        · have g2 : decide (y < 100) = false := by simp [h2]
          clear h1 h2
          go_wp2_with fail
          go_round
          case rel => exact ⟨k + 1, hlt, by go_num⟩
          case measure => simp [intOf]; omega
      · have g1 : decide (0 < y) = false := by simp [h1]
        clear h1
        go_wp2_with fail
        go_round
        case rel => exact ⟨k + 1, hlt, by go_num⟩
        case measure => simp [intOf]; omega
    · obtain rfl : k = n := by omega
      have hkn : ¬ (k : Int) < (k : Int) := by omega
      go_wp2_with fail
      go_ret
      exact ⟨_, rfl, rfl⟩
/-- The program's wheel and the document's, at one state, in new blocks. -/
structure DuoR (W wr : World) (p n bw : Nat) (bs : List Nat) (d : Nat) (v : Value) (s : Wh) : Prop where
  a1 : WhAt wr p n bw bs s
  a2 : RWAt wr d v s
  lo1 : ∀ k, WhS p bw bs k → W.heap.size ≤ k
  lo2 : W.heap.size ≤ d
  frm : Frm (fun _ => False) W wr
theorem DuoR.grow {W wr w2 : World} {p n bw : Nat} {bs : List Nat} {d : Nat} {v : Value} {s : Wh} (h : DuoR W wr p n bw bs d v s) (hF : Frm (fun _ => False) wr w2) : DuoR W w2 p n bw bs d v s :=
  ⟨h.a1.grow hF, h.a2.grow hF, h.lo1, h.lo2, h.frm.trans' hF⟩
theorem DuoR.one {W wr w2 : World} {p n bw : Nat} {bs : List Nat} {d : Nat} {v : Value} {s : Wh} (h : DuoR W wr p n bw bs d v s) (hF : Frm (WhS p bw bs) wr w2) : RWAt w2 d v s :=
  h.a2.frm hF (h.a1.row_not h.a2.cell (by decide)) (fun k hk => by obtain ⟨_, cur, hc⟩ := row_block h.a2.row hk; exact h.a1.row_not hc (by decide))
theorem DuoR.two {W wr w2 w3 : World} {p n bw : Nat} {bs : List Nat} {d : Nat} {v v' : Value} {s s' : Wh} (h : DuoR W wr p n bw bs d v s) (h1 : WhAt w2 p n bw bs s') (hF : Frm (WhS p bw bs) wr w2) (h2 : RWAt w3 d v' s') (hG : Frm (One d) w2 w3) : DuoR W w3 p n bw bs d v' s' := by
  have hc := (h.one hF).cell
  refine ⟨h1.frm hG (fun k hk e => ?_) (fun k cur hk e => ?_), h2, h.lo1, h.lo2, (h.frm.trans hF (fun i hi e => ?_)).trans hG (fun i hi e => ?_)⟩
  · have e : k = d := e
    subst e
    exact h1.row_not hc (by decide) hk
  · have e : k = d := e
    subst e
    rw [hc] at hk
    cases hk
  · have := h.lo1 i e; omega
  · have e : i = d := e
    have := h.lo2
    omega
end Go.Proofs.Ytmkkeglcjbogcaa
