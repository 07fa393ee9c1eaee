/-
  The wheel: in how many ticks the next timer runs out. The wheel: adds, Add, Every. The wheel: ticks go by. A new wheel. The wheel's laws: two lists told are the same; lives.
-/
import Derived.Test.YtmkkeglcjbogcaaMc1e7d997
import Derived.Test.YtmkkeglcjbogcaaM915ebada
set_option linter.unusedVariables false
set_option linter.unusedSimpArgs false
namespace Go.Proofs.Ytmkkeglcjbogcaa
open Go.RowKit Go.ChangeMaps Go.MapKept
open List (getElem_toArray getElem_cons_zero getElem_cons_succ setIfInBounds_toArray set_cons_zero set_cons_succ)
set_option linter.unusedVariables false
set_option linter.unusedSimpArgs false

theorem nodup_inj {α β : Type} {f : α → β} {l : List α} (h : (l.map f).Nodup) {x y : α} (hx : x ∈ l) (hy : y ∈ l) (e : f x = f y) : x = y := by
  obtain ⟨i, hi, rfl⟩ := List.getElem_of_mem hx
  obtain ⟨j, hj, rfl⟩ := List.getElem_of_mem hy
  have : i = j := nodup_at h (i := i) (k := j) (by simpa using hi) (by simpa using hj) (by simpa using e)
  subst this
  rfl
/-- How many are left of a range. -/
def itLeftM (w : World) (M r : Nat) : Nat := match w.heap[M]?, w.heap[r]? with
  | some (.map es _), some (.mapIter _ _ seen _) => (leftOf es seen).toList.length
  | _, _ => 0
theorem IterB.leftM {w : World} {M r : Nat} {m left : List (Value × Value)} (h : IterB w M r m left) : itLeftM w M r = left.length := by
  obtain ⟨es, c, seen, h1, _, _, _, h5, h6⟩ := h
  unfold itLeftM
  rw [h1, h5, h6]
  simp
theorem IterB.sub_ {w : World} {M r : Nat} {m left : List (Value × Value)} (h : IterB w M r m left) : ∀ q ∈ left, q ∈ m := by
  obtain ⟨es, c, seen, _, h2, _, _, _, h6⟩ := h
  intro q hq
  rw [h6] at hq
  obtain ⟨x, hx, rfl⟩ := List.mem_map.1 hq
  rw [← h2]
  refine List.mem_map.2 ⟨x, ?_, rfl⟩
  unfold leftOf at hx
  simp at hx
  simpa using hx.1
/-- The least of what has been met. -/
def LeastOf (s : Wh) (m left : List (Value × Value)) (least : Int) (any : Bool) : Prop :=
  (any = false ∧ left = m ∧ least = 0) ∨ (any = true ∧ (∃ t ∈ s.tm, t.due - s.now = least) ∧ ∀ t ∈ s.tm, (∃ v, (keyI t.no, v) ∈ left) ∨ least ≤ t.due - s.now)
theorem least_eq {l : List Int} {x : Int} (hx : x ∈ l) (h : ∀ y ∈ l, x ≤ y) : leastL l = (x, true) := by
  have hne : l ≠ [] := fun e => by rw [e] at hx; cases hx
  obtain ⟨a1, a2⟩ := leastL_mem l hne
  refine Prod.ext (Int.le_antisymm (a2 x hx) (h _ a1)) ?_
  cases l with
  | nil => exact absurd rfl hne
  | cons y r => rfl
theorem LeastOf.done {s : Wh} {m : List (Value × Value)} {least : Int} {any : Bool} (h : LeastOf s m [] least any) (hm : m.length = s.tm.length) : s.next = (least, any) := by
  rcases h with ⟨rfl, rfl, rfl⟩ | ⟨rfl, ⟨t, ht, rfl⟩, h3⟩
  · have : s.tm = [] := List.eq_nil_of_length_eq_zero hm.symm
    unfold Wh.next
    rw [this]
    rfl
  · refine least_eq (List.mem_map.2 ⟨t, ht, rfl⟩) (fun y hy => ?_)
    obtain ⟨u, hu, rfl⟩ := List.mem_map.1 hy
    rcases h3 u hu with ⟨v, hv⟩ | h
    · cases hv
    · exact h
theorem LeastOf.step {s : Wh} {m left left' : List (Value × Value)} {least : Int} {any : Bool} {t : Tm} {v : Value} (h : LeastOf s m left least any) (ht : t ∈ s.tm) (hnd : (s.tm.map (·.no)).Nodup) (hmem : ∀ u ∈ s.tm, ∃ v, (keyI u.no, v) ∈ m) (hall : ∀ q ∈ left, q ∈ left' ∨ q = (keyI t.no, v)) {c : Bool} (hc : c = (!any || decide (t.due - s.now < least))) :
    LeastOf s m left' (if c = true then t.due - s.now else least) true := by
  have hno : ∀ u ∈ s.tm, (∃ v', (keyI u.no, v') ∈ left) → (∃ v', (keyI u.no, v') ∈ left') ∨ u = t := fun u hu ⟨v', hv⟩ => by
    rcases hall _ hv with h1 | h1
    · exact .inl ⟨v', h1⟩
    · right
      simp only [Prod.mk.injEq, keyI, Value.int.injEq, true_and] at h1
      exact nodup_inj (f := (·.no)) hnd hu ht h1.1
  right
  refine ⟨rfl, ?_, fun u hu => ?_⟩
  · split
    · exact ⟨t, ht, rfl⟩
    · rename_i hn
      rcases h with ⟨rfl, _, _⟩ | ⟨rfl, h2, _⟩
      · simp [hc] at hn
      · exact h2
  · rcases h with ⟨rfl, rfl, _⟩ | ⟨rfl, _, h3⟩
    · have hcc : c = true := by rw [hc]; rfl
      rw [if_pos hcc]
      rcases hno u hu (hmem u hu) with h1 | rfl
      · exact .inl h1
      · exact .inr (Int.le_refl _)
    · rcases h3 u hu with h1 | h1
      · rcases hno u hu h1 with h2 | rfl
        · exact .inl h2
        · right
          split
          · exact Int.le_refl _
          · rename_i hn
            simp [hc] at hn
            omega
      · right
        split
        · rename_i hn
          simp [hc] at hn
          omega
        · exact h1
def NextPost (s : Wh) (w : World) (e : Ending) (w' : World) : Prop := e = .returned (.tuple #[.int .u64 s.next.1, .bool s.next.2]) ∧ Frm (fun _ => False) w w'
set_option maxRecDepth 100000 in
set_option maxHeartbeats 1000000 in
theorem wnext_any (w : World) (p n bw : Nat) (bs : List Nat) (s : Wh) (h0 : WhAt w p n bw bs s) (hok : s.ok) (hnow : s.now ≤ 4611686022722355200) : Calls Try.prog 81 #[ptrW p] w (NextPost s w) := by
  obtain ⟨g, cap, O⟩ := h0.open_
  have hcap := O.le.1
  have hn9 : n ≤ 4096 := h0.pos.2
  have k0 : w.cell? ⟨p, 0, none⟩ = some (.slice (some ⟨g, 0, none⟩) n cap) := cell_at O.hp
  have k1 : w.cell? ⟨p, 1, none⟩ = some (.map (some bw)) := cell_at O.hp
  have k2 : w.cell? ⟨p, 2, none⟩ = some (.int .u64 s.now) := cell_at O.hp
  have HKG := Lib.hid O.at_
  have K0 := Lib.hid k0
  have K2 := Lib.hid k2
  obtain ⟨m', hperm, hB⟩ := h0.wher
  have HB := Lib.hid hB
  have HPM := Lib.hid hperm
  have HND := Lib.hid h0.nd
  have H0 := Lib.hid h0
  have HOK := Lib.hid hok
  have hml : m'.length = s.tm.length := by have := hperm.length_eq; simpa using this
  have HML := Lib.hid hml
  have HMM : Hid (∀ u ∈ s.tm, ∃ v, (keyI u.no, v) ∈ m') := fun u hu => ⟨_, hperm.mem_iff.2 (List.mem_map.2 ⟨u, hu, rfl⟩)⟩
  have hw0 := hok.now
  unfold ptrW
  clear O k0 k2 hperm hB h0 hok hml
  go_enter Try.func81, Try.ntmps81
  go_wp2_with (at_range; refine wpl_range rfl (.tmp 12) rfl Try.underlying154 HB.out rfl ?_; intro w4 hit4 hF4 hs4)
  try go_frame
  have HIT4 := Lib.hid hit4
  have HF4 := Lib.hid hF4
  clear hit4 hF4 hs4 HB k1
  go_loopw [4, 5] (fun a b wr => ∃ (left : List (Value × Value)) (least : Int) (any : Bool), a = .int .u64 least ∧ b = .bool any ∧ IterB wr bw w.heap.size m' left ∧ LeastOf s m' left least any ∧ Frm (fun _ => False) w wr) (fun _ _ wr => itLeftM wr bw w.heap.size)
  case atStart => exact ⟨m', 0, false, rfl, rfl, HIT4.out, .inl ⟨rfl, rfl, rfl⟩, HF4.out⟩
  case round =>
    obtain ⟨left, least, any, rfl, rfl, hit, hlo, hFr⟩ := hrel
    have HITR := Lib.hid hit
    have HLO := Lib.hid hlo
    have HFR := Lib.hid hFr
    clear hit hlo hFr
    go_wp2_with (at_next; refine wpl_next rfl (.tmp 13) rfl rfl HITR.out ?_ ?_)
    · intro hl0
      subst hl0
      have HD := Lib.hid (HLO.out.done HML.out)
      go_wp2_with fail
      go_ret2
      unfold NextPost
      rw [HD.out]
      exact ⟨rfl, HFR.out⟩
    · intro kv vv left' w5 hmem hit5 hlt hall hsub hF5 hen
      obtain ⟨t, ht, e⟩ := List.mem_map.1 (HPM.out.mem_iff.1 (HITR.out.sub_ _ hmem))
      obtain ⟨i, hi, hin, hib⟩ := H0.out.slot_lt t.due
      rw [hi] at e
      simp only [Prod.mk.injEq] at e
      obtain ⟨rfl, rfl⟩ := e
      unfold keyI at hen hall
      have hds := HOK.out.due t ht
      have hw5 : Frm (fun _ => False) w w5 := HFR.out.trans hF5 (fun j hj h => by simp only [One] at h; omega)
      have HW5 := Lib.hid hw5
      have HIT5 := Lib.hid hit5
      have HKI := HKG.out i hib
      have HCC := Lib.hid (fun W (hF : Frm (fun _ => False) w W) => (⟨hF.cell K0.out (fun h => h), hF.cell K2.out (fun h => h), hF.cell HKI (fun h => h), by
        have := ((H0.out.slot i hib).frm hF (fun h => h)).hit (P := Try.prog) (k := 3) (t := 158) (n := t.no) (v := tmV t) Try.underlying3 Try.underlying158 (List.mem_map.2 ⟨t, List.mem_filter.2 ⟨ht, by simp [hi]⟩, rfl⟩) false
        exact this⟩ : W.cell? ⟨p, 0, none⟩ = some (.slice (some ⟨g, 0, none⟩) n cap) ∧ W.cell? ⟨p, 2, none⟩ = some (.int .u64 s.now) ∧ W.cell? ⟨g, i, none⟩ = some (.map (some bs[i])) ∧ (Instr.lookup 158 (.map (some bs[i])) (.int .i64 t.no) false).run Try.prog W = .ok (.agg #[.int .u64 t.due, .int .u64 t.per, .int .i64 t.what]) W))
      have hin2 : (i : Int) < n := by omega
      have hfd := fun W => field_due (.int .u64 t.due) (.int .u64 t.per) (.int .i64 t.what) W
      have HLT := Lib.hid (HIT5.out.leftM)
      have HST := Lib.hid (fun c (hc : c = (!any || decide (t.due - s.now < least))) => HLO.out.step ht HND.out HMM.out (left' := left') (v := .int .i64 i) (fun q hq => (hall q.1 q.2 hq).imp id (fun h => Prod.ext h.1 h.2)) hc)
      have HLL := Lib.hid hlt
      obtain ⟨x, hx⟩ : ∃ x, x = t.due - s.now := ⟨_, rfl⟩
      have q1 : IntKind.u64.wrap (t.due - s.now) = x := by rw [hx]; exact IntWalk.u64_in _ (by omega)
      rw [← hx] at HST
      have HX := Lib.hid hx
      clear hmem hit5 hall hsub hF5 hi HKI hlt hw5 hds hx
      go_wp2_with fail
      refine wp_region_held_drew (S := fun W => Frm (fun _ => False) w5 W) (by kernel_rfl) ((Frm.refl _ _).drew) (fun hHeld => ?_)
      refine wpAnyH_take (i := 0) (v := ?_) rfl (by kernel_rfl) (by kernel_rfl) (by kernel_rfl) (fun _ _ _ h => h) (Or.inl ⟨by rfl, ?_⟩) (by assumption) ?_; rotate_left; · (intro wq hSq; have hq := (fun W h => HCC.out W (HW5.out.trans' h)) wq hSq; go_split_ands; go_simp; (try with_reducible rfl))
      try simp only [Act.put, getElem_toArray, getElem_cons_zero, getElem_cons_succ, setIfInBounds_toArray, set_cons_zero, set_cons_succ]
      refine wpAnyH_take (i := 1) (v := ?_) rfl (by kernel_rfl) (by kernel_rfl) (by kernel_rfl) (fun _ _ _ h => h) (Or.inl ⟨by rfl, ?_⟩) (by assumption) ?_; rotate_left; · (intro wq hSq; have hq := (fun W h => HCC.out W (HW5.out.trans' h)) wq hSq; go_split_ands; go_simp; (try with_reducible rfl))
      try simp only [Act.put, getElem_toArray, getElem_cons_zero, getElem_cons_succ, setIfInBounds_toArray, set_cons_zero, set_cons_succ]
      refine wpAnyH_take (i := 2) (v := ?_) rfl (by kernel_rfl) (by kernel_rfl) (by kernel_rfl) (fun _ _ _ h => h) (Or.inl ⟨by rfl, ?_⟩) (by assumption) ?_; rotate_left; · (intro wq hSq; have hq := (fun W h => HCC.out W (HW5.out.trans' h)) wq hSq; go_split_ands; go_simp; (try with_reducible rfl))
      try simp only [Act.put, getElem_toArray, getElem_cons_zero, getElem_cons_succ, setIfInBounds_toArray, set_cons_zero, set_cons_succ]
      refine wpAnyH_take (i := 3) (v := ?_) rfl (by kernel_rfl) (by kernel_rfl) (by kernel_rfl) (fun _ _ _ h => h) (Or.inl ⟨by rfl, ?_⟩) (by assumption) ?_; rotate_left; · (intro wq hSq; have hq := (fun W h => HCC.out W (HW5.out.trans' h)) wq hSq; go_split_ands; go_simp; (try with_reducible rfl))
      try simp only [Act.put, getElem_toArray, getElem_cons_zero, getElem_cons_succ, setIfInBounds_toArray, set_cons_zero, set_cons_succ]
      refine wpAnyH_take (i := 4) (v := ?_) rfl (by kernel_rfl) (by kernel_rfl) (by kernel_rfl) (fun _ _ _ h => h) (Or.inl ⟨by rfl, ?_⟩) (by assumption) ?_; rotate_left; · (intro wq hSq; have hq := (fun W h => HCC.out W (HW5.out.trans' h)) wq hSq; go_split_ands; go_simp; (try with_reducible rfl))
      try simp only [Act.put, getElem_toArray, getElem_cons_zero, getElem_cons_succ, setIfInBounds_toArray, set_cons_zero, set_cons_succ]
      refine wpAnyH_take (i := 5) (v := ?_) rfl (by kernel_rfl) (by kernel_rfl) (by kernel_rfl) (fun _ _ _ h => h) (Or.inl ⟨by rfl, ?_⟩) (by assumption) ?_; rotate_left; · (intro wq hSq; have hq := (fun W h => HCC.out W (HW5.out.trans' h)) wq hSq; go_split_ands; go_simp; (try with_reducible rfl))
      try simp only [Act.put, getElem_toArray, getElem_cons_zero, getElem_cons_succ, setIfInBounds_toArray, set_cons_zero, set_cons_succ]
      refine wpAnyH_take (i := 6) (v := ?_) rfl (by kernel_rfl) (by kernel_rfl) (by kernel_rfl) (fun _ _ _ h => h) (Or.inl ⟨by rfl, ?_⟩) (by assumption) ?_; rotate_left; · (intro wq hSq; have hq := (fun W h => HCC.out W (HW5.out.trans' h)) wq hSq; go_split_ands; go_simp; (try with_reducible rfl))
      try simp only [Act.put, getElem_toArray, getElem_cons_zero, getElem_cons_succ, setIfInBounds_toArray, set_cons_zero, set_cons_succ]
      refine wpAnyH_take (i := 7) (v := ?_) rfl (by kernel_rfl) (by kernel_rfl) (by kernel_rfl) (fun _ _ _ h => h) (Or.inl ⟨by rfl, ?_⟩) (by assumption) ?_; rotate_left; · (intro wq hSq; have hq := (fun W h => HCC.out W (HW5.out.trans' h)) wq hSq; go_split_ands; go_simp; (try with_reducible rfl))
      try simp only [Act.put, getElem_toArray, getElem_cons_zero, getElem_cons_succ, setIfInBounds_toArray, set_cons_zero, set_cons_succ]
      refine wpAnyH_take (i := 8) (v := ?_) rfl (by kernel_rfl) (by kernel_rfl) (by kernel_rfl) (fun _ _ _ h => h) (Or.inl ⟨by rfl, ?_⟩) (by assumption) ?_; rotate_left; · (intro wq hSq; have hq := (fun W h => HCC.out W (HW5.out.trans' h)) wq hSq; go_split_ands; go_simp; (try with_reducible rfl))
      try simp only [Act.put, getElem_toArray, getElem_cons_zero, getElem_cons_succ, setIfInBounds_toArray, set_cons_zero, set_cons_succ]
      refine wpAnyH_take (i := 9) (v := ?_) rfl (by kernel_rfl) (by kernel_rfl) (by kernel_rfl) (fun _ _ _ h => h) (Or.inl ⟨by rfl, ?_⟩) (by assumption) ?_; rotate_left; · (intro wq hSq; have hq := (fun W h => HCC.out W (HW5.out.trans' h)) wq hSq; go_split_ands; go_simp; (try with_reducible rfl))
      try simp only [Act.put, getElem_toArray, getElem_cons_zero, getElem_cons_succ, setIfInBounds_toArray, set_cons_zero, set_cons_succ]
      refine wpAnyH_take (i := 10) (v := ?_) rfl (by kernel_rfl) (by kernel_rfl) (by kernel_rfl) (fun _ _ _ h => h) (Or.inl ⟨by rfl, ?_⟩) (by assumption) ?_; rotate_left; · (intro wq hSq; have hq := (fun W h => HCC.out W (HW5.out.trans' h)) wq hSq; go_split_ands; go_simp; (try with_reducible rfl))
      try simp only [Act.put, getElem_toArray, getElem_cons_zero, getElem_cons_succ, setIfInBounds_toArray, set_cons_zero, set_cons_succ]
      refine wpAnyH_take (i := 11) (v := ?_) rfl (by kernel_rfl) (by kernel_rfl) (by kernel_rfl) (fun _ _ _ h => h) (Or.inl ⟨by rfl, ?_⟩) (by assumption) ?_; rotate_left; · (intro wq hSq; have hq := (fun W h => HCC.out W (HW5.out.trans' h)) wq hSq; go_split_ands; go_simp; (try with_reducible rfl))
      try simp only [Act.put, getElem_toArray, getElem_cons_zero, getElem_cons_succ, setIfInBounds_toArray, set_cons_zero, set_cons_succ]
      refine wpAnyH_take (i := 12) (v := ?_) rfl (by kernel_rfl) (by kernel_rfl) (by kernel_rfl) (fun _ _ _ h => h) (Or.inl ⟨by rfl, ?_⟩) (by assumption) ?_; rotate_left; · (intro wq hSq; have hq := (fun W h => HCC.out W (HW5.out.trans' h)) wq hSq; go_split_ands; go_simp; (try with_reducible rfl))
      try simp only [Act.put, getElem_toArray, getElem_cons_zero, getElem_cons_succ, setIfInBounds_toArray, set_cons_zero, set_cons_succ]
      refine wpAnyH_take (i := 13) (v := ?_) rfl (by kernel_rfl) (by kernel_rfl) (by kernel_rfl) (fun _ _ _ h => h) (Or.inl ⟨by rfl, ?_⟩) (by assumption) ?_; rotate_left; · (intro wq hSq; have hq := (fun W h => HCC.out W (HW5.out.trans' h)) wq hSq; go_split_ands; go_simp; (try with_reducible rfl))
      try simp only [Act.put, getElem_toArray, getElem_cons_zero, getElem_cons_succ, setIfInBounds_toArray, set_cons_zero, set_cons_succ]
      refine wpAnyH_take (i := 14) (v := ?_) rfl (by kernel_rfl) (by kernel_rfl) (by kernel_rfl) (fun _ _ _ h => h) (Or.inl ⟨by rfl, ?_⟩) (by assumption) ?_; rotate_left; · (intro wq hSq; have hq := (fun W h => HCC.out W (HW5.out.trans' h)) wq hSq; go_split_ands; go_simp; (try with_reducible rfl))
      try simp only [Act.put, getElem_toArray, getElem_cons_zero, getElem_cons_succ, setIfInBounds_toArray, set_cons_zero, set_cons_succ]
      refine wpAnyH_take (i := 15) (v := ?_) rfl (by kernel_rfl) (by kernel_rfl) (by kernel_rfl) (fun _ _ _ h => h) (Or.inl ⟨by rfl, ?_⟩) (by assumption) ?_; rotate_left; · (intro wq hSq; have hq := (fun W h => HCC.out W (HW5.out.trans' h)) wq hSq; go_split_ands; go_simp; (try with_reducible rfl))
      try simp only [Act.put, getElem_toArray, getElem_cons_zero, getElem_cons_succ, setIfInBounds_toArray, set_cons_zero, set_cons_succ]
      refine wpAnyH_done (by kernel_rfl) ?_ _
      have HIT6 := Lib.hid (HIT5.out.frm ((Frm.refl (fun _ => False) w5).drew) (fun h => h) (fun h => h))
      cases any with
      | false =>
        have HS2 := Lib.hid (HST.out true rfl)
        go_wp2_with fail
        go_roundw
        case rel => exact ⟨left', x, true, rfl, rfl, HIT6.out, HS2.out, HW5.out.trans' hHeld⟩
        case measure => rw [HIT6.out.leftM, HITR.out.leftM]; exact HLL.out
      | true =>
        by_cases hxl : x < least
        · have HS2 := Lib.hid (HST.out true (by simp [hxl]))
          go_wp2_with fail
          go_roundw
          case rel => exact ⟨left', x, true, rfl, rfl, HIT6.out, HS2.out, HW5.out.trans' hHeld⟩
          case measure => rw [HIT6.out.leftM, HITR.out.leftM]; exact HLL.out
        · have HS2 := Lib.hid (HST.out false (by simp [hxl]))
          go_wp2_with fail
          go_roundw
          case rel => exact ⟨left', least, true, rfl, rfl, HIT6.out, HS2.out, HW5.out.trans' hHeld⟩
          case measure => rw [HIT6.out.leftM, HITR.out.leftM]; exact HLL.out
end Go.Proofs.Ytmkkeglcjbogcaa
namespace Go.Proofs.Ytmkkeglcjbogcaa
open Go.RowKit
open List (getElem_toArray getElem_cons_zero getElem_cons_succ setIfInBounds_toArray set_cons_zero set_cons_succ)
set_option linter.unusedVariables false
set_option linter.unusedSimpArgs false

/-- Numbers that a wheel in use keeps within. -/
structure Wh.fits (s : Wh) : Prop where
  (ok : s.ok) (last : 0 ≤ s.last ∧ s.last ≤ 4611686018427387904) (now : s.now ≤ 4611686018427387904)
def AddPost (p n bw : Nat) (bs : List Nat) (r : Wh × Int × Int) (w : World) (e : Ending) (w' : World) : Prop := e = .returned (.tuple #[.int .i64 r.2.1, .int .i64 r.2.2]) ∧ WhAt w' p n bw bs r.1 ∧ Frm (WhS p bw bs) w w'
set_option maxRecDepth 100000 in
set_option maxHeartbeats 1000000 in
theorem wadds_any (w : World) (p n bw : Nat) (bs : List Nat) (s : Wh) (after per what : Int) (h0 : WhAt w p n bw bs s) (hs : s.fits) (ha : 1 ≤ after ∧ after ≤ 4294967296) (hp : 0 ≤ per ∧ per ≤ 4294967296) :
    Calls Try.prog 80 #[ptrW p, .int .u64 after, .int .u64 per, .int .i64 what] w (AddPost p n bw bs (s.adds after per what) w) := by
  obtain ⟨g, cap, O⟩ := h0.open_
  have k1 : w.cell? ⟨p, 1, none⟩ = some (.map (some bw)) := cell_at O.hp
  have k3 : w.cell? ⟨p, 3, none⟩ = some (.int .i64 s.last) := cell_at O.hp
  have hfr := frees O.hp
  have hl := fun ty => h0.wher.len (P := Try.prog) (t := 154) Try.underlying154 ty
  simp only [List.length_map] at hl
  have H0 := Lib.hid h0
  have HS := Lib.hid hs
  obtain ⟨m, hm⟩ : ∃ m, m = s.tm.length := ⟨_, rfl⟩
  rw [← hm] at hl
  obtain ⟨hl0, hl1⟩ := hs.last
  have hw1 := hs.ok.now
  have hw2 := hs.now
  by_cases h1 : 1024 ≤ m
  · have HE : Hid (s.adds after per what = (s, 0, 2)) := by unfold Hid Wh.adds; rw [if_pos (by omega)]
    unfold ptrW
    clear O hm h0 hs
    go_enter Try.func80, Try.ntmps80
    go_wp2_with fail
    go_ret2
    unfold AddPost
    rw [HE.out]
    exact ⟨rfl, H0.out, Frm.refl _ _⟩
  · have HE : Hid (s.adds after per what = (⟨s.tm ++ [⟨s.last + 1, s.now + after, per, what⟩], s.now, s.last + 1⟩, s.last + 1, 0)) := by unfold Hid Wh.adds; rw [if_neg (by omega)]
    have h1' : m < 1024 := by omega
    have O' := Lib.hid O
    unfold ptrW
    clear O hm h0 hs
    go_enter Try.func80, Try.ntmps80
    go_upto_region 4 with fail
    have hs1 : WhAt (w.setCell ⟨p, 3, none⟩ (.int .i64 (s.last + 1))) p n bw bs ⟨s.tm, s.now, s.last + 1⟩ := by
      have hF : Frm (One p) w (w.setCell ⟨p, 3, none⟩ (.int .i64 (s.last + 1))) := (Frm.refl _ _).set1 _
      have h0 := H0.out
      obtain ⟨g', cap', hc, hrow⟩ := h0.cell
      refine ⟨⟨g', cap', heap_set_at hc rfl, hF.row hrow (fun k hk e => ?_)⟩, h0.slots, h0.pos, h0.dist, h0.wher.frm hF (fun e => map_ne h0.wher hc e.symm), fun i hi => (h0.slot i hi).frm hF (fun e => map_ne (h0.slot i hi) hc e.symm)⟩
      obtain ⟨_, cur, hcur⟩ := row_block hrow hk
      exact block_ne hcur hc (by decide) e
    have hF1 : Frm (WhS p bw bs) w (w.setCell ⟨p, 3, none⟩ (.int .i64 (s.last + 1))) := (Frm.refl _ _).setCell (fun _ => .inl rfl) _
    obtain ⟨wb, hwb⟩ : ∃ wb, wb = w.setCell ⟨p, 3, none⟩ (.int .i64 (s.last + 1)) := ⟨_, rfl⟩
    rw [← hwb] at hs1 hF1 ⊢
    obtain ⟨g1, cap1, O1⟩ := hs1.open_
    have j2 : wb.cell? ⟨p, 2, none⟩ = some (.int .u64 s.now) := cell_at O1.hp
    have j3 : wb.cell? ⟨p, 3, none⟩ = some (.int .i64 (s.last + 1)) := cell_at O1.hp
    have hpm : ¬ WhM bw bs p := by
      rintro (e | e)
      · exact map_ne hs1.wher O1.hp e
      · obtain ⟨i, hi, e2⟩ := List.getElem_of_mem e
        exact map_ne (hs1.slot i hi) O1.hp e2.symm
    have HC := Lib.hid (fun W (h : Frm (WhM bw bs) wb W) => (⟨h.cell j2 hpm, h.cell j3 hpm⟩ : _ ∧ _))
    have HPM := Lib.hid hpm
    have q1 : IntKind.u64.wrap (s.now + after) = s.now + after := IntWalk.u64_in _ (by omega)
    have HP := Lib.hid (wput_any wb.drew p n bw bs ⟨s.tm, s.now, s.last + 1⟩ ⟨s.last + 1, s.now + after, per, what⟩ (hs1.grow ((Frm.refl _ _).drew)) (fun x hx => by have := HS.out.ok.lo x hx; show x.no ≠ s.last + 1; omega) (by show 0 ≤ s.now + after; omega) (by show s.now + after ≤ _; omega))
    unfold ptrW tmV tmC at HP
    have HF1 := Lib.hid hF1
    clear O1 hwb hs1 hF1 j2 j3 hpm
    refine wp_region_held_drew (S := fun W => Frm (WhM bw bs) wb W) (by kernel_rfl) ((Frm.refl _ _).drew) (fun hHeld => ?_)
    refine wpAnyH_take (i := 0) (v := ?_) rfl (by kernel_rfl) (by kernel_rfl) (by kernel_rfl) (fun _ _ _ h => h) (Or.inl ⟨by rfl, ?_⟩) (by assumption) ?_; rotate_left; · (intro wq hSq; have hq := HC.out wq hSq; go_split_ands; go_simp; (try with_reducible rfl))
    try simp only [Act.put, getElem_toArray, getElem_cons_zero, getElem_cons_succ, setIfInBounds_toArray, set_cons_zero, set_cons_succ]
    refine wpAnyH_take (i := 1) (v := ?_) rfl (by kernel_rfl) (by kernel_rfl) (by kernel_rfl) (fun _ _ _ h => h) (Or.inl ⟨by rfl, ?_⟩) (by assumption) ?_; rotate_left; · (intro wq hSq; have hq := HC.out wq hSq; go_split_ands; go_simp; (try with_reducible rfl))
    try simp only [Act.put, getElem_toArray, getElem_cons_zero, getElem_cons_succ, setIfInBounds_toArray, set_cons_zero, set_cons_succ]
    refine wpAnyH_take (i := 2) (v := ?_) rfl (by kernel_rfl) (by kernel_rfl) (by kernel_rfl) (fun _ _ _ h => h) (Or.inl ⟨by rfl, ?_⟩) (by assumption) ?_; rotate_left; · (intro wq hSq; have hq := HC.out wq hSq; go_split_ands; go_simp; (try with_reducible rfl))
    try simp only [Act.put, getElem_toArray, getElem_cons_zero, getElem_cons_succ, setIfInBounds_toArray, set_cons_zero, set_cons_succ]
    refine wpAnyH_take (i := 3) (v := ?_) rfl (by kernel_rfl) (by kernel_rfl) (by kernel_rfl) (fun _ _ _ h => h) (Or.inl ⟨by rfl, ?_⟩) (by assumption) ?_; rotate_left; · (intro wq hSq; have hq := HC.out wq hSq; go_split_ands; go_simp; (try with_reducible rfl))
    try simp only [Act.put, getElem_toArray, getElem_cons_zero, getElem_cons_succ, setIfInBounds_toArray, set_cons_zero, set_cons_succ]
    refine wpAnyH_take (i := 4) (v := ?_) rfl (by kernel_rfl) (by kernel_rfl) (by kernel_rfl) (fun _ _ _ h => h) (Or.inl ⟨by rfl, ?_⟩) (by assumption) ?_; rotate_left; · (intro wq hSq; have hq := HC.out wq hSq; go_split_ands; go_simp; (try with_reducible rfl))
    try simp only [Act.put, getElem_toArray, getElem_cons_zero, getElem_cons_succ, setIfInBounds_toArray, set_cons_zero, set_cons_succ]
    refine wpAnyH_take (i := 5) (v := ?_) rfl (by kernel_rfl) (by kernel_rfl) (by kernel_rfl) (fun _ _ _ h => h) (Or.inl ⟨by rfl, ?_⟩) (by assumption) ?_; rotate_left; · (intro wq hSq; have hq := HC.out wq hSq; go_split_ands; go_simp; (try with_reducible rfl))
    try simp only [Act.put, getElem_toArray, getElem_cons_zero, getElem_cons_succ, setIfInBounds_toArray, set_cons_zero, set_cons_succ]
    refine wpAnyH_take (i := 6) (v := ?_) rfl (by kernel_rfl) (by kernel_rfl) (by kernel_rfl) (fun _ _ _ h => h) (Or.inl ⟨by rfl, ?_⟩) (by assumption) ?_; rotate_left; · (intro wq hSq; have hq := HC.out wq hSq; go_split_ands; go_simp; (try with_reducible rfl))
    try simp only [Act.put, getElem_toArray, getElem_cons_zero, getElem_cons_succ, setIfInBounds_toArray, set_cons_zero, set_cons_succ]
    refine wpAnyH_take (i := 7) (v := ?_) rfl (by kernel_rfl) (by kernel_rfl) (by kernel_rfl) (fun _ _ _ h => h) (Or.inl ⟨by rfl, ?_⟩) (by assumption) ?_; rotate_left; · (intro wq hSq; have hq := HC.out wq hSq; go_split_ands; go_simp; (try with_reducible rfl))
    try simp only [Act.put, getElem_toArray, getElem_cons_zero, getElem_cons_succ, setIfInBounds_toArray, set_cons_zero, set_cons_succ]
    refine wpAnyH_take (i := 8) (v := ?_) rfl (by kernel_rfl) (by kernel_rfl) (by kernel_rfl) (fun _ _ _ h => h) (Or.inl ⟨by rfl, ?_⟩) (by assumption) ?_; rotate_left; · (intro wq hSq; have hq := HC.out wq hSq; go_split_ands; go_simp; (try with_reducible rfl))
    try simp only [Act.put, getElem_toArray, getElem_cons_zero, getElem_cons_succ, setIfInBounds_toArray, set_cons_zero, set_cons_succ]
    refine wpAnyH_take (i := 9) (v := ?_) rfl (by kernel_rfl) (by kernel_rfl) (by kernel_rfl) (fun _ _ _ h => h) (Or.inl ⟨by rfl, ?_⟩) (by assumption) ?_; rotate_left; · (intro wq hSq; have hq := HC.out wq hSq; go_split_ands; go_simp; (try with_reducible rfl))
    try simp only [Act.put, getElem_toArray, getElem_cons_zero, getElem_cons_succ, setIfInBounds_toArray, set_cons_zero, set_cons_succ]
    refine wpAnyH_take (i := 10) (v := ?_) rfl (by kernel_rfl) (by kernel_rfl) (by kernel_rfl) (fun _ _ _ h => h) (Or.inl ⟨by rfl, ?_⟩) (by assumption) ?_; rotate_left; · (intro wq hSq; have hq := HC.out wq hSq; go_split_ands; go_simp; (try with_reducible rfl))
    try simp only [Act.put, getElem_toArray, getElem_cons_zero, getElem_cons_succ, setIfInBounds_toArray, set_cons_zero, set_cons_succ]
    refine wpAnyH_take (i := 11) (v := ?_) rfl (by kernel_rfl) (by kernel_rfl) (by kernel_rfl) (fun _ _ _ h => h) (Or.inl ⟨by rfl, ?_⟩) (by assumption) ?_; rotate_left; · (intro wq hSq; have hq := HC.out wq hSq; go_split_ands; go_simp; (try with_reducible rfl))
    try simp only [Act.put, getElem_toArray, getElem_cons_zero, getElem_cons_succ, setIfInBounds_toArray, set_cons_zero, set_cons_succ]
    refine wpAnyH_take (i := 12) (v := ?_) rfl (by kernel_rfl) (by kernel_rfl) (by kernel_rfl) (fun _ _ _ h => h) (Or.inl ⟨by rfl, ?_⟩) (by assumption) ?_; rotate_left; · (intro wq hSq; have hq := HC.out wq hSq; go_split_ands; go_simp; (try with_reducible rfl))
    try simp only [Act.put, getElem_toArray, getElem_cons_zero, getElem_cons_succ, setIfInBounds_toArray, set_cons_zero, set_cons_succ]
    refine wpAnyH_take (i := 13) (v := ?_) rfl (by kernel_rfl) (by kernel_rfl) (by kernel_rfl) (fun _ _ _ h => h) (Or.inl ⟨by rfl, ?_⟩) (by assumption) ?_; rotate_left; · (intro wq hSq; have hq := HC.out wq hSq; go_split_ands; go_simp; (try with_reducible rfl))
    try simp only [Act.put, getElem_toArray, getElem_cons_zero, getElem_cons_succ, setIfInBounds_toArray, set_cons_zero, set_cons_succ]
    refine wpAnyH_ready (rs := [14]) (by kernel_rfl) (by simp) ?_
    refine AllReadyH.cons rfl (fun K hK => ?_) AllReadyH.nil
    try simp only [getElem_toArray, getElem_cons_zero, getElem_cons_succ]
    go_simp
    refine HP.out.mono ?_
    rintro e w2 ⟨rfl, hA2, hF2⟩
    obtain ⟨g2, cap2, O2⟩ := hA2.open_
    have i3 : w2.cell? ⟨p, 3, none⟩ = some (.int .i64 (s.last + 1)) := cell_at O2.hp
    have HA2 := Lib.hid hA2
    have HF2 := Lib.hid hF2
    clear hA2 hF2 O2
    go_wp2_with fail
    refine hK.out _ _ (hHeld.trans' HF2.out) (fun hHeld => ?_)
    clear hK K
    try simp only [Act.put, setIfInBounds_toArray, set_cons_zero, set_cons_succ]
    refine wpAnyH_done (by kernel_rfl) ?_ _
    go_wp2_with fail
    go_ret2
    unfold AddPost
    rw [HE.out]
    exact ⟨rfl, HA2.out.perm (List.perm_append_comm (l₁ := [_])) rfl rfl, HF1.out.trans hHeld (fun _ _ h => .inr h)⟩
set_option maxRecDepth 100000 in
set_option maxHeartbeats 1000000 in
theorem wadd_any (w : World) (p n bw : Nat) (bs : List Nat) (s : Wh) (after what : Int) (h0 : WhAt w p n bw bs s) (hs : s.fits) : Calls Try.prog 44 #[ptrW p, .int .u64 after, .int .i64 what] w (AddPost p n bw bs (s.add after what) w) := by
  have HWI := Lib.hid (fun W => wwithin_any after W)
  by_cases h1 : withinW after = true
  · have h2 : 1 ≤ after ∧ after ≤ 4294967296 := by unfold withinW at h1; simpa using h1
    have HE : Hid (s.add after what = s.adds after 0 what) := by unfold Hid Wh.add; rw [if_pos h1]
    have HA := Lib.hid (wadds_any w p n bw bs s after 0 what h0 hs h2 ⟨by omega, by omega⟩)
    rw [h1] at HWI
    unfold ptrW at *
    clear h0 hs h1
    go_enter Try.func44, Try.ntmps44
    go_wp2_with (first | (go_at_call 79; refine (HWI.out _).mono ?_; rintro e w' ⟨rfl, rfl⟩) | (go_at_call 80; refine HA.out.mono ?_; rintro e w2 ⟨rfl, hA, hF⟩; have HA2 := Lib.hid hA; clear hA))
    go_ret2
    unfold AddPost
    rw [HE.out]
    exact ⟨rfl, HA2.out, hF⟩
  · have h2 : withinW after = false := by simpa using h1
    have HE : Hid (s.add after what = (s, 0, 1)) := by unfold Hid Wh.add; rw [if_neg h1]
    rw [h2] at HWI
    have H0 := Lib.hid h0
    unfold ptrW
    clear h0 hs h1 h2
    go_enter Try.func44, Try.ntmps44
    go_wp2_with (go_at_call 79; refine (HWI.out _).mono ?_; rintro e w' ⟨rfl, rfl⟩)
    go_ret2
    unfold AddPost
    rw [HE.out]
    exact ⟨rfl, H0.out, Frm.refl _ _⟩
set_option maxRecDepth 100000 in
set_option maxHeartbeats 1000000 in
theorem wevery_any (w : World) (p n bw : Nat) (bs : List Nat) (s : Wh) (first per what : Int) (h0 : WhAt w p n bw bs s) (hs : s.fits) : Calls Try.prog 45 #[ptrW p, .int .u64 first, .int .u64 per, .int .i64 what] w (AddPost p n bw bs (s.every first per what) w) := by
  have HW1 := Lib.hid (fun W => wwithin_any first W)
  have HW2 := Lib.hid (fun W => wwithin_any per W)
  have H0 := Lib.hid h0
  cases h1 : withinW first with
  | false =>
    have HE : Hid (s.every first per what = (s, 0, 1)) := by unfold Hid Wh.every; rw [h1]; rfl
    rw [h1] at HW1
    unfold ptrW
    clear h0 hs h1
    go_enter Try.func45, Try.ntmps45
    go_wp2_with (go_at_call 79; refine (HW1.out _).mono ?_; rintro e w' ⟨rfl, rfl⟩)
    go_ret2
    unfold AddPost
    rw [HE.out]
    exact ⟨rfl, H0.out, Frm.refl _ _⟩
  | true => cases h2 : withinW per with
    | false =>
      have HE : Hid (s.every first per what = (s, 0, 1)) := by unfold Hid Wh.every; rw [h1, h2]; rfl
      rw [h1] at HW1
      rw [h2] at HW2
      unfold ptrW
      clear h0 hs h1 h2
      go_enter Try.func45, Try.ntmps45
      go_wp2_with (first | (go_at_call 79; refine (HW1.out _).mono ?_; clear HW1; rintro e w' ⟨rfl, rfl⟩) | (go_at_call 79; refine (HW2.out _).mono ?_; rintro e w' ⟨rfl, rfl⟩))
      go_ret2
      unfold AddPost
      rw [HE.out]
      exact ⟨rfl, H0.out, Frm.refl _ _⟩
    | true =>
      have HE : Hid (s.every first per what = s.adds first per what) := by unfold Hid Wh.every; rw [h1, h2]; rfl
      have a1 : 1 ≤ first ∧ first ≤ 4294967296 := by unfold withinW at h1; simpa using h1
      have a2 : 1 ≤ per ∧ per ≤ 4294967296 := by unfold withinW at h2; simpa using h2
      have HA := Lib.hid (wadds_any w p n bw bs s first per what h0 hs a1 ⟨by omega, a2.2⟩)
      rw [h1] at HW1
      rw [h2] at HW2
      unfold ptrW at *
      clear h0 hs h1 h2 a1 a2
      go_enter Try.func45, Try.ntmps45
      go_wp2_with (first | (go_at_call 79; refine (HW1.out _).mono ?_; clear HW1; rintro e w' ⟨rfl, rfl⟩) | (go_at_call 79; refine (HW2.out _).mono ?_; rintro e w' ⟨rfl, rfl⟩) | (go_at_call 80; refine HA.out.mono ?_; rintro e w2 ⟨rfl, hA, hF⟩; have HA2 := Lib.hid hA; clear hA))
      go_ret2
      unfold AddPost
      rw [HE.out]
      exact ⟨rfl, HA2.out, hF⟩
end Go.Proofs.Ytmkkeglcjbogcaa
namespace Go.Proofs.Ytmkkeglcjbogcaa
open Go.RowKit
set_option linter.unusedVariables false
set_option linter.unusedSimpArgs false

theorem WhAt.setNow {w : World} {p n bw : Nat} {bs : List Nat} {s : Wh} (h0 : WhAt w p n bw bs s) (x : Int) : WhAt (w.setCell ⟨p, 2, none⟩ (.int .u64 x)) p n bw bs ⟨s.tm, x, s.last⟩ := by
  have hF : Frm (One p) w (w.setCell ⟨p, 2, none⟩ (.int .u64 x)) := (Frm.refl _ _).set1 _
  obtain ⟨g', cap', hc, hrow⟩ := h0.cell
  refine ⟨⟨g', cap', heap_set_at hc rfl, hF.row hrow (fun k hk e => ?_)⟩, h0.slots, h0.pos, h0.dist, h0.wher.frm hF (fun e => map_ne h0.wher hc e.symm), fun i hi => (h0.slot i hi).frm hF (fun e => map_ne (h0.slot i hi) hc e.symm)⟩
  obtain ⟨_, cur, hcur⟩ := row_block hrow hk
  exact block_ne hcur hc (by decide) e
theorem due_of {s : Wh} (h : s.ok) (hn : s.next.2 = true) (hl : 0 ≤ s.last ∧ s.last ≤ 4611686018427387904) (hnow : s.now + s.next.1 ≤ 4611686022722355200) : Wh.due_ ⟨s.tm, s.now + s.next.1, s.last⟩ := by
  obtain ⟨h1, h2, h3⟩ := next_facts h hn
  refine ⟨h.srt, h.lo, fun t ht => ⟨h3 t ht, ?_⟩, h.per, h.len, ⟨?_, hnow⟩, hl⟩
  · have := (h.due t ht).2
    show t.due ≤ s.now + s.next.1 + 4294967296
    omega
  · have := h.now
    show 0 ≤ s.now + s.next.1
    omega
/-- What holds at the head of Tick's loop. -/
structure TickI (p n bw : Nat) (bs : List Nat) (en : Int) (r : Wh × List Int) (w : World) (v : Value) (f : Nat) (s : Wh) (told : List Int) (wr : World) : Prop where
  whl : WhAt wr p n bw bs s
  ok : s.ok
  last : 0 ≤ s.last ∧ s.last ≤ 4611686018427387904
  now : s.now ≤ en
  run : Wh.run en f s told = r
  fuel : en - s.now < f
  row : RowI wr w.heap.size v told
  len : told.length ≤ 65536
  blk : ∀ k, v.ownBlock = some k → k < wr.heap.size
  frm : Frm (WhS p bw bs) w wr
def TickPost (p n bw : Nat) (bs : List Nat) (r : Wh × List Int) (w : World) (e : Ending) (w' : World) : Prop :=
  ∃ v, e = .returned v ∧ WhAt w' p n bw bs r.1 ∧ RowI w' w.heap.size v r.2 ∧ Frm (WhS p bw bs) w w'
theorem fires_len (s : Wh) (told : List Int) (h : told.length ≤ 65536) : (s.fires told).2.length ≤ 65536 := tell_len _ _ _ h
theorem TickI.stop {p n bw : Nat} {bs : List Nat} {en : Int} {r : Wh × List Int} {w wr : World} {v : Value} {f : Nat} {s : Wh} {told : List Int} (h : TickI p n bw bs en r w v f s told wr) (hc : s.next.2 = false ∨ en - s.now < s.next.1) {w' : World} (hF : Frm (fun _ => False) (wr.setCell ⟨p, 2, none⟩ (.int .u64 en)) w') : WhAt w' p n bw bs r.1 ∧ RowI w' w.heap.size v r.2 ∧ Frm (WhS p bw bs) w w' := by
  have hf : ∃ g, f = g + 1 := ⟨f - 1, by have := h.fuel; have := h.now; omega⟩
  obtain ⟨g, rfl⟩ := hf
  have hr := h.run
  unfold Wh.run at hr
  rw [if_pos hc] at hr
  subst hr
  have hF1 : Frm (One p) wr (wr.setCell ⟨p, 2, none⟩ (.int .u64 en)) := (Frm.refl _ _).set1 _
  have hpb : ∀ k, v.ownBlock = some k → ¬ k = p := fun k hk e => by
    subst e
    obtain ⟨cur, hcur⟩ := h.row.blk hk
    exact h.whl.row_not hcur (by decide) (.inl rfl)
  exact ⟨(h.whl.setNow en).grow hF, hF.row (hF1.row h.row hpb) (fun _ _ h => h), (h.frm.trans hF1 (fun _ _ e => .inl e)).trans hF (fun _ _ h => h.elim)⟩
theorem TickI.grow {p n bw : Nat} {bs : List Nat} {en : Int} {r : Wh × List Int} {w wr w2 : World} {v : Value} {f : Nat} {s : Wh} {told : List Int} (h : TickI p n bw bs en r w v f s told wr) (hF : Frm (fun _ => False) wr w2) : TickI p n bw bs en r w v f s told w2 :=
  ⟨h.whl.grow hF, h.ok, h.last, h.now, h.run, h.fuel, hF.row h.row (fun _ _ h => h), h.len, fun k hk => Nat.lt_of_lt_of_le (h.blk k hk) hF.size, h.frm.trans hF (fun _ _ h => h.elim)⟩
set_option maxRecDepth 100000 in
set_option maxHeartbeats 2000000 in
theorem wtick_any (w : World) (p n bw : Nat) (bs : List Nat) (s : Wh) (x : Int) (h0 : WhAt w p n bw bs s) (hs : s.fits) (hx : 0 ≤ x) : Calls Try.prog 48 #[ptrW p, .int .u64 x] w (TickPost p n bw bs (s.tick x) w) := by
  obtain ⟨g, cap, O⟩ := h0.open_
  have k2 : w.cell? ⟨p, 2, none⟩ = some (.int .u64 s.now) := cell_at O.hp
  obtain ⟨en, hen⟩ : ∃ en, en = s.now + min x 1048576 := ⟨_, rfl⟩
  have hw0 := hs.ok.now
  have hw1 := hs.now
  have hen1 : s.now ≤ en := by omega
  have hen2 : en ≤ 4611686018428436480 := by omega
  have hI : TickI p n bw bs en (s.tick x) w (.slice none 0 0) 1048577 s [] w := ⟨h0, hs.ok, hs.last, hen1, by rw [hen]; rfl, by omega, World.ownsRow_nil _ _ _ _, Nat.zero_le _, (fun k hk => by cases hk), Frm.refl _ _⟩
  have HI := Lib.hid hI
  have HEN := Lib.hid hen
  unfold ptrW
  clear O h0 hs hI hen
  go_enter Try.func48, Try.ntmps48
  go_upto_region 2 with fail
  rw [← HEN.out]
  clear HEN
  go_wp2_with fail
  try go_frame
  generalize s.tick x = r at *
  clear k2 hw0 hw1 hen1
  go_loopw [6] (fun a wr => ∃ (f : Nat) (s' : Wh) (told : List Int), TickI p n bw bs en r w a f s' told wr) (fun _ wr => (en - Go.RowKit.intOf ((wr.cell? ⟨p, 2, none⟩).getD undef)).toNat)
  case atStart => exact ⟨_, _, _, HI.out⟩
  case round =>
    obtain ⟨f, s', told, hI⟩ := hrel
    have HIR := Lib.hid hI
    obtain ⟨A1, cap1, rfl, hc1, hc2, _⟩ := row_open hI.row
    obtain ⟨g1, cap1', O1⟩ := hI.whl.open_
    have j2 : wr.cell? ⟨p, 2, none⟩ = some (.int .u64 s'.now) := cell_at O1.hp
    have HJ2 := Lib.hid (fun W (h : Frm (fun _ => False) wr W) => (⟨h.cell j2 (fun h => h), frees (h.heap O1.hp (fun h => h))⟩ : _ ∧ _))
    have HNX := Lib.hid (wnext_any wr p n bw bs s' hI.whl hI.ok (by have := hI.now; omega))
    have hw0 := hI.ok.now
    have hw1 := hI.now
    obtain ⟨le, an, hna⟩ : ∃ le an, s'.next = (le, an) := ⟨_, _, rfl⟩
    have HNA := Lib.hid hna
    have q1 : IntKind.u64.wrap (en - s'.now) = en - s'.now := IntWalk.u64_in _ (by omega)
    unfold NextPost at HNX
    rw [hna] at HNX
    unfold ptrW at HNX
    clear hI O1 j2 hna
    cases an with
    | false =>
      go_wp2_with (go_at_call 81; refine HNX.out.mono ?_; rintro e w2 ⟨rfl, hF2⟩; obtain ⟨j2, hfr⟩ := HJ2.out w2 hF2; have HF2 := Lib.hid hF2; clear hF2)
      go_ret
      exact ⟨_, rfl, (HIR.out.grow HF2.out).stop (.inl (by rw [HNA.out])) (Frm.refl _ _)⟩
    | true =>
      by_cases hle : en - s'.now < le
      · have g1 : decide (en - s'.now < le) = true := by simp [hle]
        go_wp2_with (go_at_call 81; refine HNX.out.mono ?_; rintro e w2 ⟨rfl, hF2⟩; obtain ⟨j2, hfr⟩ := HJ2.out w2 hF2; have HF2 := Lib.hid hF2; clear hF2)
        go_ret
        exact ⟨_, rfl, (HIR.out.grow HF2.out).stop (.inr (by rw [HNA.out]; exact hle)) (Frm.refl _ _)⟩
      · have g1 : decide (en - s'.now < le) = false := by simp [hle]
        have hnt : s'.next.2 = true := by rw [HNA.out]
        have hnl : s'.next.1 = le := by rw [HNA.out]
        have hnf := next_facts HIR.out.ok hnt
        rw [hnl] at hnf
        obtain ⟨hl1, hl2, _⟩ := hnf
        have q2 : IntKind.u64.wrap (s'.now + le) = s'.now + le := IntWalk.u64_in _ (by omega)
        have HLE := Lib.hid (Int.not_lt.1 hle)
        have HNT := Lib.hid hnt
        have HNL := Lib.hid hnl
        have HFI := Lib.hid (fun W (hW : WhAt W p n bw bs ⟨s'.tm, s'.now + le, s'.last⟩) (hr : RowI W w.heap.size (.slice A1 told.length cap1) told) (hB : w.heap.size ≤ W.heap.size) (hb : ∀ k, (Value.slice A1 told.length cap1).ownBlock = some k → k < W.heap.size) => wfires_any W p n bw bs ⟨s'.tm, s'.now + le, s'.last⟩ w.heap.size (.slice A1 told.length cap1) told hW (by have := due_of HIR.out.ok hnt HIR.out.last (by rw [hnl]; omega); rw [hnl] at this; exact this) hr hB HIR.out.len hb)
        clear hnt hnl hle
        go_upto_region 8 with (go_at_call 81; refine HNX.out.mono ?_; rintro e w2 ⟨rfl, hF2⟩; obtain ⟨j2, hfr⟩ := HJ2.out w2 hF2; have HF2 := Lib.hid hF2; clear hF2)
        have hA3 := (HIR.out.grow HF2.out).whl.setNow (s'.now + le)
        have hF3 : Frm (One p) w2 (w2.setCell ⟨p, 2, none⟩ (.int .u64 (s'.now + le))) := (Frm.refl _ _).set1 _
        obtain ⟨w3, hw3⟩ : ∃ w3, w3 = w2.setCell ⟨p, 2, none⟩ (.int .u64 (s'.now + le)) := ⟨_, rfl⟩
        rw [← hw3] at hA3 hF3 ⊢
        have hr3 : RowI w3 w.heap.size (.slice A1 told.length cap1) told := hF3.row (HIR.out.grow HF2.out).row (fun k hk e => by
          have e : k = p := e
          subst e
          obtain ⟨cur, hcur⟩ := (HIR.out.grow HF2.out).row.blk hk
          exact (HIR.out.grow HF2.out).whl.row_not hcur (by decide) (.inl rfl))
        have hb3 : ∀ k, (Value.slice A1 told.length cap1).ownBlock = some k → k < w3.heap.size := fun k hk => Nat.lt_of_lt_of_le ((HIR.out.grow HF2.out).blk k hk) hF3.size
        have hB3 : w.heap.size ≤ w3.heap.size := Nat.le_trans (HIR.out.grow HF2.out).frm.size hF3.size
        have HFC := Lib.hid (HFI.out w3 hA3 hr3 hB3 hb3)
        have HF3 := Lib.hid hF3
        have HR3 := Lib.hid hr3
        have HA3 := Lib.hid hA3
        unfold ptrW at HFC
        have j0 : wr.cell? ⟨p, 2, none⟩ = some (.int .u64 s'.now) := by
          obtain ⟨g1, c1, O1⟩ := HIR.out.whl.open_
          exact cell_at O1.hp
        have HJ0 := Lib.hid j0
        clear hA3 hF3 hw3 hr3 hb3 j2 hfr j0
        go_wp2_with (go_at_call 82; refine HFC.out.mono ?_; rintro e w4 ⟨v4, rfl, hA4, hr4, hF4, hb4⟩; have HA4 := Lib.hid hA4; have HR4 := Lib.hid hr4; have HF4 := Lib.hid hF4; have HB4 := Lib.hid hb4; clear hA4 hr4 hF4 hb4)
        go_roundw
        case rel =>
          have hI := HIR.out
          have hle := HLE.out
          have hf : ∃ g, f = g + 1 := ⟨f - 1, by have := hI.fuel; omega⟩
          obtain ⟨g, rfl⟩ := hf
          have hr := hI.run
          unfold Wh.run at hr
          rw [if_neg (by rw [HNT.out, HNL.out]; simp; omega)] at hr
          rw [HNL.out] at hr
          have hok := step_ok told hI.ok HNT.out
          rw [HNL.out] at hok
          have hnt : ∀ k, (Value.slice A1 told.length cap1).ownBlock = some k → w.heap.size ≤ k := fun k hk => (row_block HR3.out hk).1
          refine ⟨g, _, _, HA4.out, hok, hI.last, by show s'.now + le ≤ en; omega, hr, by have := hI.fuel; show en - (s'.now + le) < g; omega, HR4.out, fires_len _ _ hI.len, fun k hk => ?_, ?_⟩
          · obtain ⟨cur, hcur⟩ := HR4.out.blk hk
            exact lt_of_block hcur
          · refine (((HIR.out.grow HF2.out).frm.trans HF3.out (fun _ _ e => .inl e))).trans HF4.out (fun i hi e => ?_)
            rcases e with e | e
            · exact .inr e
            · have := hnt i e
              omega
        case measure =>
          have hle := HLE.out
          obtain ⟨g5, c5, O5⟩ := HA4.out.open_
          have z5 : w4.cell? ⟨p, 2, none⟩ = some (.int .u64 (s'.now + le)) := cell_at O5.hp
          rw [z5, HJ0.out]
          simp only [Option.getD_some, Go.RowKit.intOf]
          omega
end Go.Proofs.Ytmkkeglcjbogcaa
namespace Go.Proofs.Ytmkkeglcjbogcaa
open Go.RowKit
set_option linter.unusedVariables false
set_option linter.unusedSimpArgs false

theorem wnew_no (x : Int) (w : World) (h : x < 1 ∨ 4096 < x) : Calls Try.prog 43 #[.int .i64 x] w fun e w' => e = .returned (.tuple #[.pointer none, .int .i64 1]) ∧ w = w' := by
  rcases h with h | h
  · go_enter Try.func43, Try.ntmps43
    go_wp2
    go_ret2
    exact ⟨rfl, rfl⟩
  · have h' : ¬ x < 1 := by omega
    go_enter Try.func43, Try.ntmps43
    go_wp2
    go_ret2
    exact ⟨rfl, rfl⟩
def NewWPost (n : Nat) (w : World) (e : Ending) (w' : World) : Prop :=
  ∃ p bw bs, e = .returned (.tuple #[ptrW p, .int .i64 0]) ∧ WhAt w' p n bw bs ⟨[], 0, 0⟩ ∧ Frm (fun _ => False) w w' ∧ ∀ k, WhS p bw bs k → w.heap.size ≤ k
/-- A wheel that has k slots so far. -/
structure NewI (w : World) (p bw : Nat) (k : Nat) (bs : List Nat) (wr : World) : Prop where
  cell : ∃ v, wr.heap[p]? = some (.cells #[v, .map (some bw), .int .u64 0, .int .i64 0] 157 (0, 0)) ∧ wr.ownsRow w.heap.size 158 1 v k (bs.map fun b => .map (some b))
  len : bs.length = k
  dist : bs.Nodup ∧ bw ∉ bs
  wher : MapP wr bw []
  slot : ∀ b ∈ bs, MapP wr b []
  frm : Frm (fun _ => False) w wr
  lo : ∀ b ∈ bs, w.heap.size ≤ b
theorem NewI.step {w : World} {p bw k : Nat} {bs : List Nat} {wr w2 : World} {v v' : Value} (h : NewI w p bw k bs wr) (hp : w.heap.size ≤ p ∧ w.heap.size ≤ bw) (hc : wr.heap[p]? = some (.cells #[v, .map (some bw), .int .u64 0, .int .i64 0] 157 (0, 0))) (hrow : wr.ownsRow w.heap.size 158 1 v k (bs.map fun b => .map (some b)))
    (hown : w2.ownsRow w.heap.size 158 1 v' (k + 1) ((bs.map fun b => .map (some b)) ++ [.map (some wr.heap.size)])) (hF : Frm (fun k => v.ownBlock = some k) (wr.alloc (.map #[] 0)) w2) :
    NewI w p bw (k + 1) (bs ++ [wr.heap.size]) (w2.setCell ⟨p, 0, none⟩ v') := by
  have hvp : ∀ j, v.ownBlock = some j → ∃ cur, wr.heap[j]? = some (.cells cur 158 (0, 0)) := fun j hj => (row_block hrow hj).2
  have hpv : ¬ v.ownBlock = some p := fun e => by
    obtain ⟨cur, hcur⟩ := hvp p e
    rw [hc] at hcur
    cases hcur
  have hc2 : w2.heap[p]? = some (.cells #[v, .map (some bw), .int .u64 0, .int .i64 0] 157 (0, 0)) := hF.heap (heap_alloc_old hc) hpv
  have hm : ∀ j m, MapP wr j m → MapP (w2.setCell ⟨p, 0, none⟩ v') j m := fun j m hj => by
    have h1 : MapP (wr.alloc (.map #[] 0)) j m := hj.frm (Frm.alloc (Frm.refl (fun _ => False) wr) _) (fun h => h)
    refine (h1.frm hF (fun e => ?_)).frm (Frm.set1 (Frm.refl (One p) w2) (o := 0) v') (fun e => ?_)
    · obtain ⟨cur, hcur⟩ := hvp j e
      exact map_ne hj hcur rfl
    · exact map_ne hj hc e.symm
  refine ⟨⟨v', heap_set_at hc2 rfl, ?_⟩, by rw [List.length_append, h.len]; rfl, ⟨?_, ?_⟩, hm _ _ h.wher, fun b hb => ?_, ?_, fun b hb => ?_⟩
  · rw [List.map_append]
    refine Frm.row (Frm.set1 (Frm.refl (One p) w2) (o := 0) v') hown (fun j hj e => ?_)
    have e : j = p := e
    subst e
    obtain ⟨_, cur, hcur⟩ := row_block hown hj
    rw [hc2] at hcur
    cases hcur
  · rw [List.nodup_append]
    refine ⟨h.dist.1, by simp, fun a ha b hb e => ?_⟩
    simp only [List.mem_singleton] at hb
    have := (h.slot a ha).lt
    omega
  · intro e
    rcases List.mem_append.1 e with e | e
    · exact h.dist.2 e
    · simp only [List.mem_singleton] at e
      have := h.wher.lt
      omega
  · rcases List.mem_append.1 hb with hb | hb
    · exact hm _ _ (h.slot b hb)
    · simp only [List.mem_singleton] at hb
      subst hb
      have h1 : MapP (wr.alloc (.map #[] 0)) wr.heap.size [] := MapP.made wr
      refine (h1.frm hF (fun e => ?_)).frm (Frm.set1 (Frm.refl (One p) w2) (o := 0) v') (fun e => ?_)
      · obtain ⟨cur, hcur⟩ := hvp _ e
        exact Nat.lt_irrefl _ (lt_of_block hcur)
      · have e : wr.heap.size = p := e
        have := lt_of_block hc
        omega
  · have h1 : Frm (fun j => v.ownBlock = some j) w w2 := ((h.frm.mono (fun _ _ h => h.elim)).alloc _).trans' hF
    have h2 : Frm (fun _ => False) w w2 := h1.mono (fun i hi e => by
      have := (row_block hrow e).1
      omega)
    exact h2.setCell (p := ⟨p, 0, none⟩) (fun hlt => by have : p < w.heap.size := hlt; omega) _
  · rcases List.mem_append.1 hb with hb | hb
    · exact h.lo b hb
    · simp only [List.mem_singleton] at hb
      have := h.frm.size
      omega
theorem NewI.done {w wr : World} {p bw n : Nat} {bs : List Nat} (h : NewI w p bw n bs wr) (h1 : 1 ≤ n) (h2 : n ≤ 4096) : WhAt wr p n bw bs ⟨[], 0, 0⟩ := by
  obtain ⟨v, hc, hrow⟩ := h.cell
  obtain ⟨A, cap, rfl, _, _, h3⟩ := row_open hrow
  obtain ⟨g, rfl, _⟩ := h3 (by omega)
  exact ⟨⟨g, cap, hc, row_base hrow (Nat.zero_le _)⟩, h.len, ⟨h1, h2⟩, h.dist, h.wher, fun i hi => h.slot _ (List.getElem_mem hi)⟩
theorem elMap : El Try.prog 155 158 1 8 := El.of Try.underlying155 (z := .map none) (by kernel_rfl) rfl (by decide)
set_option maxRecDepth 100000 in
set_option maxHeartbeats 1000000 in
theorem wnew_any (n : Nat) (w : World) (h1 : 1 ≤ n) (h2 : n ≤ 4096) : Calls Try.prog 43 #[.int .i64 n] w (NewWPost n w) := by
  have hmm := @run_makeMap Try.prog
  have g1 : decide ((n : Int) < 1) = false := by simp; omega
  have g2 : decide (4096 < (n : Int)) = false := by simp; omega
  go_enter Try.func43, Try.ntmps43
  go_wp2
  try go_frame
  have hI : NewI w (w.heap.size + 1) w.heap.size 0 [] ((w.alloc (.map #[] 0)).alloc (.cells #[.slice none 0 0, .map (some w.heap.size), .int .u64 0, .int .i64 0] 157 (0, 0))) := by
    refine ⟨⟨.slice none 0 0, heap_new_at (by simp), World.ownsRow_nil _ _ _ _⟩, rfl, ⟨List.nodup_nil, by simp⟩, ?_, by simp, by (repeat' (first | (with_reducible exact Frm.refl _ _) | (with_reducible assumption) | (with_reducible refine Frm.alloc ?_ _) | (with_reducible refine Frm.drew ?_) | (with_reducible refine Frm.drewN ?_ _) | (with_reducible refine Frm.set1 ?_ _) | (with_reducible refine Frm.setCell ?_ ?_ _) | (exact fun h => absurd h (Nat.lt_irrefl _)) | (intro hlt; simp [World.size_alloc, One] at hlt ⊢; omega))), by simp⟩
    exact (MapP.made w).frm (Frm.alloc (Frm.refl (fun _ => False) _) _) (fun h => h)
  have HI := Lib.hid hI
  clear hI g1 g2
  go_loopw [15] (fun i wr => ∃ (k : Nat) (bs : List Nat), i = .int .i64 k ∧ k ≤ n ∧ NewI w (w.heap.size + 1) w.heap.size k bs wr) (fun i _ => n - (intOf i).toNat)
  case atStart => exact ⟨0, [], rfl, Nat.zero_le _, HI.out⟩
  case round =>
    obtain ⟨k, bs, rfl, hk, hI⟩ := hrel
    have HIR := Lib.hid hI
    obtain ⟨v, hc, hrow⟩ := hI.cell
    have k0 : wr.cell? ⟨w.heap.size + 1, 0, none⟩ = some v := cell_at hc
    have hfr := frees hc
    have HC := Lib.hid hc
    have HROW := Lib.hid hrow
    have HWS := Lib.hid hI.frm.size
    have HP2 := Lib.hid (fun (w2 : World) (hF : Frm (fun k => v.ownBlock = some k) (wr.alloc (.map #[] 0)) w2) => hF.heap (heap_alloc_old hc) (fun e => by
      obtain ⟨_, cur, hcur⟩ := row_block hrow e
      rw [hc] at hcur
      cases hcur))
    clear hI hc hrow
    by_cases hlt : k < n
    · have g3 : decide ((k : Int) < n) = true := by simp; omega
      go_wp2_with (at_builtin; refine wpl_app_new rfl elMap (.tmp 21) (.tmp 23) rfl rfl rfl (by simp) (HROW.out.alloc _) rfl (fun u hu => by simp at hu; subst hu; rfl) (by unfold maxLen; omega) (by omega) (by have := HWS.out; simp; omega) ?_; intro v' w2 hown2 hF2; obtain ⟨A2, cap2, rfl, _⟩ := row_open hown2; have hp2 := HP2.out w2 hF2; have c2 := cell_at (o := 0) hp2; simp only [List.getElem?_toArray, List.getElem?_cons_zero] at c2; have f2 := frees hp2; clear hp2; have HO2 := Lib.hid hown2; have HF2 := Lib.hid hF2; clear hown2 hF2)
      have HN := Lib.hid (HIR.out.step ⟨by omega, by omega⟩ HC.out HROW.out HO2.out HF2.out)
      go_roundw
      case rel => exact ⟨k + 1, bs ++ [wr.heap.size], by go_num, by omega, HN.out⟩
      case measure => simp [intOf]; omega
    · obtain rfl : k = n := by omega
      have g3 : decide ((k : Int) < k) = false := by simp
      go_wp2_with fail
      go_ret2
      exact ⟨w.heap.size + 1, w.heap.size, bs, rfl, HIR.out.done h1 h2, HIR.out.frm, fun j hj => by
        rcases hj with rfl | rfl | hj
        · omega
        · exact Nat.le_refl _
        · exact HIR.out.lo j hj⟩
end Go.Proofs.Ytmkkeglcjbogcaa
namespace Go.Proofs.Ytmkkeglcjbogcaa
open Go.RowKit
open List (getElem_toArray getElem_cons_zero getElem_cons_succ setIfInBounds_toArray set_cons_zero set_cons_succ)
set_option linter.unusedVariables false
set_option linter.unusedSimpArgs false

set_option maxRecDepth 100000 in
theorem wsame_any (w : World) (B1 B2 : Nat) (v1 v2 : Value) (l : List Int) (h1 : RowI w B1 v1 l) (h2 : RowI w B2 v2 l) : Calls Try.prog 47 #[v1, v2] w fun e w' => e = .returned (.bool true) ∧ Frm (fun _ => False) w w' := by
  obtain ⟨A1, cap1, rfl, hc1, hm1, h3⟩ := row_open h1
  obtain ⟨A2, cap2, rfl, hc2, hm2, h4⟩ := row_open h2
  obtain ⟨n, hn⟩ : ∃ n, n = l.length := ⟨_, rfl⟩
  rw [← hn] at h1 h2 h3 h4 ⊢
  have hnm : n ≤ 9223372036854775807 := by unfold maxLen at hm1; omega
  have H3 := Lib.hid h3
  have H4 := Lib.hid h4
  have HN := Lib.hid hn
  clear h1 h2 h3 h4 hn hc1 hm1 hc2 hm2
  go_enter Try.func47, Try.ntmps47
  go_wp2_with fail
  try go_frame
  go_loopw [5] (fun i wr => ∃ k : Nat, k ≤ n ∧ i = .int .i64 k ∧ Frm (fun _ => False) w wr) (fun i _ => n - (intOf i).toNat)
  case atStart => exact ⟨0, Nat.zero_le _, rfl, Frm.refl _ _⟩
  case round =>
    obtain ⟨k, hk, rfl, hF⟩ := hrel
    by_cases hlt : k < n
    · obtain ⟨g1, rfl, _, _, _, e1⟩ := H3.out (by omega)
      obtain ⟨g2, rfl, _, _, _, e2⟩ := H4.out (by omega)
      have hkl : k < l.length := by rw [← HN.out]; exact hlt
      have f1 : w.cell? ⟨g1, k, none⟩ = some (.int .i64 l[k]) := by rw [e1 k (by omega)]; simp [hkl, keyI]
      have f2 : w.cell? ⟨g2, k, none⟩ = some (.int .i64 l[k]) := by rw [e2 k (by omega)]; simp [hkl, keyI]
      have HC := Lib.hid (fun W (h : Frm (fun _ => False) wr W) => (⟨(hF.trans' h).cell f1 (fun h => h), (hF.trans' h).cell f2 (fun h => h)⟩ : _ ∧ _))
      have hkn : (k : Int) < (n : Int) := by omega
      have g3 : (l[k] != l[k]) = false := by simp
      have HF := Lib.hid hF
      clear e1 e2 f1 f2 hF
      go_wp2_with fail
      refine wp_region_held_drew (S := fun W => Frm (fun _ => False) wr W) (by kernel_rfl) ((Frm.refl _ _).drew) (fun hHeld => ?_)
      refine wpAnyH_take (i := 0) (v := ?_) rfl (by kernel_rfl) (by kernel_rfl) (by kernel_rfl) (fun _ _ _ h => h) (Or.inl ⟨by rfl, ?_⟩) (by assumption) ?_; rotate_left; · (intro wq hSq; have hq := HC.out wq hSq; go_split_ands; go_simp; (try with_reducible rfl))
      try simp only [Act.put, getElem_toArray, getElem_cons_zero, getElem_cons_succ, setIfInBounds_toArray, set_cons_zero, set_cons_succ]
      refine wpAnyH_take (i := 1) (v := ?_) rfl (by kernel_rfl) (by kernel_rfl) (by kernel_rfl) (fun _ _ _ h => h) (Or.inl ⟨by rfl, ?_⟩) (by assumption) ?_; rotate_left; · (intro wq hSq; have hq := HC.out wq hSq; go_split_ands; go_simp; (try with_reducible rfl))
      try simp only [Act.put, getElem_toArray, getElem_cons_zero, getElem_cons_succ, setIfInBounds_toArray, set_cons_zero, set_cons_succ]
      refine wpAnyH_take (i := 2) (v := ?_) rfl (by kernel_rfl) (by kernel_rfl) (by kernel_rfl) (fun _ _ _ h => h) (Or.inl ⟨by rfl, ?_⟩) (by assumption) ?_; rotate_left; · (intro wq hSq; have hq := HC.out wq hSq; go_split_ands; go_simp; (try with_reducible rfl))
      try simp only [Act.put, getElem_toArray, getElem_cons_zero, getElem_cons_succ, setIfInBounds_toArray, set_cons_zero, set_cons_succ]
      refine wpAnyH_take (i := 3) (v := ?_) rfl (by kernel_rfl) (by kernel_rfl) (by kernel_rfl) (fun _ _ _ h => h) (Or.inl ⟨by rfl, ?_⟩) (by assumption) ?_; rotate_left; · (intro wq hSq; have hq := HC.out wq hSq; go_split_ands; go_simp; (try with_reducible rfl))
      try simp only [Act.put, getElem_toArray, getElem_cons_zero, getElem_cons_succ, setIfInBounds_toArray, set_cons_zero, set_cons_succ]
      refine wpAnyH_take (i := 4) (v := ?_) rfl (by kernel_rfl) (by kernel_rfl) (by kernel_rfl) (fun _ _ _ h => h) (Or.inl ⟨by rfl, ?_⟩) (by assumption) ?_; rotate_left; · (intro wq hSq; have hq := HC.out wq hSq; go_split_ands; go_simp; (try with_reducible rfl))
      try simp only [Act.put, getElem_toArray, getElem_cons_zero, getElem_cons_succ, setIfInBounds_toArray, set_cons_zero, set_cons_succ]
      refine wpAnyH_take (i := 5) (v := ?_) rfl (by kernel_rfl) (by kernel_rfl) (by kernel_rfl) (fun _ _ _ h => h) (Or.inl ⟨by rfl, ?_⟩) (by assumption) ?_; rotate_left; · (intro wq hSq; have hq := HC.out wq hSq; go_split_ands; go_simp; (try with_reducible rfl))
      try simp only [Act.put, getElem_toArray, getElem_cons_zero, getElem_cons_succ, setIfInBounds_toArray, set_cons_zero, set_cons_succ]
      refine wpAnyH_take (i := 6) (v := ?_) rfl (by kernel_rfl) (by kernel_rfl) (by kernel_rfl) (fun _ _ _ h => h) (Or.inl ⟨by rfl, ?_⟩) (by assumption) ?_; rotate_left; · (intro wq hSq; have hq := HC.out wq hSq; go_split_ands; go_simp; (try with_reducible rfl))
      try simp only [Act.put, getElem_toArray, getElem_cons_zero, getElem_cons_succ, setIfInBounds_toArray, set_cons_zero, set_cons_succ]
      refine wpAnyH_take (i := 7) (v := ?_) rfl (by kernel_rfl) (by kernel_rfl) (by kernel_rfl) (fun _ _ _ h => h) (Or.inl ⟨by rfl, ?_⟩) (by assumption) ?_; rotate_left; · (intro wq hSq; have hq := HC.out wq hSq; go_split_ands; go_simp; (try with_reducible rfl))
      try simp only [Act.put, getElem_toArray, getElem_cons_zero, getElem_cons_succ, setIfInBounds_toArray, set_cons_zero, set_cons_succ]
      refine wpAnyH_take (i := 8) (v := ?_) rfl (by kernel_rfl) (by kernel_rfl) (by kernel_rfl) (fun _ _ _ h => h) (Or.inl ⟨by rfl, ?_⟩) (by assumption) ?_; rotate_left; · (intro wq hSq; have hq := HC.out wq hSq; go_split_ands; go_simp; (try with_reducible rfl))
      try simp only [Act.put, getElem_toArray, getElem_cons_zero, getElem_cons_succ, setIfInBounds_toArray, set_cons_zero, set_cons_succ]
      refine wpAnyH_done (by kernel_rfl) ?_ _
      go_wp2_with fail
      go_roundw
      case rel => exact ⟨k + 1, hlt, by go_num, HF.out.trans' hHeld⟩
      case measure => simp [intOf]; omega
    · obtain rfl : k = n := by omega
      have hkn : ¬ (k : Int) < (k : Int) := by omega
      go_wp2_with fail
      go_ret
      exact ⟨rfl, hF⟩
theorem lvw1 : Wh.add ⟨[], 0, 0⟩ 3 7 = (⟨[⟨1, 3, 0, 7⟩], 0, 1⟩, 1, 0) := by rfl
theorem lvw2 : Wh.every ⟨[⟨1, 3, 0, 7⟩], 0, 1⟩ 1 2 5 = (⟨[⟨1, 3, 0, 7⟩, ⟨2, 1, 2, 5⟩], 0, 2⟩, 2, 0) := by rfl
theorem lvw3 : Wh.tick ⟨[⟨1, 3, 0, 7⟩, ⟨2, 1, 2, 5⟩], 0, 2⟩ 4 = (⟨[⟨2, 5, 2, 5⟩], 4, 2⟩, [5, 7, 5]) := by kernel_rfl
theorem fits0 : Wh.fits ⟨[], 0, 0⟩ := ⟨⟨.nil, by simp, by simp, by simp, by decide, by decide⟩, by decide, by decide⟩
theorem fits1 : Wh.fits ⟨[⟨1, 3, 0, 7⟩], 0, 1⟩ := ⟨⟨by simp, by simp, by simp, by simp, by decide, by decide⟩, by decide, by decide⟩
theorem fits2 : Wh.fits ⟨[⟨1, 3, 0, 7⟩, ⟨2, 1, 2, 5⟩], 0, 2⟩ := ⟨⟨by simp, by simp, by simp, by simp, by decide, by decide⟩, by decide, by decide⟩
set_option maxRecDepth 100000 in
set_option maxHeartbeats 2000000 in
theorem wlives_any (w : World) : Calls Try.prog 51 #[] w fun e w' => e = .returned (.bool true) ∧ Frm (fun _ => False) w w' := by
  have HNW := Lib.hid (wnew_any 3 w (by decide) (by decide))
  go_enter Try.func51, Try.ntmps51
  go_wp2_with (first
    | (go_at_call 43; refine HNW.out.mono ?_; rintro e w1 ⟨p, bw, bs, rfl, hA1, hF1, hlo⟩; have HLO := Lib.hid hlo; have HAD := Lib.hid (wadd_any w1 p 3 bw bs ⟨[], 0, 0⟩ 3 7 hA1 fits0); have HF1 := Lib.hid hF1; rw [lvw1] at HAD; unfold ptrW at HAD ⊢; clear hA1 hF1 hlo)
    | (go_at_call 44; refine HAD.out.mono ?_; rintro e w2 ⟨rfl, hA2, hF2⟩; have HEV := Lib.hid (wevery_any w2 p 3 bw bs ⟨[⟨1, 3, 0, 7⟩], 0, 1⟩ 1 2 5 hA2 fits1); have HF2 := Lib.hid hF2; rw [lvw2] at HEV; unfold ptrW at HEV; clear hA2 hF2)
    | (go_at_call 45; refine HEV.out.mono ?_; rintro e w3 ⟨rfl, hA3, hF3⟩; have HTK := Lib.hid (wtick_any w3 p 3 bw bs ⟨[⟨1, 3, 0, 7⟩, ⟨2, 1, 2, 5⟩], 0, 2⟩ 4 hA3 fits2 (by decide)); have HF3 := Lib.hid hF3; rw [lvw3] at HTK; unfold ptrW at HTK; clear hA3 hF3)
    | (go_at_call 48; refine HTK.out.mono ?_; rintro e w4 ⟨v4, rfl, hA4, hr4, hF4⟩; have HA4 := Lib.hid hA4; have HR4 := Lib.hid hr4; have HF4 := Lib.hid hF4; clear hA4 hr4 hF4))
  have hF14 : Frm (fun _ => False) w w4 := (HF1.out.trans (HF2.out.trans' (HF3.out.trans' HF4.out)) (fun i hi h => by have := HLO.out i h; omega))
  have HF14 := Lib.hid hF14
  have hF5 : Frm (fun _ => False) w4 (w4.alloc (.cells #[.int .i64 5, .int .i64 7, .int .i64 5] 3 (0, 0))) := (Frm.refl _ _).alloc _
  have hrow : RowI (w4.alloc (.cells #[.int .i64 5, .int .i64 7, .int .i64 5] 3 (0, 0))) 0 (.slice (some ⟨w4.heap.size, 0, none⟩) 3 3) [5, 7, 5] := row_new rfl rfl rfl (by decide) (Nat.zero_le _)
  have HSM := Lib.hid (wsame_any _ w3.heap.size 0 v4 (.slice (some ⟨w4.heap.size, 0, none⟩) 3 3) [5, 7, 5] (hF5.row HR4.out (fun _ _ h => h)) hrow)
  have HA5 := Lib.hid (HA4.out.grow hF5)
  have HF5 := Lib.hid hF5
  clear hF14 hF5 hrow
  refine HSM.out.mono ?_
  rintro e w6 ⟨rfl, hF6⟩
  have HNO := Lib.hid (wnow_any w6 p 3 bw bs _ (HA5.out.grow hF6))
  have HLE := Lib.hid (wlen_any w6 p 3 bw bs _ (HA5.out.grow hF6))
  have HF6 := Lib.hid hF6
  unfold ptrW at HNO HLE
  simp only [List.length_cons, List.length_nil] at HLE
  clear hF6
  go_wp2_with (first | (go_at_call 50; refine HNO.out.mono ?_; rintro e w7 ⟨rfl, rfl⟩) | (go_at_call 49; refine HLE.out.mono ?_; rintro e w8 ⟨rfl, rfl⟩))
  go_ret
  exact ⟨rfl, (HF14.out.trans' HF5.out).trans' HF6.out⟩
end Go.Proofs.Ytmkkeglcjbogcaa
