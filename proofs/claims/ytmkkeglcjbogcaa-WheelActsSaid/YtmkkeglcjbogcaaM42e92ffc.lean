/-
  The document's wheel: Add.
-/
import Derived.Test.YtmkkeglcjbogcaaMaa5f9879
set_option linter.unusedVariables false
set_option linter.unusedSimpArgs false
namespace Go.Proofs.Ytmkkeglcjbogcaa
open Go.RowKit
set_option linter.unusedVariables false
set_option linter.unusedSimpArgs false

theorem el_RT : El Try.prog 113 165 4 32 := El.of Try.underlying113 (z := .agg #[.int .i64 0, .int .u64 0, .int .u64 0, .int .i64 0]) (by kernel_rfl) rfl (by decide)
theorem encT_one (now : Int) (l : List Tm) : ∀ u ∈ cellsOf (encT now) l, u.oneCell' = true := fun u hu => by
  unfold cellsOf at hu
  obtain ⟨t, _, ht⟩ := List.mem_flatMap.1 hu
  simp only [encT, List.mem_cons, List.not_mem_nil, or_false] at ht
  rcases ht with rfl | rfl | rfl | rfl <;> rfl
theorem encT_length (now : Int) (l : List Tm) : (cellsOf (encT now) l).length = l.length * 4 := cellsOf_length (encT_len now) l
theorem encT_snoc (now : Int) (l : List Tm) (t : Tm) : cellsOf (encT now) (l ++ [t]) = cellsOf (encT now) l ++ encT now t := by simp [cellsOf]
theorem RWAt.news {w : World} {d : Nat} {v : Value} {s : Wh} (h : RWAt w d v s) {A : Option Addr} {n cap : Nat} (hv : v = .slice A n cap) : 0 < n → NewsOf w A (cellsOf (encT s.now) s.tm) := fun h0 => by
  subst hv
  obtain ⟨A', cap', e, _, _, h3⟩ := row_open h.row
  simp only [Value.slice.injEq] at e
  obtain ⟨rfl, rfl, rfl⟩ := e
  obtain ⟨g, rfl, _, _, _, hc⟩ := h3 h0
  refine ⟨g, 0, rfl, fun j u hj => ?_⟩
  have hjl : j < s.tm.length * 4 := by rw [← encT_length]; exact (List.getElem?_eq_some_iff.1 hj).1
  rw [Nat.zero_add, hc j hjl, hj]
theorem wp_cloneW {P : Program} {o : Oper} {a : Act} {K : Act → World → Prop} {Q : Exit → Act → World → Prop} {w : World} {t e : TypeId} {size bytes B : Nat} (E : El P t e size bytes) (s x : Operand)
    (ho : o.op = .call { callee := .builtin .append, args := #[s, x], argTypes := #[t, t] }) {v : Value} {m c : Nat} {A : Option Addr} {news : List Value} (hs : a.eval s = v) (hx : a.eval x = .slice A m c)
    (hown : w.ownsRow B e size v 0 []) (hl : news.length = m * size) (hnews : 0 < m → NewsOf w A news) (h1 : ∀ u ∈ news, u.oneCell' = true)
    (h63 : m ≤ maxLen) (hbytes : m * bytes ≤ 140737488355328) (hbase : B ≤ w.heap.size)
    (h : ∀ A' cap w', w'.ownsRow B e size (.slice A' m cap) m news → Frm (fun k => v.ownBlock = some k) w w' → (∀ k, (Value.slice A' m cap).ownBlock = some k → v.ownBlock = some k ∨ w.heap.size = k) → K (a.put o.dst (.slice A' m cap)) w') : o.wp P a w K Q := by
  obtain ⟨i, z, hi, hz, h2, h3, h4⟩ := E.ex
  by_cases hm : 0 < m
  · obtain ⟨g, off, rfl, hc⟩ := hnews hm
    refine wp_append_lies w s x t ho B e i z size bytes E.ht hi hz h2 h3 h4 E.pos v 0 [] hs hown ⟨g, off, none⟩ m c news hx hl (fun j u hj => by rw [add_off]; exact hc j u hj) h1 hm (by omega) (by rw [Nat.zero_add]; exact hbytes) hbase w.heap.size rfl ?_
    intro g cap w' ho' hg' hat hlt
    rw [Nat.zero_add, List.nil_append] at ho'
    rw [Nat.zero_add]
    exact h _ cap w' ho' ((Frm.refl _ _).grown hg' (fun k hk _ => hk)) (fun k hk => by simp only [Value.ownBlock, Option.some.injEq] at hk; subst hk; exact hat.imp id Eq.symm)
  · obtain rfl : m = 0 := by omega
    have hn : news = [] := List.eq_nil_of_length_eq_zero (by simpa using hl)
    subst hn
    obtain ⟨A', cap, rfl, _⟩ := row_open hown
    have hr := run_append_empty (P := P) (ty := o.type) E.ht hi hown A c
    unfold Oper.wp execOp
    simp only [ho, resolve, invoke, builtin, Sem.run_bind, Sem.run_pure, Result.andThen_ok, List.map_toArray, List.map_cons, List.map_nil, hs, hx, hr]
    exact h A' cap w (by simpa using hown) (Frm.refl _ _) (fun k hk => .inl hk)
theorem own_eq {g n c k : Nat} (h : (Value.slice (some ⟨g, 0, none⟩) n c).ownBlock = some k) : g = k := Option.some.inj h
theorem keep_new {w0 w1 w2 : World} {g n c : Nat} (h : Frm (fun _ => False) w0 w1) (hF : Frm (fun k => (Value.slice (some ⟨g, 0, none⟩) n c).ownBlock = some k) w1 w2) (hg : w0.heap.size ≤ g) : Frm (fun _ => False) w0 w2 :=
  h.trans hF (fun i hi e => by simp only [Value.ownBlock, Option.some.injEq] at e; omega)
def Wh.radd (s : Wh) (after per : Int) (again : Bool) (what : Int) : Wh × Int × Int := if again then s.every after per what else s.add after what
def RAddPost (d : Nat) (r : Wh × Int × Int) (w : World) (e : Ending) (w' : World) : Prop := e = .returned (.tuple #[.int .i64 r.2.1, .int .i64 r.2.2]) ∧ ∃ v', RWAt w' d v' r.1 ∧ Frm (One d) w w'
theorem RWAt.push {w1 w5 : World} {d : Nat} {v v5 : Value} {s : Wh} (t : Tm) (h : RWAt w1 d v s) (hF : Frm (fun _ => False) w1 w5) (hown : w5.ownsRow 0 165 4 v5 (s.tm.length + 1) (cellsOf (encT s.now) s.tm ++ encT s.now t)) : RWAt (w5.setCell ⟨d, 0, none⟩ v5) d v5 ⟨s.tm ++ [t], s.now, s.last⟩ := by
  have hc := hF.heap h.cell (fun h => h)
  refine ⟨heap_set_at hc rfl, ?_⟩
  show (w5.setCell ⟨d, 0, none⟩ v5).ownsRow 0 165 4 v5 (s.tm ++ [t]).length (cellsOf (encT s.now) (s.tm ++ [t]))
  rw [List.length_append, List.length_singleton, encT_snoc]
  refine Frm.row (Frm.set1 (Frm.refl (One d) w5) (o := 0) v5) hown (fun k hk e => ?_)
  have e : k = d := e
  subst e
  obtain ⟨_, cur, hcur⟩ := row_block hown hk
  rw [hc] at hcur
  cases hcur
set_option maxRecDepth 100000 in
set_option maxHeartbeats 4000000 in
theorem radd_ok (w : World) (d : Nat) (v : Value) (s : Wh) (after per what : Int) (again : Bool) (h : RWAt w d v s) (hs : s.fits) (hw : withinW after = true) (hw2 : again = true → withinW per = true) (hlen : s.tm.length < 1024) (pp : Int) (hpp : pp = if again then per else 0) :
    Calls Try.prog 83 #[ptrW d, .int .u64 after, .int .u64 per, .bool again, .int .i64 what] w (RAddPost d (⟨s.tm ++ [⟨s.last + 1, s.now + after, pp, what⟩], s.now, s.last + 1⟩, s.last + 1, 0) w) := by
  obtain ⟨A, cap, rfl, hc1, hc2, _⟩ := h.open_
  obtain ⟨n, hn⟩ : ∃ n, n = s.tm.length := ⟨_, rfl⟩
  have k0 : w.cell? ⟨d, 0, none⟩ = some (.slice A s.tm.length cap) := cell_at h.cell
  have k2 : w.cell? ⟨d, 2, none⟩ = some (.int .i64 s.last) := cell_at h.cell
  have kf := frees h.cell
  rw [← hn] at hc1 hlen k0
  have H := Lib.hid h
  rw [← hn] at H
  have HN : Hid (s.tm.length = n) := hn.symm
  obtain ⟨hl0, hl1⟩ := hs.last
  have hnm : n ≤ 9223372036854775807 := by omega
  have HW1 := Lib.hid (fun W => rwwithin_any after W)
  have HW2 := Lib.hid (fun W => rwwithin_any per W)
  rw [hw] at HW1
  have hRW1 : RWAt (w.setCell ⟨d, 2, none⟩ (.int .i64 (s.last + 1))) d (.slice A n cap) ⟨s.tm, s.now, s.last + 1⟩ := by
    refine ⟨heap_set_at H.out.cell rfl, Frm.row (Frm.set1 (Frm.refl (One d) w) (o := 2) _) H.out.row (fun k hk e => ?_)⟩
    have e : k = d := e
    subst e
    exact H.out.ne hk
  have HRW1 := Lib.hid hRW1
  unfold ptrW
  clear h hs hn hRW1 hw
  cases again with
  | false =>
    simp only [Bool.false_eq_true, if_false] at hpp
    subst hpp
    clear hw2
    go_enter Try.func83, Try.ntmps83
    go_upto_region 8 with (go_at_call 110; refine (HW1.out _).mono ?_; rintro e w' ⟨rfl, rfl⟩)
    have hwD : RWAt (w.setCell ⟨d, 2, none⟩ (.int .i64 (s.last + 1))).drew d (.slice A n cap) ⟨s.tm, s.now, s.last + 1⟩ := HRW1.out.grow ((Frm.refl _ _).drew)
    have hf1 : Frm (One d) w (w.setCell ⟨d, 2, none⟩ (.int .i64 (s.last + 1))).drew := Frm.drew (Frm.set1 (Frm.refl (One d) w) (o := 2) _)
    have c0 : (w.setCell ⟨d, 2, none⟩ (.int .i64 (s.last + 1))).drew.cell? ⟨d, 0, none⟩ = some (.slice A n cap) := cell_at hwD.cell
    have c2 : (w.setCell ⟨d, 2, none⟩ (.int .i64 (s.last + 1))).drew.cell? ⟨d, 2, none⟩ = some (.int .i64 (s.last + 1)) := cell_at hwD.cell
    refine wp_region_L (S := fun W => Frm (fun _ => False) (w.setCell ⟨d, 2, none⟩ (.int .i64 (s.last + 1))).drew W) 19 (by kernel_rfl) (Frm.refl _ _) (fun hHeld => ?_)
    obtain ⟨wD, hwDe⟩ : ∃ wD, wD = (w.setCell ⟨d, 2, none⟩ (.int .i64 (s.last + 1))).drew := ⟨_, rfl⟩
    rw [← hwDe] at hwD hf1 c0 c2 hHeld ⊢
    have HRW := Lib.hid hwD
    have HF1 := Lib.hid hf1
    have HNW := Lib.hid (hwD.news rfl)
    have HCC := Lib.hid (fun W (h : Frm (fun _ => False) wD W) => (⟨h.cell c0 (fun h => h), h.cell c2 (fun h => h)⟩ : _ ∧ _))
    have hn24 : n ≤ 1024 := by omega
    clear hwDe hwD hf1 c0 c2 k0 k2 kf
    refine wpAnyL_take (i := 0) (v := ?_) rfl (by kernel_rfl) (by kernel_rfl) (by kernel_rfl) (by kernel_rfl) (fun _ _ _ h => h) (Or.inl ⟨by rfl, ?_⟩) (by assumption) ?_; rotate_left; · (intro wq hSq; have hq := HCC.out wq hSq; go_split_ands; go_simp; (try with_reducible rfl))
    try simp only [Act.put, List.getElem_toArray, List.getElem_cons_zero, List.getElem_cons_succ, List.setIfInBounds_toArray, List.set_cons_zero, List.set_cons_succ]
    refine wpAnyL_take (i := 2) (v := ?_) rfl (by kernel_rfl) (by kernel_rfl) (by kernel_rfl) (by kernel_rfl) (fun _ _ _ h => h) (Or.inl ⟨by rfl, ?_⟩) (by assumption) ?_; rotate_left; · (intro wq hSq; have hq := HCC.out wq hSq; go_split_ands; go_simp; (try with_reducible rfl))
    try simp only [Act.put, List.getElem_toArray, List.getElem_cons_zero, List.getElem_cons_succ, List.setIfInBounds_toArray, List.set_cons_zero, List.set_cons_succ]
    refine wpAnyL_take (i := 3) (v := ?_) rfl (by kernel_rfl) (by kernel_rfl) (by kernel_rfl) (by kernel_rfl) (fun _ _ _ h => h) (Or.inl ⟨by rfl, ?_⟩) (by assumption) ?_; rotate_left; · (intro wq hSq; have hq := HCC.out wq hSq; go_split_ands; go_simp; (try with_reducible rfl))
    try simp only [Act.put, List.getElem_toArray, List.getElem_cons_zero, List.getElem_cons_succ, List.setIfInBounds_toArray, List.set_cons_zero, List.set_cons_succ]
    refine wpAnyL_take (i := 4) (v := ?_) rfl (by kernel_rfl) (by kernel_rfl) (by kernel_rfl) (by kernel_rfl) (fun _ _ _ h => h) (Or.inl ⟨by rfl, ?_⟩) (by assumption) ?_; rotate_left; · (intro wq hSq; have hq := HCC.out wq hSq; go_split_ands; go_simp; (try with_reducible rfl))
    try simp only [Act.put, List.getElem_toArray, List.getElem_cons_zero, List.getElem_cons_succ, List.setIfInBounds_toArray, List.set_cons_zero, List.set_cons_succ]
    refine wpAnyL_take (i := 5) (v := ?_) rfl (by kernel_rfl) (by kernel_rfl) (by kernel_rfl) (by kernel_rfl) (fun _ _ _ h => h) (Or.inl ⟨by rfl, ?_⟩) (by assumption) ?_; rotate_left; · (intro wq hSq; have hq := HCC.out wq hSq; go_split_ands; go_simp; (try with_reducible rfl))
    try simp only [Act.put, List.getElem_toArray, List.getElem_cons_zero, List.getElem_cons_succ, List.setIfInBounds_toArray, List.set_cons_zero, List.set_cons_succ]
    refine wpAnyL_take (i := 7) (v := ?_) rfl (by kernel_rfl) (by kernel_rfl) (by kernel_rfl) (by kernel_rfl) (fun _ _ _ h => h) (Or.inl ⟨by rfl, ?_⟩) (by assumption) ?_; rotate_left; · (intro wq hSq; have hq := HCC.out wq hSq; go_split_ands; go_simp; (try with_reducible rfl))
    try simp only [Act.put, List.getElem_toArray, List.getElem_cons_zero, List.getElem_cons_succ, List.setIfInBounds_toArray, List.set_cons_zero, List.set_cons_succ]
    refine wpAnyL_take (i := 8) (v := ?_) rfl (by kernel_rfl) (by kernel_rfl) (by kernel_rfl) (by kernel_rfl) (fun _ _ _ h => h) (Or.inl ⟨by rfl, ?_⟩) (by assumption) ?_; rotate_left; · (intro wq hSq; have hq := HCC.out wq hSq; go_split_ands; go_simp; (try with_reducible rfl))
    try simp only [Act.put, List.getElem_toArray, List.getElem_cons_zero, List.getElem_cons_succ, List.setIfInBounds_toArray, List.set_cons_zero, List.set_cons_succ]
    refine wpAnyL_take (i := 9) (v := ?_) rfl (by kernel_rfl) (by kernel_rfl) (by kernel_rfl) (by kernel_rfl) (fun _ _ _ h => h) (Or.inl ⟨by rfl, ?_⟩) (by assumption) ?_; rotate_left; · (intro wq hSq; have hq := HCC.out wq hSq; go_split_ands; go_simp; (try with_reducible rfl))
    try simp only [Act.put, List.getElem_toArray, List.getElem_cons_zero, List.getElem_cons_succ, List.setIfInBounds_toArray, List.set_cons_zero, List.set_cons_succ]
    refine wpAnyL_take (i := 10) (v := ?_) rfl (by kernel_rfl) (by kernel_rfl) (by kernel_rfl) (by kernel_rfl) (fun _ _ _ h => h) (Or.inl ⟨by rfl, ?_⟩) (by assumption) ?_; rotate_left; · (intro wq hSq; have hq := HCC.out wq hSq; go_split_ands; go_simp; (try with_reducible rfl))
    try simp only [Act.put, List.getElem_toArray, List.getElem_cons_zero, List.getElem_cons_succ, List.setIfInBounds_toArray, List.set_cons_zero, List.set_cons_succ]
    refine wpAnyL_take (i := 11) (v := ?_) rfl (by kernel_rfl) (by kernel_rfl) (by kernel_rfl) (by kernel_rfl) (fun _ _ _ h => h) (Or.inl ⟨by rfl, ?_⟩) (by assumption) ?_; rotate_left; · (intro wq hSq; have hq := HCC.out wq hSq; go_split_ands; go_simp; (try with_reducible rfl))
    try simp only [Act.put, List.getElem_toArray, List.getElem_cons_zero, List.getElem_cons_succ, List.setIfInBounds_toArray, List.set_cons_zero, List.set_cons_succ]
    refine wpAnyL_take (i := 12) (v := ?_) rfl (by kernel_rfl) (by kernel_rfl) (by kernel_rfl) (by kernel_rfl) (fun _ _ _ h => h) (Or.inl ⟨by rfl, ?_⟩) (by assumption) ?_; rotate_left; · (intro wq hSq; have hq := HCC.out wq hSq; go_split_ands; go_simp; (try with_reducible rfl))
    try simp only [Act.put, List.getElem_toArray, List.getElem_cons_zero, List.getElem_cons_succ, List.setIfInBounds_toArray, List.set_cons_zero, List.set_cons_succ]
    refine wpAnyL_take (i := 13) (v := ?_) rfl (by kernel_rfl) (by kernel_rfl) (by kernel_rfl) (by kernel_rfl) (fun _ _ _ h => h) (Or.inl ⟨by rfl, ?_⟩) (by assumption) ?_; rotate_left; · (intro wq hSq; have hq := HCC.out wq hSq; go_split_ands; go_simp; (try with_reducible rfl))
    try simp only [Act.put, List.getElem_toArray, List.getElem_cons_zero, List.getElem_cons_succ, List.setIfInBounds_toArray, List.set_cons_zero, List.set_cons_succ]
    refine wpAnyL_take (i := 14) (v := ?_) rfl (by kernel_rfl) (by kernel_rfl) (by kernel_rfl) (by kernel_rfl) (fun _ _ _ h => h) (Or.inl ⟨by rfl, ?_⟩) (by assumption) ?_; rotate_left; · (intro wq hSq; have hq := HCC.out wq hSq; go_split_ands; go_simp; (try with_reducible rfl))
    try simp only [Act.put, List.getElem_toArray, List.getElem_cons_zero, List.getElem_cons_succ, List.setIfInBounds_toArray, List.set_cons_zero, List.set_cons_succ]
    refine wpAnyL_ready (rs := [1, 15]) (by kernel_rfl) (by simp) ?_
    refine AllReadyL.cons rfl (fun K hK => ?_) (AllReadyL.cons rfl (fun K hK => ?_) AllReadyL.nil)
    · skip
      try simp only [List.getElem_toArray, List.getElem_cons_zero, List.getElem_cons_succ]
      -- the empty slice is made: from wD to wA
      go_simp
      have e1 := empty_row wD 165 4 0 (Nat.zero_le _)
      have f1 : Frm (fun _ => False) wD (wD.alloc (.cells #[] 165)) := (Frm.refl _ _).alloc _
      refine hK.out _ _ (hHeld.trans' f1) (fun hHeld => ?_)
      clear hK K
      try simp only [Act.put, List.setIfInBounds_toArray, List.set_cons_zero, List.set_cons_succ]
      obtain ⟨wA, hwA⟩ : ∃ wA, wA = wD.alloc (.cells #[] 165) := ⟨_, rfl⟩
      rw [← hwA] at e1 f1 hHeld ⊢
      have hsA : wD.heap.size ≤ wD.heap.size := Nat.le_refl _
      have HA := Lib.hid (And.intro e1 (And.intro hsA f1))
      clear e1 f1 hwA hsA
      refine wpAnyL_ready (rs := [6, 15]) (by kernel_rfl) (by simp) ?_
      refine AllReadyL.cons rfl (fun K hK => ?_) (AllReadyL.cons rfl (fun K hK => ?_) AllReadyL.nil)
      · skip
        try simp only [List.getElem_toArray, List.getElem_cons_zero, List.getElem_cons_succ]
        -- the clone, in wc; HA.out.1: the empty slice there
        refine wp_cloneW el_RT (.tmp 39) (.tmp 43) rfl rfl rfl HA.out.1 (news := cellsOf (encT s.now) s.tm) (by rw [encT_length, HN.out]) (fun h0 => (HNW.out h0).grow hHeld) (encT_one _ _) (by unfold maxLen; omega) (by omega) (Nat.zero_le _) ?_
        intro A3 cap3 w3 hown3 hF3 hob
        have hob3 : ∀ k, (Value.slice A3 n cap3).ownBlock = some k → wD.heap.size ≤ k := fun k hk => by
          rcases hob k hk with h | h
          · have e9 := own_eq h
            have := HA.out.2.1
            omega
          · have := hHeld.size
            omega
        clear hob
        have hk3 := keep_new hHeld hF3 HA.out.2.1
        refine hK.out _ _ (hk3) (fun hHeld => ?_)
        clear hK K
        try simp only [Act.put, List.setIfInBounds_toArray, List.set_cons_zero, List.set_cons_succ]
        have HO3 := Lib.hid hown3
        have HOB := Lib.hid hob3
        clear hown3 hF3 hk3 hob3
        refine wpAnyL_ready (rs := [15]) (by kernel_rfl) (by simp) ?_
        refine AllReadyL.cons rfl (fun K hK => ?_) AllReadyL.nil
        try simp only [List.getElem_toArray, List.getElem_cons_zero, List.getElem_cons_succ]
        -- the slice of one is made: from w3 to wB
        go_simp
        have e1 : (w3.alloc (.cells #[.int .i64 (s.last + 1), .int .u64 after, .int .u64 0, .int .i64 what] 165)).heap[w3.heap.size]? = some (.cells #[.int .i64 (s.last + 1), .int .u64 after, .int .u64 0, .int .i64 what] 165 (0, 0)) := heap_new w3 _
        have f1 : Frm (fun _ => False) w3 (w3.alloc (.cells #[.int .i64 (s.last + 1), .int .u64 after, .int .u64 0, .int .i64 what] 165)) := (Frm.refl _ _).alloc _
        refine hK.out _ _ (hHeld.trans' f1) (fun hHeld => ?_)
        clear hK K
        try simp only [Act.put, List.setIfInBounds_toArray, List.set_cons_zero, List.set_cons_succ]
        obtain ⟨wB, hwB⟩ : ∃ wB, wB = w3.alloc (.cells #[.int .i64 (s.last + 1), .int .u64 after, .int .u64 0, .int .i64 what] 165) := ⟨_, rfl⟩
        rw [← hwB] at e1 f1 hHeld ⊢
        have HB := Lib.hid (And.intro e1 f1)
        clear e1 f1 hwB
        refine wpAnyL_ready (rs := [16]) (by kernel_rfl) (by simp) ?_
        refine AllReadyL.cons rfl (fun K hK => ?_) AllReadyL.nil
        try simp only [List.getElem_toArray, List.getElem_cons_zero, List.getElem_cons_succ]
        refine wp_app el_RT (.tmp 44) (.tmp 53) rfl rfl rfl (HB.out.2.row HO3.out (fun _ _ h => h)) HB.out.1 rfl (fun u hu => by simp at hu; rcases hu with rfl | rfl | rfl | rfl <;> rfl) (by decide) (by unfold maxLen; omega) (by omega) (Nat.zero_le _) ?_
        intro g5 cap5 w5 hown5 hF5 hat5 hlt5
        have hk5 := hHeld.trans hF5 (fun i hi h => absurd hi (Nat.not_lt.2 (HOB.out i h)))
        refine hK.out _ _ (hk5) (fun hHeld => ?_)
        clear hK K
        try simp only [Act.put, List.setIfInBounds_toArray, List.set_cons_zero, List.set_cons_succ]
        have hcc := hHeld.heap HRW.out.cell (fun h => h)
        have z0 := cell_at (o := 0) hcc
        simp only [List.getElem?_toArray, List.getElem?_cons_zero] at z0
        have zf := frees hcc
        have hown6 : w5.ownsRow 0 165 4 (.slice (some ⟨g5, 0, none⟩) (n + 1) cap5) (s.tm.length + 1) (cellsOf (encT s.now) s.tm ++ encT s.now ⟨s.last + 1, s.now + after, 0, what⟩) := by
          rw [HN.out]
          have e : encT s.now ⟨s.last + 1, s.now + after, 0, what⟩ = [.int .i64 (s.last + 1), .int .u64 after, .int .u64 0, .int .i64 what] := by unfold encT; simp; omega
          rw [e]
          exact hown5
        have HP := Lib.hid (HRW.out.push ⟨s.last + 1, s.now + after, 0, what⟩ hHeld hown6)
        have HH := Lib.hid hHeld
        have z2 : (w5.setCell ⟨d, 0, none⟩ (.slice (some ⟨g5, 0, none⟩) (n + 1) cap5)).cell? ⟨d, 2, none⟩ = some (.int .i64 (s.last + 1)) := cell_at HP.out.cell
        clear hcc hown5 hown6 hF5 hat5 hlt5
        refine wpAnyL_takem (i := 17) (m := 18) (v := ?_) rfl (by kernel_rfl) (by kernel_rfl) (by kernel_rfl) (by kernel_rfl) (by kernel_rfl) (by kernel_rfl) (fun _ _ _ h => h) (Or.inl ⟨by rfl, ?_⟩) (by assumption) ?_
        rotate_left
        · intro wq hSq
          have hq := (fun _ _ => trivial) wq hSq
          go_split_ands
          go_simp
          try with_reducible rfl
        try simp only [Act.put, List.getElem_toArray, List.getElem_cons_zero, List.getElem_cons_succ, List.setIfInBounds_toArray, List.set_cons_zero, List.set_cons_succ]
        refine wpAnyL_take (i := 18) (v := ?_) rfl (by kernel_rfl) (by kernel_rfl) (by kernel_rfl) (by kernel_rfl) (fun _ _ _ h => h) (Or.inl ⟨by rfl, ?_⟩) (by assumption) ?_; rotate_left; · (intro wq hSq; have hq := (fun _ _ => trivial) wq hSq; go_split_ands; go_simp; (try with_reducible rfl))
        try simp only [Act.put, List.getElem_toArray, List.getElem_cons_zero, List.getElem_cons_succ, List.setIfInBounds_toArray, List.set_cons_zero, List.set_cons_succ]
        refine wpAnyL_ready (rs := [19]) (by kernel_rfl) (by simp) ?_
        refine AllReadyL.last rfl (fun K hK => ?_)
        try simp only [List.getElem_toArray, List.getElem_cons_zero, List.getElem_cons_succ]
        go_simp
        refine hK.out _ _ ?_
        clear hK K
        try simp only [Act.put, List.setIfInBounds_toArray, List.set_cons_zero, List.set_cons_succ]
        refine wpAnyL_done (by kernel_rfl) ?_ _
        obtain ⟨w6, hw6⟩ : ∃ w6, w6 = w5.setCell ⟨d, 0, none⟩ (.slice (some ⟨g5, 0, none⟩) (n + 1) cap5) := ⟨_, rfl⟩
        have hF6 : Frm (One d) w5 (w5.setCell ⟨d, 0, none⟩ (.slice (some ⟨g5, 0, none⟩) (n + 1) cap5)) := (Frm.refl _ _).set1 _
        rw [← hw6] at z2 HP hF6 ⊢
        have HF6 := Lib.hid hF6
        clear hw6 z0 zf hF6
        go_wp2_with fail
        go_ret2
        unfold RAddPost
        exact ⟨rfl, _, HP.out, (HF1.out.trans (HH.out) (fun _ _ h => h.elim)).trans' HF6.out⟩
      · skip
        try simp only [List.getElem_toArray, List.getElem_cons_zero, List.getElem_cons_succ]
        -- the slice of one is made: from wA to wB
        go_simp
        have e1 : (wA.alloc (.cells #[.int .i64 (s.last + 1), .int .u64 after, .int .u64 0, .int .i64 what] 165)).heap[wA.heap.size]? = some (.cells #[.int .i64 (s.last + 1), .int .u64 after, .int .u64 0, .int .i64 what] 165 (0, 0)) := heap_new wA _
        have f1 : Frm (fun _ => False) wA (wA.alloc (.cells #[.int .i64 (s.last + 1), .int .u64 after, .int .u64 0, .int .i64 what] 165)) := (Frm.refl _ _).alloc _
        refine hK.out _ _ (hHeld.trans' f1) (fun hHeld => ?_)
        clear hK K
        try simp only [Act.put, List.setIfInBounds_toArray, List.set_cons_zero, List.set_cons_succ]
        obtain ⟨wB, hwB⟩ : ∃ wB, wB = wA.alloc (.cells #[.int .i64 (s.last + 1), .int .u64 after, .int .u64 0, .int .i64 what] 165) := ⟨_, rfl⟩
        rw [← hwB] at e1 f1 hHeld ⊢
        have HB := Lib.hid (And.intro e1 f1)
        clear e1 f1 hwB
        refine wpAnyL_ready (rs := [6]) (by kernel_rfl) (by simp) ?_
        refine AllReadyL.cons rfl (fun K hK => ?_) AllReadyL.nil
        try simp only [List.getElem_toArray, List.getElem_cons_zero, List.getElem_cons_succ]
        -- the clone, in wc; (HB.out.2.row HA.out.1 (fun _ _ h => h)): the empty slice there
        refine wp_cloneW el_RT (.tmp 39) (.tmp 43) rfl rfl rfl (HB.out.2.row HA.out.1 (fun _ _ h => h)) (news := cellsOf (encT s.now) s.tm) (by rw [encT_length, HN.out]) (fun h0 => (HNW.out h0).grow hHeld) (encT_one _ _) (by unfold maxLen; omega) (by omega) (Nat.zero_le _) ?_
        intro A3 cap3 w3 hown3 hF3 hob
        have hob3 : ∀ k, (Value.slice A3 n cap3).ownBlock = some k → wD.heap.size ≤ k := fun k hk => by
          rcases hob k hk with h | h
          · have e9 := own_eq h
            have := HA.out.2.1
            omega
          · have := hHeld.size
            omega
        clear hob
        have hk3 := keep_new hHeld hF3 HA.out.2.1
        have hn3 := hF3.heap HB.out.1 (fun e => by
          have e9 : wD.heap.size = wA.heap.size := own_eq e
          obtain ⟨_, cur, hcur⟩ := row_block HA.out.1 (k := wD.heap.size) rfl
          have e8 : wD.heap.size < wA.heap.size := lt_of_block hcur
          omega)
        refine hK.out _ _ (hk3) (fun hHeld => ?_)
        clear hK K
        try simp only [Act.put, List.setIfInBounds_toArray, List.set_cons_zero, List.set_cons_succ]
        have HO3 := Lib.hid hown3
        have HOB := Lib.hid hob3
        have HN3 := Lib.hid hn3
        clear hown3 hF3 hk3 hob3 hn3
        refine wpAnyL_ready (rs := [16]) (by kernel_rfl) (by simp) ?_
        refine AllReadyL.cons rfl (fun K hK => ?_) AllReadyL.nil
        try simp only [List.getElem_toArray, List.getElem_cons_zero, List.getElem_cons_succ]
        refine wp_app el_RT (.tmp 44) (.tmp 53) rfl rfl rfl HO3.out HN3.out rfl (fun u hu => by simp at hu; rcases hu with rfl | rfl | rfl | rfl <;> rfl) (by decide) (by unfold maxLen; omega) (by omega) (Nat.zero_le _) ?_
        intro g5 cap5 w5 hown5 hF5 hat5 hlt5
        have hk5 := hHeld.trans hF5 (fun i hi h => absurd hi (Nat.not_lt.2 (HOB.out i h)))
        refine hK.out _ _ (hk5) (fun hHeld => ?_)
        clear hK K
        try simp only [Act.put, List.setIfInBounds_toArray, List.set_cons_zero, List.set_cons_succ]
        have hcc := hHeld.heap HRW.out.cell (fun h => h)
        have z0 := cell_at (o := 0) hcc
        simp only [List.getElem?_toArray, List.getElem?_cons_zero] at z0
        have zf := frees hcc
        have hown6 : w5.ownsRow 0 165 4 (.slice (some ⟨g5, 0, none⟩) (n + 1) cap5) (s.tm.length + 1) (cellsOf (encT s.now) s.tm ++ encT s.now ⟨s.last + 1, s.now + after, 0, what⟩) := by
          rw [HN.out]
          have e : encT s.now ⟨s.last + 1, s.now + after, 0, what⟩ = [.int .i64 (s.last + 1), .int .u64 after, .int .u64 0, .int .i64 what] := by unfold encT; simp; omega
          rw [e]
          exact hown5
        have HP := Lib.hid (HRW.out.push ⟨s.last + 1, s.now + after, 0, what⟩ hHeld hown6)
        have HH := Lib.hid hHeld
        have z2 : (w5.setCell ⟨d, 0, none⟩ (.slice (some ⟨g5, 0, none⟩) (n + 1) cap5)).cell? ⟨d, 2, none⟩ = some (.int .i64 (s.last + 1)) := cell_at HP.out.cell
        clear hcc hown5 hown6 hF5 hat5 hlt5
        refine wpAnyL_takem (i := 17) (m := 18) (v := ?_) rfl (by kernel_rfl) (by kernel_rfl) (by kernel_rfl) (by kernel_rfl) (by kernel_rfl) (by kernel_rfl) (fun _ _ _ h => h) (Or.inl ⟨by rfl, ?_⟩) (by assumption) ?_
        rotate_left
        · intro wq hSq
          have hq := (fun _ _ => trivial) wq hSq
          go_split_ands
          go_simp
          try with_reducible rfl
        try simp only [Act.put, List.getElem_toArray, List.getElem_cons_zero, List.getElem_cons_succ, List.setIfInBounds_toArray, List.set_cons_zero, List.set_cons_succ]
        refine wpAnyL_take (i := 18) (v := ?_) rfl (by kernel_rfl) (by kernel_rfl) (by kernel_rfl) (by kernel_rfl) (fun _ _ _ h => h) (Or.inl ⟨by rfl, ?_⟩) (by assumption) ?_; rotate_left; · (intro wq hSq; have hq := (fun _ _ => trivial) wq hSq; go_split_ands; go_simp; (try with_reducible rfl))
        try simp only [Act.put, List.getElem_toArray, List.getElem_cons_zero, List.getElem_cons_succ, List.setIfInBounds_toArray, List.set_cons_zero, List.set_cons_succ]
        refine wpAnyL_ready (rs := [19]) (by kernel_rfl) (by simp) ?_
        refine AllReadyL.last rfl (fun K hK => ?_)
        try simp only [List.getElem_toArray, List.getElem_cons_zero, List.getElem_cons_succ]
        go_simp
        refine hK.out _ _ ?_
        clear hK K
        try simp only [Act.put, List.setIfInBounds_toArray, List.set_cons_zero, List.set_cons_succ]
        refine wpAnyL_done (by kernel_rfl) ?_ _
        obtain ⟨w6, hw6⟩ : ∃ w6, w6 = w5.setCell ⟨d, 0, none⟩ (.slice (some ⟨g5, 0, none⟩) (n + 1) cap5) := ⟨_, rfl⟩
        have hF6 : Frm (One d) w5 (w5.setCell ⟨d, 0, none⟩ (.slice (some ⟨g5, 0, none⟩) (n + 1) cap5)) := (Frm.refl _ _).set1 _
        rw [← hw6] at z2 HP hF6 ⊢
        have HF6 := Lib.hid hF6
        clear hw6 z0 zf hF6
        go_wp2_with fail
        go_ret2
        unfold RAddPost
        exact ⟨rfl, _, HP.out, (HF1.out.trans (HH.out) (fun _ _ h => h.elim)).trans' HF6.out⟩
    · skip
      try simp only [List.getElem_toArray, List.getElem_cons_zero, List.getElem_cons_succ]
      -- the slice of one is made: from wD to wB
      go_simp
      have e1 : (wD.alloc (.cells #[.int .i64 (s.last + 1), .int .u64 after, .int .u64 0, .int .i64 what] 165)).heap[wD.heap.size]? = some (.cells #[.int .i64 (s.last + 1), .int .u64 after, .int .u64 0, .int .i64 what] 165 (0, 0)) := heap_new wD _
      have f1 : Frm (fun _ => False) wD (wD.alloc (.cells #[.int .i64 (s.last + 1), .int .u64 after, .int .u64 0, .int .i64 what] 165)) := (Frm.refl _ _).alloc _
      refine hK.out _ _ (hHeld.trans' f1) (fun hHeld => ?_)
      clear hK K
      try simp only [Act.put, List.setIfInBounds_toArray, List.set_cons_zero, List.set_cons_succ]
      obtain ⟨wB, hwB⟩ : ∃ wB, wB = wD.alloc (.cells #[.int .i64 (s.last + 1), .int .u64 after, .int .u64 0, .int .i64 what] 165) := ⟨_, rfl⟩
      rw [← hwB] at e1 f1 hHeld ⊢
      have HB := Lib.hid (And.intro e1 f1)
      clear e1 f1 hwB
      refine wpAnyL_ready (rs := [1]) (by kernel_rfl) (by simp) ?_
      refine AllReadyL.cons rfl (fun K hK => ?_) AllReadyL.nil
      try simp only [List.getElem_toArray, List.getElem_cons_zero, List.getElem_cons_succ]
      -- the empty slice is made: from wB to wA
      go_simp
      have e1 := empty_row wB 165 4 0 (Nat.zero_le _)
      have f1 : Frm (fun _ => False) wB (wB.alloc (.cells #[] 165)) := (Frm.refl _ _).alloc _
      refine hK.out _ _ (hHeld.trans' f1) (fun hHeld => ?_)
      clear hK K
      try simp only [Act.put, List.setIfInBounds_toArray, List.set_cons_zero, List.set_cons_succ]
      obtain ⟨wA, hwA⟩ : ∃ wA, wA = wB.alloc (.cells #[] 165) := ⟨_, rfl⟩
      rw [← hwA] at e1 f1 hHeld ⊢
      have hsA : wD.heap.size ≤ wB.heap.size := HB.out.2.size
      have HA := Lib.hid (And.intro e1 (And.intro hsA f1))
      clear e1 f1 hwA hsA
      refine wpAnyL_ready (rs := [6]) (by kernel_rfl) (by simp) ?_
      refine AllReadyL.cons rfl (fun K hK => ?_) AllReadyL.nil
      try simp only [List.getElem_toArray, List.getElem_cons_zero, List.getElem_cons_succ]
      -- the clone, in wc; HA.out.1: the empty slice there
      refine wp_cloneW el_RT (.tmp 39) (.tmp 43) rfl rfl rfl HA.out.1 (news := cellsOf (encT s.now) s.tm) (by rw [encT_length, HN.out]) (fun h0 => (HNW.out h0).grow hHeld) (encT_one _ _) (by unfold maxLen; omega) (by omega) (Nat.zero_le _) ?_
      intro A3 cap3 w3 hown3 hF3 hob
      have hob3 : ∀ k, (Value.slice A3 n cap3).ownBlock = some k → wD.heap.size ≤ k := fun k hk => by
        rcases hob k hk with h | h
        · have e9 := own_eq h
          have := HA.out.2.1
          omega
        · have := hHeld.size
          omega
      clear hob
      have hk3 := keep_new hHeld hF3 HA.out.2.1
      have hn3 := hF3.heap (HA.out.2.2.heap HB.out.1 (fun h => h)) (fun e => by
        have e9 : wB.heap.size = wD.heap.size := own_eq e
        have e8 : wD.heap.size < wB.heap.size := lt_of_block HB.out.1
        omega)
      refine hK.out _ _ (hk3) (fun hHeld => ?_)
      clear hK K
      try simp only [Act.put, List.setIfInBounds_toArray, List.set_cons_zero, List.set_cons_succ]
      have HO3 := Lib.hid hown3
      have HOB := Lib.hid hob3
      have HN3 := Lib.hid hn3
      clear hown3 hF3 hk3 hob3 hn3
      refine wpAnyL_ready (rs := [16]) (by kernel_rfl) (by simp) ?_
      refine AllReadyL.cons rfl (fun K hK => ?_) AllReadyL.nil
      try simp only [List.getElem_toArray, List.getElem_cons_zero, List.getElem_cons_succ]
      refine wp_app el_RT (.tmp 44) (.tmp 53) rfl rfl rfl HO3.out HN3.out rfl (fun u hu => by simp at hu; rcases hu with rfl | rfl | rfl | rfl <;> rfl) (by decide) (by unfold maxLen; omega) (by omega) (Nat.zero_le _) ?_
      intro g5 cap5 w5 hown5 hF5 hat5 hlt5
      have hk5 := hHeld.trans hF5 (fun i hi h => absurd hi (Nat.not_lt.2 (HOB.out i h)))
      refine hK.out _ _ (hk5) (fun hHeld => ?_)
      clear hK K
      try simp only [Act.put, List.setIfInBounds_toArray, List.set_cons_zero, List.set_cons_succ]
      have hcc := hHeld.heap HRW.out.cell (fun h => h)
      have z0 := cell_at (o := 0) hcc
      simp only [List.getElem?_toArray, List.getElem?_cons_zero] at z0
      have zf := frees hcc
      have hown6 : w5.ownsRow 0 165 4 (.slice (some ⟨g5, 0, none⟩) (n + 1) cap5) (s.tm.length + 1) (cellsOf (encT s.now) s.tm ++ encT s.now ⟨s.last + 1, s.now + after, 0, what⟩) := by
        rw [HN.out]
        have e : encT s.now ⟨s.last + 1, s.now + after, 0, what⟩ = [.int .i64 (s.last + 1), .int .u64 after, .int .u64 0, .int .i64 what] := by unfold encT; simp; omega
        rw [e]
        exact hown5
      have HP := Lib.hid (HRW.out.push ⟨s.last + 1, s.now + after, 0, what⟩ hHeld hown6)
      have HH := Lib.hid hHeld
      have z2 : (w5.setCell ⟨d, 0, none⟩ (.slice (some ⟨g5, 0, none⟩) (n + 1) cap5)).cell? ⟨d, 2, none⟩ = some (.int .i64 (s.last + 1)) := cell_at HP.out.cell
      clear hcc hown5 hown6 hF5 hat5 hlt5
      refine wpAnyL_takem (i := 17) (m := 18) (v := ?_) rfl (by kernel_rfl) (by kernel_rfl) (by kernel_rfl) (by kernel_rfl) (by kernel_rfl) (by kernel_rfl) (fun _ _ _ h => h) (Or.inl ⟨by rfl, ?_⟩) (by assumption) ?_
      rotate_left
      · intro wq hSq
        have hq := (fun _ _ => trivial) wq hSq
        go_split_ands
        go_simp
        try with_reducible rfl
      try simp only [Act.put, List.getElem_toArray, List.getElem_cons_zero, List.getElem_cons_succ, List.setIfInBounds_toArray, List.set_cons_zero, List.set_cons_succ]
      refine wpAnyL_take (i := 18) (v := ?_) rfl (by kernel_rfl) (by kernel_rfl) (by kernel_rfl) (by kernel_rfl) (fun _ _ _ h => h) (Or.inl ⟨by rfl, ?_⟩) (by assumption) ?_; rotate_left; · (intro wq hSq; have hq := (fun _ _ => trivial) wq hSq; go_split_ands; go_simp; (try with_reducible rfl))
      try simp only [Act.put, List.getElem_toArray, List.getElem_cons_zero, List.getElem_cons_succ, List.setIfInBounds_toArray, List.set_cons_zero, List.set_cons_succ]
      refine wpAnyL_ready (rs := [19]) (by kernel_rfl) (by simp) ?_
      refine AllReadyL.last rfl (fun K hK => ?_)
      try simp only [List.getElem_toArray, List.getElem_cons_zero, List.getElem_cons_succ]
      go_simp
      refine hK.out _ _ ?_
      clear hK K
      try simp only [Act.put, List.setIfInBounds_toArray, List.set_cons_zero, List.set_cons_succ]
      refine wpAnyL_done (by kernel_rfl) ?_ _
      obtain ⟨w6, hw6⟩ : ∃ w6, w6 = w5.setCell ⟨d, 0, none⟩ (.slice (some ⟨g5, 0, none⟩) (n + 1) cap5) := ⟨_, rfl⟩
      have hF6 : Frm (One d) w5 (w5.setCell ⟨d, 0, none⟩ (.slice (some ⟨g5, 0, none⟩) (n + 1) cap5)) := (Frm.refl _ _).set1 _
      rw [← hw6] at z2 HP hF6 ⊢
      have HF6 := Lib.hid hF6
      clear hw6 z0 zf hF6
      go_wp2_with fail
      go_ret2
      unfold RAddPost
      exact ⟨rfl, _, HP.out, (HF1.out.trans (HH.out) (fun _ _ h => h.elim)).trans' HF6.out⟩
  | true =>
    simp only [if_true] at hpp
    subst hpp
    have hwp := hw2 rfl
    rw [hwp] at HW2
    clear hw2 hwp
    go_enter Try.func83, Try.ntmps83
    go_upto_region 8 with (first | (go_at_call 110; (with_reducible refine (HW1.out _).mono ?_); clear HW1; rintro e w' ⟨rfl, rfl⟩) | (go_at_call 110; refine (HW2.out _).mono ?_; rintro e w' ⟨rfl, rfl⟩))
    have hwD : RWAt (w.setCell ⟨d, 2, none⟩ (.int .i64 (s.last + 1))).drew d (.slice A n cap) ⟨s.tm, s.now, s.last + 1⟩ := HRW1.out.grow ((Frm.refl _ _).drew)
    have hf1 : Frm (One d) w (w.setCell ⟨d, 2, none⟩ (.int .i64 (s.last + 1))).drew := Frm.drew (Frm.set1 (Frm.refl (One d) w) (o := 2) _)
    have c0 : (w.setCell ⟨d, 2, none⟩ (.int .i64 (s.last + 1))).drew.cell? ⟨d, 0, none⟩ = some (.slice A n cap) := cell_at hwD.cell
    have c2 : (w.setCell ⟨d, 2, none⟩ (.int .i64 (s.last + 1))).drew.cell? ⟨d, 2, none⟩ = some (.int .i64 (s.last + 1)) := cell_at hwD.cell
    refine wp_region_L (S := fun W => Frm (fun _ => False) (w.setCell ⟨d, 2, none⟩ (.int .i64 (s.last + 1))).drew W) 19 (by kernel_rfl) (Frm.refl _ _) (fun hHeld => ?_)
    obtain ⟨wD, hwDe⟩ : ∃ wD, wD = (w.setCell ⟨d, 2, none⟩ (.int .i64 (s.last + 1))).drew := ⟨_, rfl⟩
    rw [← hwDe] at hwD hf1 c0 c2 hHeld ⊢
    have HRW := Lib.hid hwD
    have HF1 := Lib.hid hf1
    have HNW := Lib.hid (hwD.news rfl)
    have HCC := Lib.hid (fun W (h : Frm (fun _ => False) wD W) => (⟨h.cell c0 (fun h => h), h.cell c2 (fun h => h)⟩ : _ ∧ _))
    have hn24 : n ≤ 1024 := by omega
    clear hwDe hwD hf1 c0 c2 k0 k2 kf
    refine wpAnyL_take (i := 0) (v := ?_) rfl (by kernel_rfl) (by kernel_rfl) (by kernel_rfl) (by kernel_rfl) (fun _ _ _ h => h) (Or.inl ⟨by rfl, ?_⟩) (by assumption) ?_; rotate_left; · (intro wq hSq; have hq := HCC.out wq hSq; go_split_ands; go_simp; (try with_reducible rfl))
    try simp only [Act.put, List.getElem_toArray, List.getElem_cons_zero, List.getElem_cons_succ, List.setIfInBounds_toArray, List.set_cons_zero, List.set_cons_succ]
    refine wpAnyL_take (i := 2) (v := ?_) rfl (by kernel_rfl) (by kernel_rfl) (by kernel_rfl) (by kernel_rfl) (fun _ _ _ h => h) (Or.inl ⟨by rfl, ?_⟩) (by assumption) ?_; rotate_left; · (intro wq hSq; have hq := HCC.out wq hSq; go_split_ands; go_simp; (try with_reducible rfl))
    try simp only [Act.put, List.getElem_toArray, List.getElem_cons_zero, List.getElem_cons_succ, List.setIfInBounds_toArray, List.set_cons_zero, List.set_cons_succ]
    refine wpAnyL_take (i := 3) (v := ?_) rfl (by kernel_rfl) (by kernel_rfl) (by kernel_rfl) (by kernel_rfl) (fun _ _ _ h => h) (Or.inl ⟨by rfl, ?_⟩) (by assumption) ?_; rotate_left; · (intro wq hSq; have hq := HCC.out wq hSq; go_split_ands; go_simp; (try with_reducible rfl))
    try simp only [Act.put, List.getElem_toArray, List.getElem_cons_zero, List.getElem_cons_succ, List.setIfInBounds_toArray, List.set_cons_zero, List.set_cons_succ]
    refine wpAnyL_take (i := 4) (v := ?_) rfl (by kernel_rfl) (by kernel_rfl) (by kernel_rfl) (by kernel_rfl) (fun _ _ _ h => h) (Or.inl ⟨by rfl, ?_⟩) (by assumption) ?_; rotate_left; · (intro wq hSq; have hq := HCC.out wq hSq; go_split_ands; go_simp; (try with_reducible rfl))
    try simp only [Act.put, List.getElem_toArray, List.getElem_cons_zero, List.getElem_cons_succ, List.setIfInBounds_toArray, List.set_cons_zero, List.set_cons_succ]
    refine wpAnyL_take (i := 5) (v := ?_) rfl (by kernel_rfl) (by kernel_rfl) (by kernel_rfl) (by kernel_rfl) (fun _ _ _ h => h) (Or.inl ⟨by rfl, ?_⟩) (by assumption) ?_; rotate_left; · (intro wq hSq; have hq := HCC.out wq hSq; go_split_ands; go_simp; (try with_reducible rfl))
    try simp only [Act.put, List.getElem_toArray, List.getElem_cons_zero, List.getElem_cons_succ, List.setIfInBounds_toArray, List.set_cons_zero, List.set_cons_succ]
    refine wpAnyL_take (i := 7) (v := ?_) rfl (by kernel_rfl) (by kernel_rfl) (by kernel_rfl) (by kernel_rfl) (fun _ _ _ h => h) (Or.inl ⟨by rfl, ?_⟩) (by assumption) ?_; rotate_left; · (intro wq hSq; have hq := HCC.out wq hSq; go_split_ands; go_simp; (try with_reducible rfl))
    try simp only [Act.put, List.getElem_toArray, List.getElem_cons_zero, List.getElem_cons_succ, List.setIfInBounds_toArray, List.set_cons_zero, List.set_cons_succ]
    refine wpAnyL_take (i := 8) (v := ?_) rfl (by kernel_rfl) (by kernel_rfl) (by kernel_rfl) (by kernel_rfl) (fun _ _ _ h => h) (Or.inl ⟨by rfl, ?_⟩) (by assumption) ?_; rotate_left; · (intro wq hSq; have hq := HCC.out wq hSq; go_split_ands; go_simp; (try with_reducible rfl))
    try simp only [Act.put, List.getElem_toArray, List.getElem_cons_zero, List.getElem_cons_succ, List.setIfInBounds_toArray, List.set_cons_zero, List.set_cons_succ]
    refine wpAnyL_take (i := 9) (v := ?_) rfl (by kernel_rfl) (by kernel_rfl) (by kernel_rfl) (by kernel_rfl) (fun _ _ _ h => h) (Or.inl ⟨by rfl, ?_⟩) (by assumption) ?_; rotate_left; · (intro wq hSq; have hq := HCC.out wq hSq; go_split_ands; go_simp; (try with_reducible rfl))
    try simp only [Act.put, List.getElem_toArray, List.getElem_cons_zero, List.getElem_cons_succ, List.setIfInBounds_toArray, List.set_cons_zero, List.set_cons_succ]
    refine wpAnyL_take (i := 10) (v := ?_) rfl (by kernel_rfl) (by kernel_rfl) (by kernel_rfl) (by kernel_rfl) (fun _ _ _ h => h) (Or.inl ⟨by rfl, ?_⟩) (by assumption) ?_; rotate_left; · (intro wq hSq; have hq := HCC.out wq hSq; go_split_ands; go_simp; (try with_reducible rfl))
    try simp only [Act.put, List.getElem_toArray, List.getElem_cons_zero, List.getElem_cons_succ, List.setIfInBounds_toArray, List.set_cons_zero, List.set_cons_succ]
    refine wpAnyL_take (i := 11) (v := ?_) rfl (by kernel_rfl) (by kernel_rfl) (by kernel_rfl) (by kernel_rfl) (fun _ _ _ h => h) (Or.inl ⟨by rfl, ?_⟩) (by assumption) ?_; rotate_left; · (intro wq hSq; have hq := HCC.out wq hSq; go_split_ands; go_simp; (try with_reducible rfl))
    try simp only [Act.put, List.getElem_toArray, List.getElem_cons_zero, List.getElem_cons_succ, List.setIfInBounds_toArray, List.set_cons_zero, List.set_cons_succ]
    refine wpAnyL_take (i := 12) (v := ?_) rfl (by kernel_rfl) (by kernel_rfl) (by kernel_rfl) (by kernel_rfl) (fun _ _ _ h => h) (Or.inl ⟨by rfl, ?_⟩) (by assumption) ?_; rotate_left; · (intro wq hSq; have hq := HCC.out wq hSq; go_split_ands; go_simp; (try with_reducible rfl))
    try simp only [Act.put, List.getElem_toArray, List.getElem_cons_zero, List.getElem_cons_succ, List.setIfInBounds_toArray, List.set_cons_zero, List.set_cons_succ]
    refine wpAnyL_take (i := 13) (v := ?_) rfl (by kernel_rfl) (by kernel_rfl) (by kernel_rfl) (by kernel_rfl) (fun _ _ _ h => h) (Or.inl ⟨by rfl, ?_⟩) (by assumption) ?_; rotate_left; · (intro wq hSq; have hq := HCC.out wq hSq; go_split_ands; go_simp; (try with_reducible rfl))
    try simp only [Act.put, List.getElem_toArray, List.getElem_cons_zero, List.getElem_cons_succ, List.setIfInBounds_toArray, List.set_cons_zero, List.set_cons_succ]
    refine wpAnyL_take (i := 14) (v := ?_) rfl (by kernel_rfl) (by kernel_rfl) (by kernel_rfl) (by kernel_rfl) (fun _ _ _ h => h) (Or.inl ⟨by rfl, ?_⟩) (by assumption) ?_; rotate_left; · (intro wq hSq; have hq := HCC.out wq hSq; go_split_ands; go_simp; (try with_reducible rfl))
    try simp only [Act.put, List.getElem_toArray, List.getElem_cons_zero, List.getElem_cons_succ, List.setIfInBounds_toArray, List.set_cons_zero, List.set_cons_succ]
    refine wpAnyL_ready (rs := [1, 15]) (by kernel_rfl) (by simp) ?_
    refine AllReadyL.cons rfl (fun K hK => ?_) (AllReadyL.cons rfl (fun K hK => ?_) AllReadyL.nil)
    · skip
      try simp only [List.getElem_toArray, List.getElem_cons_zero, List.getElem_cons_succ]
      -- the empty slice is made: from wD to wA
      go_simp
      have e1 := empty_row wD 165 4 0 (Nat.zero_le _)
      have f1 : Frm (fun _ => False) wD (wD.alloc (.cells #[] 165)) := (Frm.refl _ _).alloc _
      refine hK.out _ _ (hHeld.trans' f1) (fun hHeld => ?_)
      clear hK K
      try simp only [Act.put, List.setIfInBounds_toArray, List.set_cons_zero, List.set_cons_succ]
      obtain ⟨wA, hwA⟩ : ∃ wA, wA = wD.alloc (.cells #[] 165) := ⟨_, rfl⟩
      rw [← hwA] at e1 f1 hHeld ⊢
      have hsA : wD.heap.size ≤ wD.heap.size := Nat.le_refl _
      have HA := Lib.hid (And.intro e1 (And.intro hsA f1))
      clear e1 f1 hwA hsA
      refine wpAnyL_ready (rs := [6, 15]) (by kernel_rfl) (by simp) ?_
      refine AllReadyL.cons rfl (fun K hK => ?_) (AllReadyL.cons rfl (fun K hK => ?_) AllReadyL.nil)
      · skip
        try simp only [List.getElem_toArray, List.getElem_cons_zero, List.getElem_cons_succ]
        -- the clone, in wc; HA.out.1: the empty slice there
        refine wp_cloneW el_RT (.tmp 39) (.tmp 43) rfl rfl rfl HA.out.1 (news := cellsOf (encT s.now) s.tm) (by rw [encT_length, HN.out]) (fun h0 => (HNW.out h0).grow hHeld) (encT_one _ _) (by unfold maxLen; omega) (by omega) (Nat.zero_le _) ?_
        intro A3 cap3 w3 hown3 hF3 hob
        have hob3 : ∀ k, (Value.slice A3 n cap3).ownBlock = some k → wD.heap.size ≤ k := fun k hk => by
          rcases hob k hk with h | h
          · have e9 := own_eq h
            have := HA.out.2.1
            omega
          · have := hHeld.size
            omega
        clear hob
        have hk3 := keep_new hHeld hF3 HA.out.2.1
        refine hK.out _ _ (hk3) (fun hHeld => ?_)
        clear hK K
        try simp only [Act.put, List.setIfInBounds_toArray, List.set_cons_zero, List.set_cons_succ]
        have HO3 := Lib.hid hown3
        have HOB := Lib.hid hob3
        clear hown3 hF3 hk3 hob3
        refine wpAnyL_ready (rs := [15]) (by kernel_rfl) (by simp) ?_
        refine AllReadyL.cons rfl (fun K hK => ?_) AllReadyL.nil
        try simp only [List.getElem_toArray, List.getElem_cons_zero, List.getElem_cons_succ]
        -- the slice of one is made: from w3 to wB
        go_simp
        have e1 : (w3.alloc (.cells #[.int .i64 (s.last + 1), .int .u64 after, .int .u64 pp, .int .i64 what] 165)).heap[w3.heap.size]? = some (.cells #[.int .i64 (s.last + 1), .int .u64 after, .int .u64 pp, .int .i64 what] 165 (0, 0)) := heap_new w3 _
        have f1 : Frm (fun _ => False) w3 (w3.alloc (.cells #[.int .i64 (s.last + 1), .int .u64 after, .int .u64 pp, .int .i64 what] 165)) := (Frm.refl _ _).alloc _
        refine hK.out _ _ (hHeld.trans' f1) (fun hHeld => ?_)
        clear hK K
        try simp only [Act.put, List.setIfInBounds_toArray, List.set_cons_zero, List.set_cons_succ]
        obtain ⟨wB, hwB⟩ : ∃ wB, wB = w3.alloc (.cells #[.int .i64 (s.last + 1), .int .u64 after, .int .u64 pp, .int .i64 what] 165) := ⟨_, rfl⟩
        rw [← hwB] at e1 f1 hHeld ⊢
        have HB := Lib.hid (And.intro e1 f1)
        clear e1 f1 hwB
        refine wpAnyL_ready (rs := [16]) (by kernel_rfl) (by simp) ?_
        refine AllReadyL.cons rfl (fun K hK => ?_) AllReadyL.nil
        try simp only [List.getElem_toArray, List.getElem_cons_zero, List.getElem_cons_succ]
        refine wp_app el_RT (.tmp 44) (.tmp 53) rfl rfl rfl (HB.out.2.row HO3.out (fun _ _ h => h)) HB.out.1 rfl (fun u hu => by simp at hu; rcases hu with rfl | rfl | rfl | rfl <;> rfl) (by decide) (by unfold maxLen; omega) (by omega) (Nat.zero_le _) ?_
        intro g5 cap5 w5 hown5 hF5 hat5 hlt5
        have hk5 := hHeld.trans hF5 (fun i hi h => absurd hi (Nat.not_lt.2 (HOB.out i h)))
        refine hK.out _ _ (hk5) (fun hHeld => ?_)
        clear hK K
        try simp only [Act.put, List.setIfInBounds_toArray, List.set_cons_zero, List.set_cons_succ]
        have hcc := hHeld.heap HRW.out.cell (fun h => h)
        have z0 := cell_at (o := 0) hcc
        simp only [List.getElem?_toArray, List.getElem?_cons_zero] at z0
        have zf := frees hcc
        have hown6 : w5.ownsRow 0 165 4 (.slice (some ⟨g5, 0, none⟩) (n + 1) cap5) (s.tm.length + 1) (cellsOf (encT s.now) s.tm ++ encT s.now ⟨s.last + 1, s.now + after, pp, what⟩) := by
          rw [HN.out]
          have e : encT s.now ⟨s.last + 1, s.now + after, pp, what⟩ = [.int .i64 (s.last + 1), .int .u64 after, .int .u64 pp, .int .i64 what] := by unfold encT; simp; omega
          rw [e]
          exact hown5
        have HP := Lib.hid (HRW.out.push ⟨s.last + 1, s.now + after, pp, what⟩ hHeld hown6)
        have HH := Lib.hid hHeld
        have z2 : (w5.setCell ⟨d, 0, none⟩ (.slice (some ⟨g5, 0, none⟩) (n + 1) cap5)).cell? ⟨d, 2, none⟩ = some (.int .i64 (s.last + 1)) := cell_at HP.out.cell
        clear hcc hown5 hown6 hF5 hat5 hlt5
        refine wpAnyL_takem (i := 17) (m := 18) (v := ?_) rfl (by kernel_rfl) (by kernel_rfl) (by kernel_rfl) (by kernel_rfl) (by kernel_rfl) (by kernel_rfl) (fun _ _ _ h => h) (Or.inl ⟨by rfl, ?_⟩) (by assumption) ?_
        rotate_left
        · intro wq hSq
          have hq := (fun _ _ => trivial) wq hSq
          go_split_ands
          go_simp
          try with_reducible rfl
        try simp only [Act.put, List.getElem_toArray, List.getElem_cons_zero, List.getElem_cons_succ, List.setIfInBounds_toArray, List.set_cons_zero, List.set_cons_succ]
        refine wpAnyL_take (i := 18) (v := ?_) rfl (by kernel_rfl) (by kernel_rfl) (by kernel_rfl) (by kernel_rfl) (fun _ _ _ h => h) (Or.inl ⟨by rfl, ?_⟩) (by assumption) ?_; rotate_left; · (intro wq hSq; have hq := (fun _ _ => trivial) wq hSq; go_split_ands; go_simp; (try with_reducible rfl))
        try simp only [Act.put, List.getElem_toArray, List.getElem_cons_zero, List.getElem_cons_succ, List.setIfInBounds_toArray, List.set_cons_zero, List.set_cons_succ]
        refine wpAnyL_ready (rs := [19]) (by kernel_rfl) (by simp) ?_
        refine AllReadyL.last rfl (fun K hK => ?_)
        try simp only [List.getElem_toArray, List.getElem_cons_zero, List.getElem_cons_succ]
        go_simp
        refine hK.out _ _ ?_
        clear hK K
        try simp only [Act.put, List.setIfInBounds_toArray, List.set_cons_zero, List.set_cons_succ]
        refine wpAnyL_done (by kernel_rfl) ?_ _
        obtain ⟨w6, hw6⟩ : ∃ w6, w6 = w5.setCell ⟨d, 0, none⟩ (.slice (some ⟨g5, 0, none⟩) (n + 1) cap5) := ⟨_, rfl⟩
        have hF6 : Frm (One d) w5 (w5.setCell ⟨d, 0, none⟩ (.slice (some ⟨g5, 0, none⟩) (n + 1) cap5)) := (Frm.refl _ _).set1 _
        rw [← hw6] at z2 HP hF6 ⊢
        have HF6 := Lib.hid hF6
        clear hw6 z0 zf hF6
        go_wp2_with fail
        go_ret2
        unfold RAddPost
        exact ⟨rfl, _, HP.out, (HF1.out.trans (HH.out) (fun _ _ h => h.elim)).trans' HF6.out⟩
      · skip
        try simp only [List.getElem_toArray, List.getElem_cons_zero, List.getElem_cons_succ]
        -- the slice of one is made: from wA to wB
        go_simp
        have e1 : (wA.alloc (.cells #[.int .i64 (s.last + 1), .int .u64 after, .int .u64 pp, .int .i64 what] 165)).heap[wA.heap.size]? = some (.cells #[.int .i64 (s.last + 1), .int .u64 after, .int .u64 pp, .int .i64 what] 165 (0, 0)) := heap_new wA _
        have f1 : Frm (fun _ => False) wA (wA.alloc (.cells #[.int .i64 (s.last + 1), .int .u64 after, .int .u64 pp, .int .i64 what] 165)) := (Frm.refl _ _).alloc _
        refine hK.out _ _ (hHeld.trans' f1) (fun hHeld => ?_)
        clear hK K
        try simp only [Act.put, List.setIfInBounds_toArray, List.set_cons_zero, List.set_cons_succ]
        obtain ⟨wB, hwB⟩ : ∃ wB, wB = wA.alloc (.cells #[.int .i64 (s.last + 1), .int .u64 after, .int .u64 pp, .int .i64 what] 165) := ⟨_, rfl⟩
        rw [← hwB] at e1 f1 hHeld ⊢
        have HB := Lib.hid (And.intro e1 f1)
        clear e1 f1 hwB
        refine wpAnyL_ready (rs := [6]) (by kernel_rfl) (by simp) ?_
        refine AllReadyL.cons rfl (fun K hK => ?_) AllReadyL.nil
        try simp only [List.getElem_toArray, List.getElem_cons_zero, List.getElem_cons_succ]
        -- the clone, in wc; (HB.out.2.row HA.out.1 (fun _ _ h => h)): the empty slice there
        refine wp_cloneW el_RT (.tmp 39) (.tmp 43) rfl rfl rfl (HB.out.2.row HA.out.1 (fun _ _ h => h)) (news := cellsOf (encT s.now) s.tm) (by rw [encT_length, HN.out]) (fun h0 => (HNW.out h0).grow hHeld) (encT_one _ _) (by unfold maxLen; omega) (by omega) (Nat.zero_le _) ?_
        intro A3 cap3 w3 hown3 hF3 hob
        have hob3 : ∀ k, (Value.slice A3 n cap3).ownBlock = some k → wD.heap.size ≤ k := fun k hk => by
          rcases hob k hk with h | h
          · have e9 := own_eq h
            have := HA.out.2.1
            omega
          · have := hHeld.size
            omega
        clear hob
        have hk3 := keep_new hHeld hF3 HA.out.2.1
        have hn3 := hF3.heap HB.out.1 (fun e => by
          have e9 : wD.heap.size = wA.heap.size := own_eq e
          obtain ⟨_, cur, hcur⟩ := row_block HA.out.1 (k := wD.heap.size) rfl
          have e8 : wD.heap.size < wA.heap.size := lt_of_block hcur
          omega)
        refine hK.out _ _ (hk3) (fun hHeld => ?_)
        clear hK K
        try simp only [Act.put, List.setIfInBounds_toArray, List.set_cons_zero, List.set_cons_succ]
        have HO3 := Lib.hid hown3
        have HOB := Lib.hid hob3
        have HN3 := Lib.hid hn3
        clear hown3 hF3 hk3 hob3 hn3
        refine wpAnyL_ready (rs := [16]) (by kernel_rfl) (by simp) ?_
        refine AllReadyL.cons rfl (fun K hK => ?_) AllReadyL.nil
        try simp only [List.getElem_toArray, List.getElem_cons_zero, List.getElem_cons_succ]
        refine wp_app el_RT (.tmp 44) (.tmp 53) rfl rfl rfl HO3.out HN3.out rfl (fun u hu => by simp at hu; rcases hu with rfl | rfl | rfl | rfl <;> rfl) (by decide) (by unfold maxLen; omega) (by omega) (Nat.zero_le _) ?_
        intro g5 cap5 w5 hown5 hF5 hat5 hlt5
        have hk5 := hHeld.trans hF5 (fun i hi h => absurd hi (Nat.not_lt.2 (HOB.out i h)))
        refine hK.out _ _ (hk5) (fun hHeld => ?_)
        clear hK K
        try simp only [Act.put, List.setIfInBounds_toArray, List.set_cons_zero, List.set_cons_succ]
        have hcc := hHeld.heap HRW.out.cell (fun h => h)
        have z0 := cell_at (o := 0) hcc
        simp only [List.getElem?_toArray, List.getElem?_cons_zero] at z0
        have zf := frees hcc
        have hown6 : w5.ownsRow 0 165 4 (.slice (some ⟨g5, 0, none⟩) (n + 1) cap5) (s.tm.length + 1) (cellsOf (encT s.now) s.tm ++ encT s.now ⟨s.last + 1, s.now + after, pp, what⟩) := by
          rw [HN.out]
          have e : encT s.now ⟨s.last + 1, s.now + after, pp, what⟩ = [.int .i64 (s.last + 1), .int .u64 after, .int .u64 pp, .int .i64 what] := by unfold encT; simp; omega
          rw [e]
          exact hown5
        have HP := Lib.hid (HRW.out.push ⟨s.last + 1, s.now + after, pp, what⟩ hHeld hown6)
        have HH := Lib.hid hHeld
        have z2 : (w5.setCell ⟨d, 0, none⟩ (.slice (some ⟨g5, 0, none⟩) (n + 1) cap5)).cell? ⟨d, 2, none⟩ = some (.int .i64 (s.last + 1)) := cell_at HP.out.cell
        clear hcc hown5 hown6 hF5 hat5 hlt5
        refine wpAnyL_takem (i := 17) (m := 18) (v := ?_) rfl (by kernel_rfl) (by kernel_rfl) (by kernel_rfl) (by kernel_rfl) (by kernel_rfl) (by kernel_rfl) (fun _ _ _ h => h) (Or.inl ⟨by rfl, ?_⟩) (by assumption) ?_
        rotate_left
        · intro wq hSq
          have hq := (fun _ _ => trivial) wq hSq
          go_split_ands
          go_simp
          try with_reducible rfl
        try simp only [Act.put, List.getElem_toArray, List.getElem_cons_zero, List.getElem_cons_succ, List.setIfInBounds_toArray, List.set_cons_zero, List.set_cons_succ]
        refine wpAnyL_take (i := 18) (v := ?_) rfl (by kernel_rfl) (by kernel_rfl) (by kernel_rfl) (by kernel_rfl) (fun _ _ _ h => h) (Or.inl ⟨by rfl, ?_⟩) (by assumption) ?_; rotate_left; · (intro wq hSq; have hq := (fun _ _ => trivial) wq hSq; go_split_ands; go_simp; (try with_reducible rfl))
        try simp only [Act.put, List.getElem_toArray, List.getElem_cons_zero, List.getElem_cons_succ, List.setIfInBounds_toArray, List.set_cons_zero, List.set_cons_succ]
        refine wpAnyL_ready (rs := [19]) (by kernel_rfl) (by simp) ?_
        refine AllReadyL.last rfl (fun K hK => ?_)
        try simp only [List.getElem_toArray, List.getElem_cons_zero, List.getElem_cons_succ]
        go_simp
        refine hK.out _ _ ?_
        clear hK K
        try simp only [Act.put, List.setIfInBounds_toArray, List.set_cons_zero, List.set_cons_succ]
        refine wpAnyL_done (by kernel_rfl) ?_ _
        obtain ⟨w6, hw6⟩ : ∃ w6, w6 = w5.setCell ⟨d, 0, none⟩ (.slice (some ⟨g5, 0, none⟩) (n + 1) cap5) := ⟨_, rfl⟩
        have hF6 : Frm (One d) w5 (w5.setCell ⟨d, 0, none⟩ (.slice (some ⟨g5, 0, none⟩) (n + 1) cap5)) := (Frm.refl _ _).set1 _
        rw [← hw6] at z2 HP hF6 ⊢
        have HF6 := Lib.hid hF6
        clear hw6 z0 zf hF6
        go_wp2_with fail
        go_ret2
        unfold RAddPost
        exact ⟨rfl, _, HP.out, (HF1.out.trans (HH.out) (fun _ _ h => h.elim)).trans' HF6.out⟩
    · skip
      try simp only [List.getElem_toArray, List.getElem_cons_zero, List.getElem_cons_succ]
      -- the slice of one is made: from wD to wB
      go_simp
      have e1 : (wD.alloc (.cells #[.int .i64 (s.last + 1), .int .u64 after, .int .u64 pp, .int .i64 what] 165)).heap[wD.heap.size]? = some (.cells #[.int .i64 (s.last + 1), .int .u64 after, .int .u64 pp, .int .i64 what] 165 (0, 0)) := heap_new wD _
      have f1 : Frm (fun _ => False) wD (wD.alloc (.cells #[.int .i64 (s.last + 1), .int .u64 after, .int .u64 pp, .int .i64 what] 165)) := (Frm.refl _ _).alloc _
      refine hK.out _ _ (hHeld.trans' f1) (fun hHeld => ?_)
      clear hK K
      try simp only [Act.put, List.setIfInBounds_toArray, List.set_cons_zero, List.set_cons_succ]
      obtain ⟨wB, hwB⟩ : ∃ wB, wB = wD.alloc (.cells #[.int .i64 (s.last + 1), .int .u64 after, .int .u64 pp, .int .i64 what] 165) := ⟨_, rfl⟩
      rw [← hwB] at e1 f1 hHeld ⊢
      have HB := Lib.hid (And.intro e1 f1)
      clear e1 f1 hwB
      refine wpAnyL_ready (rs := [1]) (by kernel_rfl) (by simp) ?_
      refine AllReadyL.cons rfl (fun K hK => ?_) AllReadyL.nil
      try simp only [List.getElem_toArray, List.getElem_cons_zero, List.getElem_cons_succ]
      -- the empty slice is made: from wB to wA
      go_simp
      have e1 := empty_row wB 165 4 0 (Nat.zero_le _)
      have f1 : Frm (fun _ => False) wB (wB.alloc (.cells #[] 165)) := (Frm.refl _ _).alloc _
      refine hK.out _ _ (hHeld.trans' f1) (fun hHeld => ?_)
      clear hK K
      try simp only [Act.put, List.setIfInBounds_toArray, List.set_cons_zero, List.set_cons_succ]
      obtain ⟨wA, hwA⟩ : ∃ wA, wA = wB.alloc (.cells #[] 165) := ⟨_, rfl⟩
      rw [← hwA] at e1 f1 hHeld ⊢
      have hsA : wD.heap.size ≤ wB.heap.size := HB.out.2.size
      have HA := Lib.hid (And.intro e1 (And.intro hsA f1))
      clear e1 f1 hwA hsA
      refine wpAnyL_ready (rs := [6]) (by kernel_rfl) (by simp) ?_
      refine AllReadyL.cons rfl (fun K hK => ?_) AllReadyL.nil
      try simp only [List.getElem_toArray, List.getElem_cons_zero, List.getElem_cons_succ]
      -- the clone, in wc; HA.out.1: the empty slice there
      refine wp_cloneW el_RT (.tmp 39) (.tmp 43) rfl rfl rfl HA.out.1 (news := cellsOf (encT s.now) s.tm) (by rw [encT_length, HN.out]) (fun h0 => (HNW.out h0).grow hHeld) (encT_one _ _) (by unfold maxLen; omega) (by omega) (Nat.zero_le _) ?_
      intro A3 cap3 w3 hown3 hF3 hob
      have hob3 : ∀ k, (Value.slice A3 n cap3).ownBlock = some k → wD.heap.size ≤ k := fun k hk => by
        rcases hob k hk with h | h
        · have e9 := own_eq h
          have := HA.out.2.1
          omega
        · have := hHeld.size
          omega
      clear hob
      have hk3 := keep_new hHeld hF3 HA.out.2.1
      have hn3 := hF3.heap (HA.out.2.2.heap HB.out.1 (fun h => h)) (fun e => by
        have e9 : wB.heap.size = wD.heap.size := own_eq e
        have e8 : wD.heap.size < wB.heap.size := lt_of_block HB.out.1
        omega)
      refine hK.out _ _ (hk3) (fun hHeld => ?_)
      clear hK K
      try simp only [Act.put, List.setIfInBounds_toArray, List.set_cons_zero, List.set_cons_succ]
      have HO3 := Lib.hid hown3
      have HOB := Lib.hid hob3
      have HN3 := Lib.hid hn3
      clear hown3 hF3 hk3 hob3 hn3
      refine wpAnyL_ready (rs := [16]) (by kernel_rfl) (by simp) ?_
      refine AllReadyL.cons rfl (fun K hK => ?_) AllReadyL.nil
      try simp only [List.getElem_toArray, List.getElem_cons_zero, List.getElem_cons_succ]
      refine wp_app el_RT (.tmp 44) (.tmp 53) rfl rfl rfl HO3.out HN3.out rfl (fun u hu => by simp at hu; rcases hu with rfl | rfl | rfl | rfl <;> rfl) (by decide) (by unfold maxLen; omega) (by omega) (Nat.zero_le _) ?_
      intro g5 cap5 w5 hown5 hF5 hat5 hlt5
      have hk5 := hHeld.trans hF5 (fun i hi h => absurd hi (Nat.not_lt.2 (HOB.out i h)))
      refine hK.out _ _ (hk5) (fun hHeld => ?_)
      clear hK K
      try simp only [Act.put, List.setIfInBounds_toArray, List.set_cons_zero, List.set_cons_succ]
      have hcc := hHeld.heap HRW.out.cell (fun h => h)
      have z0 := cell_at (o := 0) hcc
      simp only [List.getElem?_toArray, List.getElem?_cons_zero] at z0
      have zf := frees hcc
      have hown6 : w5.ownsRow 0 165 4 (.slice (some ⟨g5, 0, none⟩) (n + 1) cap5) (s.tm.length + 1) (cellsOf (encT s.now) s.tm ++ encT s.now ⟨s.last + 1, s.now + after, pp, what⟩) := by
        rw [HN.out]
        have e : encT s.now ⟨s.last + 1, s.now + after, pp, what⟩ = [.int .i64 (s.last + 1), .int .u64 after, .int .u64 pp, .int .i64 what] := by unfold encT; simp; omega
        rw [e]
        exact hown5
      have HP := Lib.hid (HRW.out.push ⟨s.last + 1, s.now + after, pp, what⟩ hHeld hown6)
      have HH := Lib.hid hHeld
      have z2 : (w5.setCell ⟨d, 0, none⟩ (.slice (some ⟨g5, 0, none⟩) (n + 1) cap5)).cell? ⟨d, 2, none⟩ = some (.int .i64 (s.last + 1)) := cell_at HP.out.cell
      clear hcc hown5 hown6 hF5 hat5 hlt5
      refine wpAnyL_takem (i := 17) (m := 18) (v := ?_) rfl (by kernel_rfl) (by kernel_rfl) (by kernel_rfl) (by kernel_rfl) (by kernel_rfl) (by kernel_rfl) (fun _ _ _ h => h) (Or.inl ⟨by rfl, ?_⟩) (by assumption) ?_
      rotate_left
      · intro wq hSq
        have hq := (fun _ _ => trivial) wq hSq
        go_split_ands
        go_simp
        try with_reducible rfl
      try simp only [Act.put, List.getElem_toArray, List.getElem_cons_zero, List.getElem_cons_succ, List.setIfInBounds_toArray, List.set_cons_zero, List.set_cons_succ]
      refine wpAnyL_take (i := 18) (v := ?_) rfl (by kernel_rfl) (by kernel_rfl) (by kernel_rfl) (by kernel_rfl) (fun _ _ _ h => h) (Or.inl ⟨by rfl, ?_⟩) (by assumption) ?_; rotate_left; · (intro wq hSq; have hq := (fun _ _ => trivial) wq hSq; go_split_ands; go_simp; (try with_reducible rfl))
      try simp only [Act.put, List.getElem_toArray, List.getElem_cons_zero, List.getElem_cons_succ, List.setIfInBounds_toArray, List.set_cons_zero, List.set_cons_succ]
      refine wpAnyL_ready (rs := [19]) (by kernel_rfl) (by simp) ?_
      refine AllReadyL.last rfl (fun K hK => ?_)
      try simp only [List.getElem_toArray, List.getElem_cons_zero, List.getElem_cons_succ]
      go_simp
      refine hK.out _ _ ?_
      clear hK K
      try simp only [Act.put, List.setIfInBounds_toArray, List.set_cons_zero, List.set_cons_succ]
      refine wpAnyL_done (by kernel_rfl) ?_ _
      obtain ⟨w6, hw6⟩ : ∃ w6, w6 = w5.setCell ⟨d, 0, none⟩ (.slice (some ⟨g5, 0, none⟩) (n + 1) cap5) := ⟨_, rfl⟩
      have hF6 : Frm (One d) w5 (w5.setCell ⟨d, 0, none⟩ (.slice (some ⟨g5, 0, none⟩) (n + 1) cap5)) := (Frm.refl _ _).set1 _
      rw [← hw6] at z2 HP hF6 ⊢
      have HF6 := Lib.hid hF6
      clear hw6 z0 zf hF6
      go_wp2_with fail
      go_ret2
      unfold RAddPost
      exact ⟨rfl, _, HP.out, (HF1.out.trans (HH.out) (fun _ _ h => h.elim)).trans' HF6.out⟩
set_option maxRecDepth 100000 in
set_option maxHeartbeats 2000000 in
theorem radd_any (w : World) (d : Nat) (v : Value) (s : Wh) (after per what : Int) (again : Bool) (h : RWAt w d v s) (hs : s.fits) :
    Calls Try.prog 83 #[ptrW d, .int .u64 after, .int .u64 per, .bool again, .int .i64 what] w (RAddPost d (s.radd after per again what) w) := by
  by_cases hw : withinW after = true
  · by_cases hw2 : again = true → withinW per = true
    · by_cases hlen : s.tm.length < 1024
      · have hr : s.radd after per again what = (⟨s.tm ++ [⟨s.last + 1, s.now + after, if again then per else 0, what⟩], s.now, s.last + 1⟩, s.last + 1, 0) := by
          unfold Wh.radd Wh.every Wh.add Wh.adds
          cases again with
          | false => simp [hw]; omega
          | true => simp [hw, hw2 rfl]; omega
        rw [hr]
        exact radd_ok w d v s after per what again h hs hw hw2 hlen _ rfl
      · have hr : s.radd after per again what = (s, 0, 2) := by
          unfold Wh.radd Wh.every Wh.add Wh.adds
          cases again with
          | false => simp [hw]; omega
          | true => simp [hw, hw2 rfl]; omega
        rw [hr]
        obtain ⟨A, cap, rfl, hc1, hc2, _⟩ := h.open_
        have k0 : w.cell? ⟨d, 0, none⟩ = some (.slice A s.tm.length cap) := cell_at h.cell
        have HW1 := Lib.hid (fun W => rwwithin_any after W)
        have HW2 := Lib.hid (fun W => rwwithin_any per W)
        rw [hw] at HW1
        have H := Lib.hid h
        obtain ⟨n, hn⟩ : ∃ n, n = s.tm.length := ⟨_, rfl⟩
        rw [← hn] at k0 hlen
        unfold ptrW
        cases again with
        | false =>
          clear h hs hr hw hw2 hn hc1 hc2
          go_enter Try.func83, Try.ntmps83
          go_wp2_with (go_at_call 110; refine (HW1.out _).mono ?_; rintro e w' ⟨rfl, rfl⟩)
          go_ret2
          exact ⟨rfl, _, H.out, Frm.refl _ _⟩
        | true =>
          have hwp := hw2 rfl
          rw [hwp] at HW2
          clear h hs hr hw hw2 hn hc1 hc2 hwp
          go_enter Try.func83, Try.ntmps83
          go_wp2_with (first | (go_at_call 110; (with_reducible refine (HW1.out _).mono ?_); clear HW1; rintro e w' ⟨rfl, rfl⟩) | (go_at_call 110; refine (HW2.out _).mono ?_; rintro e w' ⟨rfl, rfl⟩))
          go_ret2
          exact ⟨rfl, _, H.out, Frm.refl _ _⟩
    · have ha : again = true := by
        cases again with
        | true => rfl
        | false => exact absurd (fun h => by cases h) hw2
      subst ha
      have hwp : withinW per = false := by
        cases hx : withinW per with
        | false => rfl
        | true => exact absurd (fun _ => hx) hw2
      have hr : s.radd after per true what = (s, 0, 1) := by unfold Wh.radd Wh.every; simp [hw, hwp]
      rw [hr]
      have HW1 := Lib.hid (fun W => rwwithin_any after W)
      have HW2 := Lib.hid (fun W => rwwithin_any per W)
      rw [hw] at HW1
      rw [hwp] at HW2
      have H := Lib.hid h
      unfold ptrW
      clear h hs hr hw hw2 hwp
      go_enter Try.func83, Try.ntmps83
      go_wp2_with (first | (go_at_call 110; (with_reducible refine (HW1.out _).mono ?_); clear HW1; rintro e w' ⟨rfl, rfl⟩) | (go_at_call 110; refine (HW2.out _).mono ?_; rintro e w' ⟨rfl, rfl⟩))
      go_ret2
      exact ⟨rfl, _, H.out, Frm.refl _ _⟩
  · have hw0 : withinW after = false := by simpa using hw
    have hr : s.radd after per again what = (s, 0, 1) := by
      unfold Wh.radd Wh.every Wh.add
      cases again <;> simp [hw0]
    rw [hr]
    have HW1 := Lib.hid (fun W => rwwithin_any after W)
    rw [hw0] at HW1
    have H := Lib.hid h
    unfold ptrW
    clear h hs hr hw hw0
    go_enter Try.func83, Try.ntmps83
    go_wp2_with (go_at_call 110; refine (HW1.out _).mono ?_; rintro e w' ⟨rfl, rfl⟩)
    go_ret2
    exact ⟨rfl, _, H.out, Frm.refl _ _⟩
end Go.Proofs.Ytmkkeglcjbogcaa
