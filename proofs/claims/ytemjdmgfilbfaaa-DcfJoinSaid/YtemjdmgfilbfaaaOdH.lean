/-
  The program's dictionary in memory; New.
-/
import Derived.Test.YtemjdmgfilbfaaaOdG
import Derived.Test.YtemjdmgfilbfaaaOdS
namespace Go.Proofs.Ytemjdmgfilbfaaa
open Go.RowKit
set_option linter.unusedVariables false

theorem el_pitem : El Try.prog 78 81 1 8 := El.of Try.underlying78 (z := .pointer none) (by kernel_rfl) rfl (by decide)
theorem plainV_ok {v : Va} (h : v.ok) : (plainV v).ok := by
  unfold plainV
  have := h.1; have := h.2.1; have := h.2.2
  split
  · exact ⟨h.1, h.2.1, by simp⟩
  · split
    · exact ⟨by simp, by simp [two64], h.2.2⟩
    · exact h
theorem plainE_ok {x : En} (h : x.ok) : (plainE x).ok := ⟨h.1, h.2.1, h.2.2.1, h.2.2.2.1, h.2.2.2.2.1, h.2.2.2.2.2.1, plainV_ok h.2.2.2.2.2.2⟩
theorem ItAt.ok_len {w : World} {q : Nat} {x : Im} (h : ItAt w q x) : q < w.heap.size := lt_of_block h

/-- The program's dictionary. -/
structure DAt (w : World) (b : Nat) (l : List (Nat × Im)) : Prop where
  row : ∃ v, w.heap[b]? = some (.cells #[v] 80 (0, 0)) ∧ w.ownsRow b 81 1 v l.length (l.map fun q => ptr q.1)
  el : ∀ q ∈ l, ItAt w q.1 q.2
  nd : (l.map (·.1)).Nodup
  lo : ∀ q ∈ l, b ≤ q.1

theorem DAt.frm {S : Nat → Prop} {w w' : World} {b : Nat} {l : List (Nat × Im)} (h : DAt w b l) (hF : Frm S w w') (hb : ¬ S b) (hl : ∀ q ∈ l, ¬ S q.1) (hr : ∀ k cur, S k → w.heap[k]? ≠ some (.cells cur 81 (0, 0))) : DAt w' b l := by
  obtain ⟨v, hO, hw⟩ := h.row
  refine ⟨⟨v, hF.heap hO hb, hF.row hw fun j hj hs => ?_⟩, fun q hq => (h.el q hq).frm hF (hl _ hq), h.nd, h.lo⟩
  obtain ⟨_, cur, hc⟩ := row_block hw hj
  exact hr _ cur hs hc
theorem DAt.grow {w w' : World} {b : Nat} {l : List (Nat × Im)} (h : DAt w b l) (hF : Frm (fun _ => False) w w') : DAt w' b l := h.frm hF (fun h => h) (fun _ _ h => h) (fun _ _ h => h.elim)
theorem DAt.lt {w : World} {b : Nat} {l : List (Nat × Im)} (h : DAt w b l) : ∀ q ∈ l, q.1 < w.heap.size := fun q hq => lt_of_block (h.el q hq)
theorem DAt.blt {w : World} {b : Nat} {l : List (Nat × Im)} (h : DAt w b l) : b < w.heap.size := by
  obtain ⟨v, hO, _⟩ := h.row
  exact lt_of_block hO

theorem DAt.push {w w' : World} {b g cap p : Nat} {l : List (Nat × Im)} {v : Value} (h : DAt w b l) (x : Im) (hv : w.heap[b]? = some (.cells #[v] 80 (0, 0)))
    (hO : w'.heap[b]? = some (.cells #[.slice (some ⟨g, 0, none⟩) (l.length + 1) cap] 80 (0, 0))) (hr : w'.ownsRow b 81 1 (.slice (some ⟨g, 0, none⟩) (l.length + 1) cap) (l.length + 1) ((l.map fun q => ptr q.1) ++ [ptr p]))
    (hp : ItAt w' p x) (hnew : w.heap.size ≤ p) (hf : Frm (fun k => k = b ∨ v.ownBlock = some k) w w') : DAt w' b (l ++ [(p, x)]) := by
  obtain ⟨v0, hO0, hr0⟩ := h.row
  rw [hv] at hO0
  simp at hO0
  subst hO0
  have hbl := h.blt
  refine ⟨⟨_, hO, by simpa using hr⟩, ?_, ?_, ?_⟩
  · intro q hq
    rcases List.mem_append.1 hq with hq | hq
    · refine (h.el q hq).frm hf ?_
      rintro (e | e)
      · exact block_ne (h.el q hq) hv (by decide) e
      · obtain ⟨_, cur, hc⟩ := row_block hr0 e
        exact block_ne (h.el q hq) hc (by decide) rfl
    · simp at hq; subst hq; exact hp
  · rw [List.map_append, List.nodup_append]
    refine ⟨h.nd, by simp, ?_⟩
    intro a ha c hc
    obtain ⟨q, hq, rfl⟩ := List.mem_map.1 ha
    have := h.lt q hq
    simp at hc
    omega
  · intro q hq
    rcases List.mem_append.1 hq with hq | hq
    · exact h.lo q hq
    · simp at hq; subst hq; simp; omega

def ONewP (xs : List En) (w : World) (e : Ending) (w' : World) : Prop :=
  Frm (fun _ => False) w w' ∧ ((checkE xs ≠ 0 ∧ e = .returned (.tuple #[.pointer none, .int .i64 (checkE xs)])) ∨
    (checkE xs = 0 ∧ ∃ b l, e = .returned (.tuple #[ptr b, .int .i64 0]) ∧ DAt w' b l ∧ l.map (·.2) = newD xs ∧ w.heap.size ≤ b))

theorem store14 {w : World} {g : Nat} {t : TypeId} {fz : Nat × Nat} {c0 c1 c2 c3 c4 c5 c6 c7 c8 c9 c10 d11 d12 d13 c11 c12 c13 : Value} (h : w.heap[g]? = some (.cells #[c0, c1, c2, c3, c4, c5, c6, c7, c8, c9, c10, d11, d12, d13] t fz)) :
    (((w.setCell ⟨g, 11, none⟩ c11).setCell ⟨g, 12, none⟩ c12).setCell ⟨g, 13, none⟩ c13).heap[g]? = some (.cells #[c0, c1, c2, c3, c4, c5, c6, c7, c8, c9, c10, c11, c12, c13] t fz) :=
  heap_set_at (heap_set_at (heap_set_at h rfl) rfl) rfl
/-- Sorted: the same items, in another order. -/
theorem DAt.sort {w w' : World} {b : Nat} {l : List (Nat × Im)} {v : Value} {l' : List (Nat × Im)} (h : DAt w b l) (hv : w.heap[b]? = some (.cells #[v] 80 (0, 0))) (hp : l'.Perm l)
    (hr : w'.ownsRow b 81 1 v l.length (l'.map fun q => ptr q.1)) (hF : Frm (fun k => v.ownBlock = some k) w w') : DAt w' b l' := by
  obtain ⟨v0, hO0, hr0⟩ := h.row
  rw [hv] at hO0
  simp at hO0
  subst hO0
  have hnb : ∀ k o, w.heap[k]? = some (.cells o 83 (0, 0)) → ¬ v.ownBlock = some k := fun k o hk e => by
    obtain ⟨_, cur, hc⟩ := row_block hr0 e
    exact block_ne hk hc (by decide) rfl
  refine ⟨⟨v, hF.heap hv fun e => ?_, by rw [hp.length_eq]; exact hr⟩, fun q hq => ?_, ?_, fun q hq => h.lo q (hp.mem_iff.1 hq)⟩
  · obtain ⟨_, cur, hc⟩ := row_block hr0 e
    exact block_ne hv hc (by decide) rfl
  · have hi := h.el q (hp.mem_iff.1 hq)
    exact hi.frm hF (hnb _ _ hi)
  · exact (hp.map (·.1)).nodup_iff.2 h.nd

set_option maxRecDepth 100000 in
set_option maxHeartbeats 4000000 in
theorem odNew_any (v : Value) (xs : List En) (w : World) (h : SlAt cellsE 14 w v xs) (hx : ∀ x ∈ xs, x.ok) : Calls Try.prog 12 #[v] w (ONewP xs w) := by
  have HCHK := Lib.hid (fun W hW => odChk_any v xs W hW hx)
  have HSL := Lib.hid h
  have HOK := Lib.hid hx
  obtain ⟨A, cap, rfl, h1, h2, hA⟩ := h
  have hm : xs.length ≤ 9223372036854775807 := Nat.le_trans h1 h2
  have HA := Lib.hid hA
  clear h1 h2 hA hx
  by_cases hc : checkE xs = 0
  case neg =>
    have HC := Lib.hid hc
    unfold ONewP
    generalize checkE xs = c at *
    have hb : (c != 0) = true := by simpa using hc
    clear hc
    go_enter Try.func12, Try.ntmps12
    go_wp2_with (go_at_call 36; refine (HCHK.out _ HSL.out).mono ?_; rintro e w3 ⟨rfl, hF3⟩)
    go_ret2
    exact ⟨hF3, .inl ⟨HC.out, rfl⟩⟩
  obtain ⟨hlen, hent, hnd⟩ := check_facts hc
  have HND := Lib.hid hnd
  unfold ONewP
  rw [hc] at HCHK
  have HC := Lib.hid hc
  generalize checkE xs = c at *
  clear hc hent hnd
  go_enter Try.func12, Try.ntmps12
  go_upto_region 4 with (go_at_call 36; refine (HCHK.out _ HSL.out).mono ?_; rintro e w3 ⟨rfl, hF3⟩)
  have HF3 := Lib.hid hF3
  clear hF3 HCHK
  go_wp2_with fail
  go_loopw [17] (fun i wr => ∃ (k : Nat) (l : List (Nat × Im)), k ≤ xs.length ∧ i = .int .i64 k ∧ DAt wr w3.heap.size l ∧ l.map (·.2) = (xs.take k).map newI ∧ Frm (fun _ => False) w wr ∧ w3.heap.size < wr.heap.size) (fun i _ => xs.length - (intOf i).toNat)
  case atStart =>
    refine ⟨0, [], Nat.zero_le _, rfl, ⟨⟨.slice none 0 0, ?_, World.ownsRow_nil _ _ _ _⟩, fun i hi => by simp at hi, by simp, by simp⟩, by simp, ?_, by simp⟩
    · exact heap_new _ _
    · exact HF3.out.alloc _
  case round =>
    obtain ⟨k, l, hk, rfl, hW, hl, hfr, hsz⟩ := hrel
    have hlk : l.length = k := by have := congrArg List.length hl; simp at this; omega
    by_cases hlt : k < xs.length
    · obtain ⟨g, off, rfl, hgl, hcell⟩ := HA.out (by omega)
      have HTK : Hid (xs.take (k + 1) = xs.take k ++ [xs[k]]) := List.take_succ_eq_append_getElem hlt
      have hxo := HOK.out _ (List.getElem_mem hlt)
      have HW := Lib.hid hW
      have HL := Lib.hid hl
      have HLK := Lib.hid hlk
      have HF := Lib.hid hfr
      have q := fun j hj => HF.out.cell ((hcell k hlt j hj).trans (List.getElem?_eq_getElem (by rw [cellsE_len]; exact hj))) (fun h => h)
      generalize xs[k] = x at *
      have d0 := q 0 (by decide)
      have d1 := q 1 (by decide)
      have d2 := q 2 (by decide)
      have d3 := q 3 (by decide)
      have d4 := q 4 (by decide)
      have d5 := q 5 (by decide)
      have d6 := q 6 (by decide)
      have d7 := q 7 (by decide)
      have d8 := q 8 (by decide)
      have d9 := q 9 (by decide)
      have d10 := q 10 (by decide)
      have d11 := q 11 (by decide)
      have d12 := q 12 (by decide)
      have d13 := q 13 (by decide)
      simp only [cellsE, List.getElem_cons_succ, List.getElem_cons_zero, Nat.add_zero] at d0 d1 d2 d3 d4 d5 d6 d7 d8 d9 d10 d11 d12 d13
      have HPL := Lib.hid (fun W => tyPlain_any x.df W)
      have HBX : Hid (∀ W, Frm (fun _ => False) (wr.alloc (.cells #[.int .u16 x.idx, .int .u8 x.sub, .int .i64 x.acc, .bool x.mp, .bool x.lim, .int .i64 x.mn.ty, .int .u64 x.mn.n, .string (strB2 x.mn.b), .int .i64 x.mx.ty, .int .u64 x.mx.n, .string (strB2 x.mx.b), .int .i64 x.df.ty, .int .u64 x.df.n, .string (strB2 x.df.b)] 42)) W → W.heap[wr.heap.size]? = some (.cells #[.int .u16 x.idx, .int .u8 x.sub, .int .i64 x.acc, .bool x.mp, .bool x.lim, .int .i64 x.mn.ty, .int .u64 x.mn.n, .string (strB2 x.mn.b), .int .i64 x.mx.ty, .int .u64 x.mx.n, .string (strB2 x.mx.b), .int .i64 x.df.ty, .int .u64 x.df.n, .string (strB2 x.df.b)] 42) ∧ Frm (fun _ => False) wr W) := fun W hF => ⟨hF.heap (heap_new _ _) (fun h => h), Frm.trans' (b := _) (by (repeat' (first | (with_reducible exact Frm.refl _ _) | (with_reducible assumption) | (with_reducible refine Frm.alloc ?_ _) | (with_reducible refine Frm.drew ?_) | (with_reducible refine Frm.drewN ?_ _) | (with_reducible refine Frm.set1 ?_ _) | (with_reducible refine Frm.setCell ?_ ?_ _) | (exact fun h => absurd h (Nat.lt_irrefl _)) | (intro hlt; simp [World.size_alloc, One] at hlt ⊢; omega)))) hF⟩
      have HPF : Hid (plainV x.df = (plainE x).df) := rfl
      unfold valV at HPL
      clear hW hl hlk hfr hcell q
      have hgl2 := Nat.lt_of_lt_of_le hgl HF.out.size
      go_upto_region 9 with (go_at_call 37; refine (HPL.out _).mono ?_; rintro e w4 ⟨rfl, hF4⟩; obtain ⟨kk, hF4'⟩ := HBX.out w4 hF4; have HK := Lib.hid kk; have HF4 := Lib.hid hF4'; have hfz := frees kk; have l0 := lt_of_block kk; have c11 : w4.cell? ⟨wr.heap.size, 11, none⟩ = some (.int .i64 x.df.ty) := cell_at kk; have c12 : w4.cell? ⟨wr.heap.size, 12, none⟩ = some (.int .u64 x.df.n) := cell_at kk; have c13 : w4.cell? ⟨wr.heap.size, 13, none⟩ = some (.string (strB2 x.df.b)) := cell_at kk; clear hF4 hF4' kk)
      have hFx : Frm (fun _ => False) wr (((w4.setCell ⟨wr.heap.size, 11, none⟩ (.int .i64 (plainV x.df).ty)).setCell ⟨wr.heap.size, 12, none⟩ (.int .u64 (plainV x.df).n)).setCell ⟨wr.heap.size, 13, none⟩ (.string (strB2 (plainV x.df).b))) :=
        ((HF4.out.setCell (p := ⟨wr.heap.size, 11, none⟩) (fun h => absurd h (Nat.lt_irrefl _)) _).setCell (p := ⟨wr.heap.size, 12, none⟩) (fun h => absurd h (Nat.lt_irrefl _)) _).setCell (p := ⟨wr.heap.size, 13, none⟩) (fun h => absurd h (Nat.lt_irrefl _)) _
      have hTx := store14 (c11 := .int .i64 (plainV x.df).ty) (c12 := .int .u64 (plainV x.df).n) (c13 := .string (strB2 (plainV x.df).b)) HK.out
      obtain ⟨wx, hwx⟩ : ∃ wx, wx = ((w4.setCell ⟨wr.heap.size, 11, none⟩ (.int .i64 (plainV x.df).ty)).setCell ⟨wr.heap.size, 12, none⟩ (.int .u64 (plainV x.df).n)).setCell ⟨wr.heap.size, 13, none⟩ (.string (strB2 (plainV x.df).b)) := ⟨_, rfl⟩
      rw [← hwx] at hFx hTx ⊢
      rw [HPF.out] at hTx ⊢
      clear hwx hfz l0 c11 c12 c13 d0 d1 d2 d3 d4 d5 d6 d7 d8 d9 d10 d11 d12 d13 HBX HPL HK HF4
      have HBX := Lib.hid (HW.out.grow hFx)
      have hsx : wr.heap.size < wx.heap.size := lt_of_block hTx
      have hb2 : w3.heap.size < wx.heap.size := by omega
      obtain ⟨v2, hO, hr⟩ := HBX.out.row
      obtain ⟨A2, cap2, rfl, q1, q2, _⟩ := row_open hr
      have ct : wx.cell? ⟨w3.heap.size, 0, none⟩ = some (.slice A2 l.length cap2) := cell_at hO
      have HR6 := Lib.hid hr
      have HO := Lib.hid hO
      have HFX := Lib.hid hFx
      have HNE : Hid (∀ k, (Value.slice A2 l.length cap2).ownBlock = some k → k ≠ w3.heap.size ∧ k < wx.heap.size ∧ w3.heap.size ≤ k) := fun k hk => by
        obtain ⟨hk0, cur, hc⟩ := row_block HR6.out hk
        exact ⟨block_ne hc HO.out (by decide), lt_of_block hc, hk0⟩
      have z0 : wx.cell? ⟨wr.heap.size, 0, none⟩ = some (.int .u16 x.idx) := cell_at hTx
      have z1 : wx.cell? ⟨wr.heap.size, 1, none⟩ = some (.int .u8 x.sub) := cell_at hTx
      have z2 : wx.cell? ⟨wr.heap.size, 2, none⟩ = some (.int .i64 x.acc) := cell_at hTx
      have z3 : wx.cell? ⟨wr.heap.size, 3, none⟩ = some (.bool x.mp) := cell_at hTx
      have z4 : wx.cell? ⟨wr.heap.size, 4, none⟩ = some (.bool x.lim) := cell_at hTx
      have z5 : wx.cell? ⟨wr.heap.size, 5, none⟩ = some (.int .i64 x.mn.ty) := cell_at hTx
      have z6 : wx.cell? ⟨wr.heap.size, 6, none⟩ = some (.int .u64 x.mn.n) := cell_at hTx
      have z7 : wx.cell? ⟨wr.heap.size, 7, none⟩ = some (.string (strB2 x.mn.b)) := cell_at hTx
      have z8 : wx.cell? ⟨wr.heap.size, 8, none⟩ = some (.int .i64 x.mx.ty) := cell_at hTx
      have z9 : wx.cell? ⟨wr.heap.size, 9, none⟩ = some (.int .u64 x.mx.n) := cell_at hTx
      have z10 : wx.cell? ⟨wr.heap.size, 10, none⟩ = some (.string (strB2 x.mx.b)) := cell_at hTx
      have z11 : wx.cell? ⟨wr.heap.size, 11, none⟩ = some (.int .i64 (plainE x).df.ty) := cell_at hTx
      have z12 : wx.cell? ⟨wr.heap.size, 12, none⟩ = some (.int .u64 (plainE x).df.n) := cell_at hTx
      have z13 : wx.cell? ⟨wr.heap.size, 13, none⟩ = some (.string (strB2 (plainE x).df.b)) := cell_at hTx
      have hl8 : (l.length + 1) * 8 ≤ 140737488355328 := by have := HLK.out; omega
      have hl9 : l.length + 1 ≤ maxLen := by have := HLK.out; unfold maxLen; omega
      have hb3 : w3.heap.size < wx.heap.size + 1 := by omega
      have hb4 : w3.heap.size < wx.heap.size + 1 + 1 := by omega
      have hx4 : wr.heap.size < wx.heap.size + 1 := by omega
      clear hr hO hFx hTx q1 q2
      go_region_law
        ((refine step_app (by rfl) el_pitem _ _ (by rfl) (by rfl) (by rfl) (B := w3.heap.size) (xs := l.map fun q => ptr q.1) (arr := #[.pointer (some ⟨wx.heap.size, 0, none⟩)]) (e2 := 81) (fr := (0, 0)) (Frm.row (S := fun _ => False) (by (repeat' (first | (with_reducible exact Frm.refl _ _) | (with_reducible assumption) | (with_reducible refine Frm.alloc ?_ _) | (with_reducible refine Frm.drew ?_) | (with_reducible refine Frm.drewN ?_ _) | (with_reducible refine Frm.set1 ?_ _) | (with_reducible refine Frm.setCell ?_ ?_ _) | (exact fun h => absurd h (Nat.lt_irrefl _)) | (intro hlt; simp [World.size_alloc, One] at hlt ⊢; omega)))) HR6.out (fun _ _ h => h)) (heap_new_at (by simp)) (by rfl) (by simp [Value.oneCell']) (by decide) hl9 hl8 (by simp; omega) ?_; intro g2 cap3 w2 hown2 hfr2 hat2 hlt2; have hO2 : w2.heap[w3.heap.size]? = some (.cells #[.slice A2 l.length cap2] 80 (0, 0)) := (by refine hfr2.heap ?_ (fun h => (HNE.out _ h).1 rfl); (repeat (first | (with_reducible exact HO.out) | (with_reducible apply heap_alloc_old) | (with_reducible apply heap_drewN') | (with_reducible apply heap_drew')))); have hz2 : w2.frozen? ⟨w3.heap.size, 0, none⟩ = false := free_at hO2; have hc2 : w2.cell? ⟨w3.heap.size, 0, none⟩ = some (.slice A2 l.length cap2) := cell_at hO2))
      all_goals
        have HO3 := Lib.hid hO2
        have HO4 := Lib.hid hown2
        have HF2 := Lib.hid hfr2
        clear hO2 hown2 hfr2 hc2 hz2 ct z0 z1 z2 z3 z4 z5 z6 z7 z8 z9 z10 z11 z12 z13
        go_wp2_with fail
        go_roundw
        case rel =>
          have hpn : wx.heap.size ≠ w3.heap.size := by omega
          have hpo : ¬ (Value.slice A2 l.length cap2).ownBlock = some wx.heap.size := fun h => by have := (HNE.out _ h).2.1; omega
          have fp := HF2.out.heap (heap_alloc_old (heap_new_at (k := wx.heap.size) (by first | rfl | simp))) hpo
          have hf3 : Frm (fun j => j = w3.heap.size ∨ (Value.slice A2 l.length cap2).ownBlock = some j) wx (w2.setCell ⟨w3.heap.size, 0, none⟩ (.slice (some ⟨g2, 0, none⟩) (l.length + 1) cap3)) := by
            refine Frm.setCell ?_ (fun _ => .inl rfl) _
            refine Frm.trans (T := fun k => (Value.slice A2 l.length cap2).ownBlock = some k) ?_ HF2.out (fun i _ h => .inr h)
            (repeat' (first | (with_reducible exact Frm.refl _ _) | (with_reducible assumption) | (with_reducible refine Frm.alloc ?_ _) | (with_reducible refine Frm.drew ?_) | (with_reducible refine Frm.drewN ?_ _) | (with_reducible refine Frm.set1 ?_ _) | (with_reducible refine Frm.setCell ?_ ?_ _) | (exact fun h => absurd h (Nat.lt_irrefl _)) | (intro hlt; simp [World.size_alloc, One] at hlt ⊢; omega)))
          refine ⟨k + 1, l ++ [(wx.heap.size, newI x)], by omega, by go_num, HBX.out.push (newI x) HO.out (heap_set_same HO3.out _) ?_ ?_ (Nat.le_refl _) hf3, ?_, ?_, ?_⟩
          · exact Frm.row (S := One w3.heap.size) ((Frm.refl _ _).set1 _) HO4.out (fun k hk e => by cases hk; have := block_ne (row_block HO4.out rfl).2.choose_spec HO3.out (by decide); exact this e)
          · exact heap_set_other fp hpn
          · rw [List.map_append, HTK.out, List.map_append, HL.out]; rfl
          · refine (HF.out.trans' HFX.out).trans hf3 (fun i hi h => ?_)
            rcases h with h | h
            · have := HF3.out.size; omega
            · have := (HNE.out _ h).2.2; have := HF3.out.size; omega
          · have := HF2.out.size; simp at this ⊢; omega
        case measure => simp [intOf]; omega
    · have hkn : k = xs.length := by omega
      subst hkn
      rw [List.take_length] at hl
      obtain ⟨v2, hO, hr⟩ := hW.row
      obtain ⟨A2, cap2, rfl, q1, q2, _⟩ := row_open hr
      have ct : wr.cell? ⟨w3.heap.size, 0, none⟩ = some (.slice A2 l.length cap2) := cell_at hO
      have hnd2 : (l.map plI).Nodup := by
        have e : l.map plI = (xs.map newI).map fun x => plE x.1 := by rw [← hl, List.map_map]; rfl
        rw [e, List.map_map]
        exact HND.out
      have hok2 : ∀ q ∈ l, q.2.1.ok := fun q hq => by
        have : q.2 ∈ xs.map newI := by rw [← hl]; exact List.mem_map.2 ⟨q, hq, rfl⟩
        obtain ⟨x, hx, e⟩ := List.mem_map.1 this
        rw [← e]
        exact plainE_ok (HOK.out x hx)
      have HSRT := Lib.hid (sort_items _ _ _ l wr hr hW.el hok2 hnd2 (by rw [hlk]; exact hlen))
      have HW := Lib.hid hW
      have HL := Lib.hid hl
      have HF := Lib.hid hfr
      have HO := Lib.hid hO
      clear hW hl hfr hO hr hlk hnd2 hok2 q1 q2
      unfold SortP at HSRT
      go_wp2_with (go_at_call 38; refine HSRT.out.mono ?_; rintro e w5 ⟨rfl, l', hp5, hs5, hr5, hF5⟩)
      go_ret2
      have hD := HW.out.sort HO.out hp5 hr5 hF5
      have hb : w.heap.size ≤ w3.heap.size := HF3.out.size
      refine ⟨HF.out.trans hF5 (fun i hi e => ?_), .inr ⟨HC.out, _, l', rfl, hD, ?_, hb⟩⟩
      · obtain ⟨v9, hO9, hr9⟩ := HW.out.row
        rw [HO.out] at hO9
        simp at hO9
        subst hO9
        have := (row_block hr9 e).1
        omega
      · refine newD_uniq HND.out ?_ ?_
        · rw [← HL.out]; exact hp5.map _
        · rw [List.pairwise_map]; exact hs5
end Go.Proofs.Ytemjdmgfilbfaaa
