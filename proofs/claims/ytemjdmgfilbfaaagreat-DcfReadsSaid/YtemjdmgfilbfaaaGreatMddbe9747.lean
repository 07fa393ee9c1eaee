/-
  May, Write. A call of the law's, and entries, as they lie in memory. List. Two dictionaries of one list of entries, side by side. Entry. The document's dictionary in memory; Find. The document's Read. Plain: where an entry is put in order. The document's place and Reset.
-/
import Derived.Test.YtemjdmgfilbfaaaGreatM47b6f1e7
import Derived.Test.YtemjdmgfilbfaaaGreatM1640ab23
set_option linter.unusedVariables false
set_option linter.unusedSimpArgs false
namespace Go.Proofs.YtemjdmgfilbfaaaGreat
open Go.RowKit
set_option linter.unusedVariables false

theorem DAt.upd {w w' : World} {b k : Nat} {l : List (Nat × Im)} (h : DAt w b l) (hk : k < l.length) (x' : Im) (hF : Frm (One l[k].1) w w') (hp : ItAt w' l[k].1 x') : DAt w' b (l.set k (l[k].1, x')) := by
  obtain ⟨v, hO, hr⟩ := h.row
  have hx := h.el _ (List.getElem_mem hk)
  have hm : (l.set k (l[k].1, x')).map (fun q => ptr q.1) = l.map fun q => ptr q.1 := by
    apply List.ext_getElem (by simp)
    intro i h1 h2
    by_cases e : k = i
    · subst e; simp
    · simp [e]
  have hm2 : (l.set k (l[k].1, x')).map (·.1) = l.map (·.1) := by
    apply List.ext_getElem (by simp)
    intro i h1 h2
    by_cases e : k = i
    · subst e; simp
    · simp [e]
  refine ⟨⟨v, hF.heap hO (fun e => ?_), ?_⟩, ?_, ?_, ?_⟩
  · have e : b = l[k].1 := e
    exact block_ne hx hO (by decide) e.symm
  · rw [List.length_set, hm]
    refine hF.row hr fun j hj e => ?_
    have e : j = l[k].1 := e
    obtain ⟨_, cur, hc⟩ := row_block hr hj
    exact block_ne hx hc (by decide) e.symm
  · intro q hq
    obtain ⟨j, hj, rfl⟩ := List.getElem_of_mem hq
    have hj' : j < l.length := by simpa using hj
    by_cases e : k = j
    · subst e; simpa using hp
    · rw [List.getElem_set_ne e]
      refine (h.el _ (List.getElem_mem hj')).frm hF fun e2 => e ?_
      have e2 : l[j].1 = l[k].1 := e2
      exact (nodup_at h.nd (i := k) (k := j) (by simpa using hk) (by simpa using hj') (by simpa using e2.symm))
  · rw [hm2]; exact h.nd
  · intro q hq
    rcases List.mem_or_eq_of_mem_set hq with hq | rfl
    · exact h.lo q hq
    · exact (h.lo l[k] (List.getElem_mem hk) : b ≤ l[k].1)
theorem upd_im {l : List (Nat × Im)} {k : Nat} (hk : k < l.length) (x' : Im) : im (l.set k (l[k].1, x')) = (im l).set k x' := by simp [im, List.map_set]
theorem upd_fst {l : List (Nat × Im)} {k : Nat} (hk : k < l.length) (x' : Im) : (l.set k (l[k].1, x')).map (·.1) = l.map (·.1) := by
  apply List.ext_getElem (by simp)
  intro i h1 h2
  by_cases e : k = i
  · subst e; simp
  · simp [e]
theorem take_ok (x : En) (b : List UInt8) : (takeE x b).2.ok := by
  have hz : Va.zero.ok := by simp [Va.zero, Va.ok, two64]
  have hd := decV_ok x.df.ty b
  unfold takeE
  repeat' split
  all_goals first | exact hz | exact hd
theorem DOk.upd {d : List Im} (h : DOk d) {k : Nat} (hk : k < d.length) (v : Va) (hv : v.ok) : DOk (d.set k (d[k].1, v)) := by
  refine ⟨?_, fun x hx => ?_, by simpa using h.len⟩
  · rw [List.pairwise_iff_getElem]
    intro i j h1 h2 hij
    have h3 := List.pairwise_iff_getElem.1 h.srt i j (by simpa using h1) (by simpa using h2) hij
    rw [List.getElem_set, List.getElem_set]
    split
    · rename_i e; subst e
      rw [if_neg (by omega)]; exact h3
    · split
      · rename_i e; subst e; exact h3
      · exact h3
  · rcases List.mem_or_eq_of_mem_set hx with hx | rfl
    · exact h.ok x hx
    · exact ⟨(h.ok _ (List.getElem_mem hk)).1, hv⟩
theorem DOk.write {d : List Im} (h : DOk d) (i s : Int) (b : List UInt8) : DOk (writeD d i s b) := by
  unfold writeD
  split
  · exact h
  · split
    · exact h
    · rename_i k hf x hx
      split
      · obtain ⟨hk, rfl⟩ := List.getElem?_eq_some_iff.1 hx
        exact h.upd hk _ (take_ok _ _)
      · exact h

theorem odMay_any (b : Nat) (l : List (Nat × Im)) (i s : Int) (v : Value) (bs : List UInt8) (w : World) (h : DAt w b l) (hd : DOk (im l)) (hs : 0 ≤ s ∧ s ≤ 255) (hv : BytesAt w v bs) (hl : bs.length ≤ 140737488351232) :
    Calls Tryz.prog 38 #[ptr b, .int .u16 i, .int .u8 s, v] w fun e w' => e = .returned (.int .u32 (mayD (im l) i s bs)) ∧ Frm (fun _ => False) w w' := by
  have HM := Lib.hid (odmay_any b l i s v bs w h hd hs hv hl)
  obtain ⟨A, cap, rfl, _⟩ := hv
  clear h hd hs hl
  unfold ptr at HM
  unfold ptr
  go_enter Tryz.func38, Tryz.ntmps38
  go_wp2_with fail
  refine HM.out.mono ?_
  rintro e w1 ⟨⟨p, v, rfl, -⟩, hF⟩
  go_wp2_with fail
  go_ret
  exact ⟨rfl, by (repeat' (first | (with_reducible exact Frm.refl _ _) | (with_reducible assumption) | (with_reducible refine Frm.alloc ?_ _) | (with_reducible refine Frm.drew ?_) | (with_reducible refine Frm.drewN ?_ _) | (with_reducible refine Frm.set1 ?_ _) | (with_reducible refine Frm.setCell ?_ ?_ _) | (exact fun h => absurd h (Nat.lt_irrefl _)) | (intro hlt; simp [World.size_alloc, One] at hlt ⊢; omega)))⟩

def WriteP (b : Nat) (l : List (Nat × Im)) (i s : Int) (bs : List UInt8) (w : World) (e : Ending) (w' : World) : Prop :=
  e = .returned (.int .u32 (mayD (im l) i s bs)) ∧ ∃ l', DAt w' b l' ∧ im l' = writeD (im l) i s bs ∧ l'.map (·.1) = l.map (·.1) ∧ Frm (fun j => ∃ q ∈ l, j = q.1) w w'

theorem store17 {w : World} {g : Nat} {x : Im} (v : Va) (h : ItAt w g x) : ItAt (((w.setCell ⟨g, 14, none⟩ (.int .i64 v.ty)).setCell ⟨g, 15, none⟩ (.int .u64 v.n)).setCell ⟨g, 16, none⟩ (.string (strB2 v.b))) g (x.1, v) :=
  heap_set_at (heap_set_at (heap_set_at h rfl) rfl) rfl

set_option maxRecDepth 100000 in
set_option maxHeartbeats 1000000 in
theorem odWrite_any (b : Nat) (l : List (Nat × Im)) (i s : Int) (v : Value) (bs : List UInt8) (w : World) (h : DAt w b l) (hd : DOk (im l)) (hs : 0 ≤ s ∧ s ≤ 255) (hv : BytesAt w v bs) (hl : bs.length ≤ 140737488351232) :
    Calls Tryz.prog 39 #[ptr b, .int .u16 i, .int .u8 s, v] w (WriteP b l i s bs w) := by
  have HM := Lib.hid (odmay_any b l i s v bs w h hd hs hv hl)
  have HD := Lib.hid h
  obtain ⟨A, cap, rfl, _⟩ := hv
  have HNO : Hid (mayD (im l) i s bs ≠ 0 → writeD (im l) i s bs = im l) := fun hne => by
    unfold writeD
    unfold mayD at hne
    split
    · rfl
    · rename_i k hf
      rw [hf] at hne
      simp only at hne
      split
      · rfl
      · rename_i x hx
        rw [hx] at hne
        simp only at hne
        rw [if_neg hne]
  have HYES : Hid (∀ (k : Nat) (hk : k < l.length), findD (im l) i s = some k → (takeE l[k].2.1 bs).1 = 0 → writeD (im l) i s bs = (im l).set k (l[k].2.1, (takeE l[k].2.1 bs).2)) := fun k hk hf ht => by
    unfold writeD
    rw [hf]
    simp [hk, ht]
  clear h hd hs hl
  unfold ptr at HM
  unfold ptr WriteP
  generalize hmd : mayD (im l) i s bs = md at *
  go_enter Tryz.func39, Tryz.ntmps39
  go_wp2_with fail
  refine HM.out.mono ?_
  rintro e w1 ⟨⟨p, vv, rfl, hyes⟩, hF⟩
  rw [hmd] at hyes
  have HF := Lib.hid hF
  clear HM hF
  by_cases h0 : md = 0
  case neg =>
    have HN := Lib.hid (HNO.out h0)
    have hb : (md == 0) = false := by simpa using h0
    clear hyes h0
    go_wp2_with fail
    go_ret
    refine ⟨rfl, l, HD.out.grow (HF.out.trans' (by (repeat' (first | (with_reducible exact Frm.refl _ _) | (with_reducible assumption) | (with_reducible refine Frm.alloc ?_ _) | (with_reducible refine Frm.drew ?_) | (with_reducible refine Frm.drewN ?_ _) | (with_reducible refine Frm.set1 ?_ _) | (with_reducible refine Frm.setCell ?_ ?_ _) | (exact fun h => absurd h (Nat.lt_irrefl _)) | (intro hlt; simp [World.size_alloc, One] at hlt ⊢; omega))))), HN.out.symm, rfl, ?_⟩
    exact (HF.out.trans' (by (repeat' (first | (with_reducible exact Frm.refl _ _) | (with_reducible assumption) | (with_reducible refine Frm.alloc ?_ _) | (with_reducible refine Frm.drew ?_) | (with_reducible refine Frm.drewN ?_ _) | (with_reducible refine Frm.set1 ?_ _) | (with_reducible refine Frm.setCell ?_ ?_ _) | (exact fun h => absurd h (Nat.lt_irrefl _)) | (intro hlt; simp [World.size_alloc, One] at hlt ⊢; omega))))).mono (fun _ _ h => h.elim)
  case pos =>
    obtain ⟨k, hk, hf, rfl, rfl, ht⟩ := hyes h0
    have HY := Lib.hid (HYES.out k hk hf ht)
    subst h0
    have hm := List.getElem_mem hk
    have HI := Lib.hid (HF.out.heap (HD.out.el _ hm) (fun h => h))
    obtain ⟨x, hx⟩ : ∃ x, x = l[k].2 := ⟨_, rfl⟩
    obtain ⟨p, hp⟩ : ∃ p, p = l[k].1 := ⟨_, rfl⟩
    have HX := Lib.hid hx
    have HP := Lib.hid hp
    have ki : w1.heap[p]? = some (.cells (cellsI x).toArray 100 (0, 0)) := by rw [hp, hx]; exact HI.out
    rw [← hx] at HY
    rw [← hp, ← hx]
    have hvo := take_ok x.1 bs
    generalize (takeE x.1 bs).2 = vv at *
    clear hyes hf ht hx hp hm
    have KI := Lib.hid ki
    have y0 : w1.cell? ⟨p, 14, none⟩ = some (.int .i64 x.2.ty) := cell_at ki
    have y1 : w1.cell? ⟨p, 15, none⟩ = some (.int .u64 x.2.n) := cell_at ki
    have y2 : w1.cell? ⟨p, 16, none⟩ = some (.string (strB2 x.2.b)) := cell_at ki
    have f0 := frees ki
    have l0 := lt_of_block ki
    clear ki
    go_wp2_with fail
    go_ret
    have hD0 := HD.out.grow HF.out
    have hI1 := store17 vv KI.out
    have hset : Frm (One p) w1 (((w1.setCell ⟨p, 14, none⟩ (.int .i64 vv.ty)).setCell ⟨p, 15, none⟩ (.int .u64 vv.n)).setCell ⟨p, 16, none⟩ (.string (strB2 vv.b))) :=
      (((Frm.refl (One p) _).setCell (p := ⟨p, 14, none⟩) (fun _ => rfl) _).setCell (p := ⟨p, 15, none⟩) (fun _ => rfl) _).setCell (p := ⟨p, 16, none⟩) (fun _ => rfl) _
    have hfin := (hD0.upd hk (x.1, vv) (by rw [← HP.out]; exact hset) (by rw [← HP.out]; exact hI1))
    refine ⟨rfl, _, hfin.grow ((Frm.refl _ _).alloc _), ?_, upd_fst hk _, ?_⟩
    · rw [upd_im, HY.out]
    · exact ((HF.out.mono (T := fun j => ∃ q ∈ l, j = q.1) (fun _ _ h => h.elim)).trans hset (fun i hi e => ⟨l[k], List.getElem_mem hk, by have e : i = p := e; rw [e, HP.out]⟩)).alloc _
end Go.Proofs.YtemjdmgfilbfaaaGreat
namespace Go.Proofs.YtemjdmgfilbfaaaGreat
open Go.RowKit
set_option linter.unusedVariables false

/-- A call, as it lies in memory, and what its bytes are. -/
structure ActO where
  kind : Int
  idx : Int
  sub : Int
  bv : Value
  bs : List UInt8
  v : Va
  n : Int
def encO (a : ActO) : List Value := [.int .i64 a.kind, .int .u16 a.idx, .int .u8 a.sub, a.bv, .int .i64 a.v.ty, .int .u64 a.v.n, .string (strB2 a.v.b), .int .u16 a.n]
theorem encO_len (a : ActO) : (encO a).length = 8 := rfl
def ActO.good (W : World) (a : ActO) : Prop := 0 ≤ a.idx ∧ a.idx ≤ 65535 ∧ 0 ≤ a.sub ∧ a.sub ≤ 255 ∧ BytesAt W a.bv a.bs ∧ a.bs.length ≤ 140737488351232 ∧ a.v.ok ∧ 0 ≤ a.n ∧ a.n ≤ 65535

theorem el_Entry : El Tryz.prog 22 59 14 120 := El.of Tryz.underlying22 (z := .agg #[.int .u16 0, .int .u8 0, .int .i64 0, .bool false, .bool false, .int .i64 0, .int .u64 0, .string ⟨#[]⟩, .int .i64 0, .int .u64 0, .string ⟨#[]⟩, .int .i64 0, .int .u64 0, .string ⟨#[]⟩]) (by kernel_rfl) rfl (by decide)
theorem oneE (xs : List En) : ∀ u ∈ cellsOf cellsE xs, u.oneCell' = true := fun u hu => by
  unfold cellsOf at hu
  obtain ⟨x, _, hx⟩ := List.mem_flatMap.1 hu
  simp only [cellsE, List.mem_cons, List.not_mem_nil, or_false] at hx
  rcases hx with rfl | rfl | rfl | rfl | rfl | rfl | rfl | rfl | rfl | rfl | rfl | rfl | rfl | rfl <;> rfl
theorem news_entries {W : World} {v : Value} {xs : List En} (h : SlAt cellsE 14 W v xs) : ∃ A cap, v = .slice A xs.length cap ∧ xs.length ≤ cap ∧ cap ≤ maxLen ∧ (0 < xs.length → NewsOf W A (cellsOf cellsE xs)) ∧ (cellsOf cellsE xs).length = xs.length * 14 := by
  have h' := h
  obtain ⟨A, cap, rfl, h1, h2, _⟩ := h
  obtain ⟨A', cap', e, hn⟩ := SlAt.cells cellsE_len (by decide) h'
  simp only [Value.slice.injEq] at e
  obtain ⟨rfl, _, rfl⟩ := e
  exact ⟨A, cap, rfl, h1, h2, hn, cellsOf_length cellsE_len xs⟩
end Go.Proofs.YtemjdmgfilbfaaaGreat
namespace Go.Proofs.YtemjdmgfilbfaaaGreat
open Go.RowKit
set_option linter.unusedVariables false

theorem el_EntryL : El Tryz.prog 22 59 14 120 := El.of Tryz.underlying22 (z := .agg #[.int .u16 0, .int .u8 0, .int .i64 0, .bool false, .bool false, .int .i64 0, .int .u64 0, .string ⟨#[]⟩, .int .i64 0, .int .u64 0, .string ⟨#[]⟩, .int .i64 0, .int .u64 0, .string ⟨#[]⟩]) (by kernel_rfl) rfl (by decide)
def ListP (d : List Im) (w : World) (e : Ending) (w' : World) : Prop := ∃ v, e = .returned v ∧ w'.ownsRow w.heap.size 59 14 v d.length (cellsOf cellsE (d.map (·.1))) ∧ Frm (fun _ => False) w w'

set_option maxRecDepth 100000 in
set_option maxHeartbeats 2000000 in
theorem odList_any (b : Nat) (l : List (Nat × Im)) (w : World) (h : DAt w b l) (hlen : l.length ≤ 1024) : Calls Tryz.prog 42 #[ptr b] w (ListP (im l) w) := by
  obtain ⟨v, hO, hr⟩ := h.row
  have HEL := Lib.hid h.el
  obtain ⟨A, cap, rfl, h1, h2, h3⟩ := row_open hr
  have c0 : w.cell? ⟨b, 0, none⟩ = some (.slice A l.length cap) := cell_at hO
  have hcell : ∀ (k : Nat) (hk : k < l.length), ∃ g, A = some ⟨g, 0, none⟩ ∧ w.cell? ⟨g, k, none⟩ = some (ptr l[k].1) ∧ g < w.heap.size := fun k hk => by
    obtain ⟨g, e, _, ⟨cur, hc⟩, _, hcc⟩ := h3 (by omega)
    exact ⟨g, e, by rw [hcc k (by omega)]; simp [hk], lt_of_block hc⟩
  have HCE := Lib.hid hcell
  clear h hO hr h1 h2 h3 hcell
  unfold ptr at HCE
  unfold ptr ListP
  go_enter Tryz.func42, Tryz.ntmps42
  go_wp2_with fail
  clear c0
  go_loopw [3, 5, 11] (fun bv _ i wr => ∃ k : Nat, k ≤ l.length ∧ i = .int .i64 k ∧ wr.ownsRow w.heap.size 59 14 bv k (cellsOf cellsE ((l.take k).map (·.2.1))) ∧ Frm (fun _ => False) w wr) (fun _ _ i _ => l.length - (intOf i).toNat)
  case atStart => exact ⟨0, Nat.zero_le _, rfl, World.ownsRow_nil _ _ _ _, Frm.refl _ _⟩
  case round =>
    obtain ⟨k, hk, rfl, hO, hF⟩ := hrel
    by_cases hlt : k < l.length
    · obtain ⟨g, rfl, cg, hg⟩ := HCE.out k hlt
      have hm := List.getElem_mem hlt
      have hek : cellsOf cellsE ((l.take (k + 1)).map (·.2.1)) = cellsOf cellsE ((l.take k).map (·.2.1)) ++ cellsE l[k].2.1 := by
        rw [List.take_succ_eq_append_getElem hlt, List.map_append]
        unfold cellsOf
        rw [List.flatMap_append]
        simp
      have hi := hF.heap (HEL.out _ hm) (fun h => h)
      have HEK := Lib.hid hek
      have cg' := hF.cell cg (fun h => h)
      have hg' := Nat.lt_of_lt_of_le hg hF.size
      clear hek hm cg hg
      obtain ⟨rb, hrb⟩ : ∃ rb, rb = cellsOf cellsE ((l.take k).map (·.2.1)) := ⟨_, rfl⟩
      rw [← hrb] at hO HEK
      clear hrb
      generalize l[k].1 = p at *
      generalize l[k].2 = x at *
      have i0 : wr.cell? ⟨p, 0, none⟩ = some (.int .u16 x.1.idx) := cell_at hi
      have i1 : wr.cell? ⟨p, 1, none⟩ = some (.int .u8 x.1.sub) := cell_at hi
      have i2 : wr.cell? ⟨p, 2, none⟩ = some (.int .i64 x.1.acc) := cell_at hi
      have i3 : wr.cell? ⟨p, 3, none⟩ = some (.bool x.1.mp) := cell_at hi
      have i4 : wr.cell? ⟨p, 4, none⟩ = some (.bool x.1.lim) := cell_at hi
      have i5 : wr.cell? ⟨p, 5, none⟩ = some (.int .i64 x.1.mn.ty) := cell_at hi
      have i6 : wr.cell? ⟨p, 6, none⟩ = some (.int .u64 x.1.mn.n) := cell_at hi
      have i7 : wr.cell? ⟨p, 7, none⟩ = some (.string (strB2 x.1.mn.b)) := cell_at hi
      have i8 : wr.cell? ⟨p, 8, none⟩ = some (.int .i64 x.1.mx.ty) := cell_at hi
      have i9 : wr.cell? ⟨p, 9, none⟩ = some (.int .u64 x.1.mx.n) := cell_at hi
      have i10 : wr.cell? ⟨p, 10, none⟩ = some (.string (strB2 x.1.mx.b)) := cell_at hi
      have i11 : wr.cell? ⟨p, 11, none⟩ = some (.int .i64 x.1.df.ty) := cell_at hi
      have i12 : wr.cell? ⟨p, 12, none⟩ = some (.int .u64 x.1.df.n) := cell_at hi
      have i13 : wr.cell? ⟨p, 13, none⟩ = some (.string (strB2 x.1.df.b)) := cell_at hi
      obtain ⟨Al, cl, rfl, g3, g4, _⟩ := row_open hO
      have HO := Lib.hid hO
      have HF := Lib.hid hF
      have hsz := hF.size
      have hm1 : k + 1 ≤ maxLen := by unfold maxLen; omega
      have hm2 : (k + 1) * 120 ≤ 140737488355328 := by omega
      clear hi hO hF
      go_wp2_with (at_builtin; refine wpl_app rfl el_EntryL (.tmp 15) (.tmp 20) rfl (B := w.heap.size) (e2 := 59) (fr := (0, 0)) (m := 1) (arr := (cellsE x.1).toArray) rfl rfl (Frm.row (S := fun _ => False) (by (repeat' (first | (with_reducible exact Frm.refl _ _) | (with_reducible assumption) | (with_reducible refine Frm.alloc ?_ _) | (with_reducible refine Frm.drew ?_) | (with_reducible refine Frm.drewN ?_ _) | (with_reducible refine Frm.set1 ?_ _) | (with_reducible refine Frm.setCell ?_ ?_ _) | (exact fun h => absurd h (Nat.lt_irrefl _)) | (intro hlt; simp [World.size_alloc, One] at hlt ⊢; omega)))) HO.out (fun _ _ h => h)) (heap_new_at (by simp)) rfl (by simp [cellsE, Value.oneCell']) (by decide) hm1 hm2 (by simp; omega) ?_; intro g5 cap5 w5 hown5 hfr5 hat5 hlt5)
      have hF5 : Frm (fun _ => False) w w5 := HF.out.trans (Frm.trans (b := _) (by (repeat' (first | (with_reducible exact Frm.refl _ _) | (with_reducible assumption) | (with_reducible refine Frm.alloc ?_ _) | (with_reducible refine Frm.drew ?_) | (with_reducible refine Frm.drewN ?_ _) | (with_reducible refine Frm.set1 ?_ _) | (with_reducible refine Frm.setCell ?_ ?_ _) | (exact fun h => absurd h (Nat.lt_irrefl _)) | (intro hlt; simp [World.size_alloc, One] at hlt ⊢; omega)))) hfr5 (fun _ _ h => h)) (fun i hi hs => absurd (row_block HO.out hs).1 (by omega))
      go_roundw
      case rel => exact ⟨k + 1, by omega, by go_num, by rw [HEK.out]; exact hown5, hF5⟩
      case measure => simp [intOf]; omega
    · have hkn : k = l.length := by omega
      subst hkn
      rw [List.take_length] at hO
      go_wp2_with fail
      go_ret
      exact ⟨_, rfl, by simpa [im, List.map_map, Function.comp_def] using hO, hF⟩
end Go.Proofs.YtemjdmgfilbfaaaGreat
namespace Go.Proofs.YtemjdmgfilbfaaaGreat
open Go.RowKit
set_option linter.unusedVariables false

/-- A block without cells is an empty row. -/
theorem own0 {w : World} {g B : Nat} {e : TypeId} (size : Nat) (h : w.heap[g]? = some (.cells #[] e (0, 0))) (hB : B ≤ g) : w.ownsRow B e size (.slice (some ⟨g, 0, none⟩) 0 0) 0 [] :=
  ⟨by simp, .inr ⟨g, 0, #[], rfl, hB, h, Nat.le_refl _, by unfold maxLen; omega, by simp, by simp⟩⟩
/-- Bytes of the call's own. -/
structure Byt (w : World) (B : Nat) (A : Option Addr) (n c : Nat) (bs : List UInt8) : Prop where
  at_ : BytesAt w (.slice A n c) bs
  lo : ∀ k, (Value.slice A n c).ownBlock = some k → B ≤ k
theorem Byt.frm {S : Nat → Prop} {w w' : World} {B n c : Nat} {A : Option Addr} {bs : List UInt8} (h : Byt w B A n c bs) (hF : Frm S w w') (hS : ∀ k, B ≤ k → ¬ S k) : Byt w' B A n c bs :=
  ⟨h.at_.frm hF fun k hk => hS k (h.lo k hk), h.lo⟩
theorem Byt.grow {w w' : World} {B n c : Nat} {A : Option Addr} {bs : List UInt8} (h : Byt w B A n c bs) (hF : Frm (fun _ => False) w w') : Byt w' B A n c bs := h.frm hF fun _ _ h => h
/-- What is written to a block without cells leaves bytes alone. -/
theorem Byt.apart {w w' : World} {B n c g : Nat} {A : Option Addr} {bs : List UInt8} {e : TypeId} (h : Byt w B A n c bs) (hg : w.heap[g]? = some (.cells #[] e (0, 0))) (hF : Frm (fun k => (Value.slice (some ⟨g, 0, none⟩) 0 0).ownBlock = some k) w w') : Byt w' B A n c bs := by
  refine ⟨?_, h.lo⟩
  obtain ⟨A', cap, e1, h1, h2, h3⟩ := h.at_
  simp only [Value.slice.injEq] at e1
  obtain ⟨rfl, rfl, rfl⟩ := e1
  refine ⟨A, c, rfl, h1, h2, fun h0 => ?_⟩
  obtain ⟨b, off, rfl, hc⟩ := h3 h0
  refine ⟨b, off, rfl, fun i hi => hF.cell (hc i hi) fun e2 => ?_⟩
  cases e2
  have := cell_at hg (o := off + i)
  rw [hc i hi] at this
  simp at this
theorem Byt.of_row {w : World} {B n c : Nat} {A : Option Addr} {bs : List UInt8} (h : w.ownsRow B 5 1 (.slice A (0 + n) c) (0 + n) ([] ++ bs.map encB)) : Byt w B A n c bs := by
  rw [Nat.zero_add, List.nil_append] at h
  exact ⟨BytesAt.of_row h, fun k hk => (row_block h hk).1⟩

/-- The program's two dictionaries, and the pair that bears the first. -/
structure Duo (w : World) (a b p b2 N : Nat) (l1 l2 : List (Nat × Im)) : Prop where
  hp : w.heap[a]? = some (.cells #[ptr b, ptr p] 36 (0, 0))
  d1 : DAt w b l1
  d2 : DAt w b2 l2
  u1 : ∀ q ∈ l1, q.1 < N
  bn : b < N
  n2 : N ≤ b2
theorem Duo.grow {w w' : World} {a b p b2 N : Nat} {l1 l2 : List (Nat × Im)} (h : Duo w a b p b2 N l1 l2) (hF : Frm (fun _ => False) w w') : Duo w' a b p b2 N l1 l2 :=
  ⟨hF.heap h.hp (fun h => h), h.d1.grow hF, h.d2.grow hF, h.u1, h.bn, h.n2⟩
/-- The first is written to. -/
theorem Duo.w1 {w w' : World} {a b p b2 N : Nat} {l1 l2 l' : List (Nat × Im)} (h : Duo w a b p b2 N l1 l2) (hF : Frm (fun j => ∃ q ∈ l1, j = q.1) w w') (hd : DAt w' b l') (hf : l'.map (·.1) = l1.map (·.1)) : Duo w' a b p b2 N l' l2 := by
  refine ⟨hF.heap h.hp ?_, hd, h.d2.frm hF ?_ ?_ ?_, fun q hq => ?_, h.bn, h.n2⟩
  · rintro ⟨q, hq, rfl⟩
    exact block_ne (h.d1.el q hq) h.hp (by decide) rfl
  · rintro ⟨q, hq, e⟩
    have := h.u1 q hq; have := h.n2; omega
  · rintro q2 hq2 ⟨q, hq, e⟩
    have := h.u1 q hq; have := h.n2; have := h.d2.lo q2 hq2; omega
  · rintro k cur ⟨q, hq, rfl⟩ hk
    exact block_ne (h.d1.el q hq) hk (by decide) rfl
  · have : q.1 ∈ l1.map (·.1) := by rw [← hf]; exact List.mem_map_of_mem hq
    obtain ⟨q', hq', e⟩ := List.mem_map.1 this
    rw [← e]
    exact h.u1 q' hq'
/-- The other one is written to. -/
theorem Duo.w2 {w w' : World} {a b p b2 N : Nat} {l1 l2 l' : List (Nat × Im)} (h : Duo w a b p b2 N l1 l2) (hF : Frm (fun j => ∃ q ∈ l2, j = q.1) w w') (hd : DAt w' b2 l') : Duo w' a b p b2 N l1 l' := by
  refine ⟨hF.heap h.hp ?_, h.d1.frm hF ?_ ?_ ?_, hd, h.u1, h.bn, h.n2⟩
  · rintro ⟨q, hq, rfl⟩
    exact block_ne (h.d2.el q hq) h.hp (by decide) rfl
  · rintro ⟨q, hq, e⟩
    have := h.d2.lo q hq; have := h.n2; have := h.bn; omega
  · rintro q2 hq2 ⟨q, hq, e⟩
    have := h.d2.lo q hq; have := h.n2; have := h.u1 q2 hq2; omega
  · rintro k cur ⟨q, hq, rfl⟩ hk
    exact block_ne (h.d2.el q hq) hk (by decide) rfl
/-- An append to a block of bytes without cells. -/
theorem Duo.app {w w' : World} {a b p b2 N g : Nat} {l1 l2 : List (Nat × Im)} (h : Duo w a b p b2 N l1 l2) (hZ : w.heap[g]? = some (.cells #[] 5 (0, 0))) (hF : Frm (fun k => (Value.slice (some ⟨g, 0, none⟩) 0 0).ownBlock = some k) w w') : Duo w' a b p b2 N l1 l2 := by
  have hD : ∀ b' l, DAt w b' l → DAt w' b' l := fun b' l hd => by
    obtain ⟨v, hO, _⟩ := hd.row
    refine hd.frm hF (fun e => by cases e; exact block_ne hO hZ (by decide) rfl) (fun q hq e => by cases e; exact block_ne (hd.el q hq) hZ (by decide) rfl) (fun k cur e hk => by cases e; exact block_ne hk hZ (by decide) rfl)
  exact ⟨hF.heap h.hp (fun e => by cases e; exact block_ne h.hp hZ (by decide) rfl), hD _ _ h.d1, hD _ _ h.d2, h.u1, h.bn, h.n2⟩
/-- A frame of a dictionary's own items, seen from a heap that was ahead of both. -/
theorem Duo.lo1 {w : World} {a b p b2 N : Nat} {l1 l2 : List (Nat × Im)} (h : Duo w a b p b2 N l1 l2) {B k : Nat} (hB : B ≤ b) (hk : ∃ q ∈ l1, k = q.1) : B ≤ k := by
  obtain ⟨q, hq, rfl⟩ := hk
  exact Nat.le_trans hB (h.d1.lo q hq)
theorem Duo.lo2 {w : World} {a b p b2 N : Nat} {l1 l2 : List (Nat × Im)} (h : Duo w a b p b2 N l1 l2) {B k : Nat} (hB : B ≤ b) (hk : ∃ q ∈ l2, k = q.1) : B ≤ k := by
  obtain ⟨q, hq, rfl⟩ := hk
  have := h.d2.lo q hq; have := h.n2; have := h.bn; omega
theorem Duo.lt1 {w : World} {a b p b2 N : Nat} {l1 l2 : List (Nat × Im)} (h : Duo w a b p b2 N l1 l2) {k : Nat} (hk : ∃ q ∈ l1, k = q.1) : k < w.heap.size := by
  obtain ⟨q, hq, rfl⟩ := hk
  exact h.d1.lt q hq
theorem Duo.lt2 {w : World} {a b p b2 N : Nat} {l1 l2 : List (Nat × Im)} (h : Duo w a b p b2 N l1 l2) {k : Nat} (hk : ∃ q ∈ l2, k = q.1) : k < w.heap.size := by
  obtain ⟨q, hq, rfl⟩ := hk
  exact h.d2.lt q hq
end Go.Proofs.YtemjdmgfilbfaaaGreat
namespace Go.Proofs.YtemjdmgfilbfaaaGreat
open Go.RowKit
set_option linter.unusedVariables false

theorem store14a {w : World} {g : Nat} {t : TypeId} {fz : Nat × Nat} {d0 d1 d2 d3 d4 d5 d6 d7 d8 d9 d10 d11 d12 d13 c0 c1 c2 c3 c4 c5 c6 c7 c8 c9 c10 c11 c12 c13 : Value} (h : w.heap[g]? = some (.cells #[d0, d1, d2, d3, d4, d5, d6, d7, d8, d9, d10, d11, d12, d13] t fz)) :
    ((((((((((((((w.setCell ⟨g, 0, none⟩ c0).setCell ⟨g, 1, none⟩ c1).setCell ⟨g, 2, none⟩ c2).setCell ⟨g, 3, none⟩ c3).setCell ⟨g, 4, none⟩ c4).setCell ⟨g, 5, none⟩ c5).setCell ⟨g, 6, none⟩ c6).setCell ⟨g, 7, none⟩ c7).setCell ⟨g, 8, none⟩ c8).setCell ⟨g, 9, none⟩ c9).setCell ⟨g, 10, none⟩ c10).setCell ⟨g, 11, none⟩ c11).setCell ⟨g, 12, none⟩ c12).setCell ⟨g, 13, none⟩ c13).heap[g]? = some (.cells #[c0, c1, c2, c3, c4, c5, c6, c7, c8, c9, c10, c11, c12, c13] t fz) := by
  have h0 : (w.setCell ⟨g, 0, none⟩ c0).heap[g]? = some (.cells #[c0, d1, d2, d3, d4, d5, d6, d7, d8, d9, d10, d11, d12, d13] t fz) := heap_set_at h rfl
  have h1 : ((w.setCell ⟨g, 0, none⟩ c0).setCell ⟨g, 1, none⟩ c1).heap[g]? = some (.cells #[c0, c1, d2, d3, d4, d5, d6, d7, d8, d9, d10, d11, d12, d13] t fz) := heap_set_at h0 rfl
  have h2 : (((w.setCell ⟨g, 0, none⟩ c0).setCell ⟨g, 1, none⟩ c1).setCell ⟨g, 2, none⟩ c2).heap[g]? = some (.cells #[c0, c1, c2, d3, d4, d5, d6, d7, d8, d9, d10, d11, d12, d13] t fz) := heap_set_at h1 rfl
  have h3 : ((((w.setCell ⟨g, 0, none⟩ c0).setCell ⟨g, 1, none⟩ c1).setCell ⟨g, 2, none⟩ c2).setCell ⟨g, 3, none⟩ c3).heap[g]? = some (.cells #[c0, c1, c2, c3, d4, d5, d6, d7, d8, d9, d10, d11, d12, d13] t fz) := heap_set_at h2 rfl
  have h4 : (((((w.setCell ⟨g, 0, none⟩ c0).setCell ⟨g, 1, none⟩ c1).setCell ⟨g, 2, none⟩ c2).setCell ⟨g, 3, none⟩ c3).setCell ⟨g, 4, none⟩ c4).heap[g]? = some (.cells #[c0, c1, c2, c3, c4, d5, d6, d7, d8, d9, d10, d11, d12, d13] t fz) := heap_set_at h3 rfl
  have h5 : ((((((w.setCell ⟨g, 0, none⟩ c0).setCell ⟨g, 1, none⟩ c1).setCell ⟨g, 2, none⟩ c2).setCell ⟨g, 3, none⟩ c3).setCell ⟨g, 4, none⟩ c4).setCell ⟨g, 5, none⟩ c5).heap[g]? = some (.cells #[c0, c1, c2, c3, c4, c5, d6, d7, d8, d9, d10, d11, d12, d13] t fz) := heap_set_at h4 rfl
  have h6 : (((((((w.setCell ⟨g, 0, none⟩ c0).setCell ⟨g, 1, none⟩ c1).setCell ⟨g, 2, none⟩ c2).setCell ⟨g, 3, none⟩ c3).setCell ⟨g, 4, none⟩ c4).setCell ⟨g, 5, none⟩ c5).setCell ⟨g, 6, none⟩ c6).heap[g]? = some (.cells #[c0, c1, c2, c3, c4, c5, c6, d7, d8, d9, d10, d11, d12, d13] t fz) := heap_set_at h5 rfl
  have h7 : ((((((((w.setCell ⟨g, 0, none⟩ c0).setCell ⟨g, 1, none⟩ c1).setCell ⟨g, 2, none⟩ c2).setCell ⟨g, 3, none⟩ c3).setCell ⟨g, 4, none⟩ c4).setCell ⟨g, 5, none⟩ c5).setCell ⟨g, 6, none⟩ c6).setCell ⟨g, 7, none⟩ c7).heap[g]? = some (.cells #[c0, c1, c2, c3, c4, c5, c6, c7, d8, d9, d10, d11, d12, d13] t fz) := heap_set_at h6 rfl
  have h8 : (((((((((w.setCell ⟨g, 0, none⟩ c0).setCell ⟨g, 1, none⟩ c1).setCell ⟨g, 2, none⟩ c2).setCell ⟨g, 3, none⟩ c3).setCell ⟨g, 4, none⟩ c4).setCell ⟨g, 5, none⟩ c5).setCell ⟨g, 6, none⟩ c6).setCell ⟨g, 7, none⟩ c7).setCell ⟨g, 8, none⟩ c8).heap[g]? = some (.cells #[c0, c1, c2, c3, c4, c5, c6, c7, c8, d9, d10, d11, d12, d13] t fz) := heap_set_at h7 rfl
  have h9 : ((((((((((w.setCell ⟨g, 0, none⟩ c0).setCell ⟨g, 1, none⟩ c1).setCell ⟨g, 2, none⟩ c2).setCell ⟨g, 3, none⟩ c3).setCell ⟨g, 4, none⟩ c4).setCell ⟨g, 5, none⟩ c5).setCell ⟨g, 6, none⟩ c6).setCell ⟨g, 7, none⟩ c7).setCell ⟨g, 8, none⟩ c8).setCell ⟨g, 9, none⟩ c9).heap[g]? = some (.cells #[c0, c1, c2, c3, c4, c5, c6, c7, c8, c9, d10, d11, d12, d13] t fz) := heap_set_at h8 rfl
  have h10 : (((((((((((w.setCell ⟨g, 0, none⟩ c0).setCell ⟨g, 1, none⟩ c1).setCell ⟨g, 2, none⟩ c2).setCell ⟨g, 3, none⟩ c3).setCell ⟨g, 4, none⟩ c4).setCell ⟨g, 5, none⟩ c5).setCell ⟨g, 6, none⟩ c6).setCell ⟨g, 7, none⟩ c7).setCell ⟨g, 8, none⟩ c8).setCell ⟨g, 9, none⟩ c9).setCell ⟨g, 10, none⟩ c10).heap[g]? = some (.cells #[c0, c1, c2, c3, c4, c5, c6, c7, c8, c9, c10, d11, d12, d13] t fz) := heap_set_at h9 rfl
  have h11 : ((((((((((((w.setCell ⟨g, 0, none⟩ c0).setCell ⟨g, 1, none⟩ c1).setCell ⟨g, 2, none⟩ c2).setCell ⟨g, 3, none⟩ c3).setCell ⟨g, 4, none⟩ c4).setCell ⟨g, 5, none⟩ c5).setCell ⟨g, 6, none⟩ c6).setCell ⟨g, 7, none⟩ c7).setCell ⟨g, 8, none⟩ c8).setCell ⟨g, 9, none⟩ c9).setCell ⟨g, 10, none⟩ c10).setCell ⟨g, 11, none⟩ c11).heap[g]? = some (.cells #[c0, c1, c2, c3, c4, c5, c6, c7, c8, c9, c10, c11, d12, d13] t fz) := heap_set_at h10 rfl
  have h12 : (((((((((((((w.setCell ⟨g, 0, none⟩ c0).setCell ⟨g, 1, none⟩ c1).setCell ⟨g, 2, none⟩ c2).setCell ⟨g, 3, none⟩ c3).setCell ⟨g, 4, none⟩ c4).setCell ⟨g, 5, none⟩ c5).setCell ⟨g, 6, none⟩ c6).setCell ⟨g, 7, none⟩ c7).setCell ⟨g, 8, none⟩ c8).setCell ⟨g, 9, none⟩ c9).setCell ⟨g, 10, none⟩ c10).setCell ⟨g, 11, none⟩ c11).setCell ⟨g, 12, none⟩ c12).heap[g]? = some (.cells #[c0, c1, c2, c3, c4, c5, c6, c7, c8, c9, c10, c11, c12, d13] t fz) := heap_set_at h11 rfl
  have h13 : ((((((((((((((w.setCell ⟨g, 0, none⟩ c0).setCell ⟨g, 1, none⟩ c1).setCell ⟨g, 2, none⟩ c2).setCell ⟨g, 3, none⟩ c3).setCell ⟨g, 4, none⟩ c4).setCell ⟨g, 5, none⟩ c5).setCell ⟨g, 6, none⟩ c6).setCell ⟨g, 7, none⟩ c7).setCell ⟨g, 8, none⟩ c8).setCell ⟨g, 9, none⟩ c9).setCell ⟨g, 10, none⟩ c10).setCell ⟨g, 11, none⟩ c11).setCell ⟨g, 12, none⟩ c12).setCell ⟨g, 13, none⟩ c13).heap[g]? = some (.cells #[c0, c1, c2, c3, c4, c5, c6, c7, c8, c9, c10, c11, c12, c13] t fz) := heap_set_at h12 rfl
  exact h13
/-- Two results, the first an entry that lies in memory. -/
theorem ret_e2 {fn : Func} {p u : Tmp} (h : fn.results = #[.cell p 59, .tmp u]) (tmps : Array Value) (w : World) (g : Nat) (x : En)
    (hp : tmps.getD p undef = .pointer (some ⟨g, 0, none⟩)) (hg : w.heap[g]? = some (.cells (cellsE x).toArray 59 (0, 0))) :
    (results fn tmps).run Tryz.prog w = .ok (.tuple #[valE x, tmps.getD u undef]) w := by
  have hp' : tmps[p]?.getD undef = .pointer (some ⟨g, 0, none⟩) := by simpa using hp
  simp [results, h, hp', asAddr, run_loadVar_row w g 59 59 (cellsE x).toArray (0, 0) _ hg Tryz.underlying59 rfl (by kernel_rfl), cellsE, valE]
def entD (d : List Im) (i s : Int) : En × Bool :=
  match findD d i s with
  | none => (.zero, false)
  | some k => match d[k]? with
    | none => (.zero, false)
    | some x => (x.1, true)

set_option maxRecDepth 100000 in
set_option maxHeartbeats 600000 in
theorem odEnt_any (b : Nat) (l : List (Nat × Im)) (i s : Int) (w : World) (h : DAt w b l) (hd : DOk (im l)) (hs : 0 ≤ s ∧ s ≤ 255) :
    Calls Tryz.prog 26 #[ptr b, .int .u16 i, .int .u8 s] w fun e w' => e = .returned (.tuple #[valE (entD (im l) i s).1, .bool (entD (im l) i s).2]) ∧ Frm (fun _ => False) w w' := by
  have HFD := Lib.hid (fun W hF => odFind_any b l i s W (h.grow hF) hd hs)
  have HD := Lib.hid h
  clear h hd hs
  unfold ptr at HFD
  unfold ptr
  go_enter Tryz.func26, Tryz.ntmps26
  go_wp2_with fail
  refine (HFD.out _ (by (repeat' (first | (with_reducible exact Frm.refl _ _) | (with_reducible assumption) | (with_reducible refine Frm.alloc ?_ _) | (with_reducible refine Frm.drew ?_) | (with_reducible refine Frm.drewN ?_ _) | (with_reducible refine Frm.set1 ?_ _) | (with_reducible refine Frm.setCell ?_ ?_ _) | (exact fun h => absurd h (Nat.lt_irrefl _)) | (intro hlt; simp [World.size_alloc, One] at hlt ⊢; omega))))).mono ?_
  rintro e w1 ⟨hF1, hf⟩
  have k0 := hF1.heap (heap_new w _) (fun h => h)
  have z0 : w1.cell? ⟨w.heap.size, 0, none⟩ = some (.int .u16 0) := cell_at k0
  have z1 : w1.cell? ⟨w.heap.size, 1, none⟩ = some (.int .u8 0) := cell_at k0
  have z2 : w1.cell? ⟨w.heap.size, 2, none⟩ = some (.int .i64 0) := cell_at k0
  have z3 : w1.cell? ⟨w.heap.size, 3, none⟩ = some (.bool false) := cell_at k0
  have z4 : w1.cell? ⟨w.heap.size, 4, none⟩ = some (.bool false) := cell_at k0
  have z5 : w1.cell? ⟨w.heap.size, 5, none⟩ = some (.int .i64 0) := cell_at k0
  have z6 : w1.cell? ⟨w.heap.size, 6, none⟩ = some (.int .u64 0) := cell_at k0
  have z7 : w1.cell? ⟨w.heap.size, 7, none⟩ = some (.string ⟨#[]⟩) := cell_at k0
  have z8 : w1.cell? ⟨w.heap.size, 8, none⟩ = some (.int .i64 0) := cell_at k0
  have z9 : w1.cell? ⟨w.heap.size, 9, none⟩ = some (.int .u64 0) := cell_at k0
  have z10 : w1.cell? ⟨w.heap.size, 10, none⟩ = some (.string ⟨#[]⟩) := cell_at k0
  have z11 : w1.cell? ⟨w.heap.size, 11, none⟩ = some (.int .i64 0) := cell_at k0
  have z12 : w1.cell? ⟨w.heap.size, 12, none⟩ = some (.int .u64 0) := cell_at k0
  have z13 : w1.cell? ⟨w.heap.size, 13, none⟩ = some (.string ⟨#[]⟩) := cell_at k0
  have f0 := frees k0
  have l0 := lt_of_block k0
  have K0 := Lib.hid k0
  have HF : Hid (Frm (fun _ => False) w w1) := Frm.trans' (b := _) (by (repeat' (first | (with_reducible exact Frm.refl _ _) | (with_reducible assumption) | (with_reducible refine Frm.alloc ?_ _) | (with_reducible refine Frm.drew ?_) | (with_reducible refine Frm.drewN ?_ _) | (with_reducible refine Frm.set1 ?_ _) | (with_reducible refine Frm.setCell ?_ ?_ _) | (exact fun h => absurd h (Nat.lt_irrefl _)) | (intro hlt; simp [World.size_alloc, One] at hlt ⊢; omega)))) hF1
  clear hF1 k0 HFD
  rcases hf with ⟨k, hk, hfd, -, -, rfl⟩ | ⟨hfd, hne, rfl⟩
  · have E : Hid (entD (im l) i s = (l[k].2.1, true)) := by
      unfold Hid entD
      rw [hfd]
      simp [hk]
    have hi := HF.out.heap (HD.out.el _ (List.getElem_mem hk)) (fun h => h)
    generalize l[k].1 = p at *
    generalize l[k].2 = x at *
    clear hfd
    have i0 : w1.cell? ⟨p, 0, none⟩ = some (.int .u16 x.1.idx) := cell_at hi
    have i1 : w1.cell? ⟨p, 1, none⟩ = some (.int .u8 x.1.sub) := cell_at hi
    have i2 : w1.cell? ⟨p, 2, none⟩ = some (.int .i64 x.1.acc) := cell_at hi
    have i3 : w1.cell? ⟨p, 3, none⟩ = some (.bool x.1.mp) := cell_at hi
    have i4 : w1.cell? ⟨p, 4, none⟩ = some (.bool x.1.lim) := cell_at hi
    have i5 : w1.cell? ⟨p, 5, none⟩ = some (.int .i64 x.1.mn.ty) := cell_at hi
    have i6 : w1.cell? ⟨p, 6, none⟩ = some (.int .u64 x.1.mn.n) := cell_at hi
    have i7 : w1.cell? ⟨p, 7, none⟩ = some (.string (strB2 x.1.mn.b)) := cell_at hi
    have i8 : w1.cell? ⟨p, 8, none⟩ = some (.int .i64 x.1.mx.ty) := cell_at hi
    have i9 : w1.cell? ⟨p, 9, none⟩ = some (.int .u64 x.1.mx.n) := cell_at hi
    have i10 : w1.cell? ⟨p, 10, none⟩ = some (.string (strB2 x.1.mx.b)) := cell_at hi
    have i11 : w1.cell? ⟨p, 11, none⟩ = some (.int .i64 x.1.df.ty) := cell_at hi
    have i12 : w1.cell? ⟨p, 12, none⟩ = some (.int .u64 x.1.df.n) := cell_at hi
    have i13 : w1.cell? ⟨p, 13, none⟩ = some (.string (strB2 x.1.df.b)) := cell_at hi
    clear hi
    go_wp2_with fail
    refine bodyPost_ret (ret_e2 Tryz.results26 _ _ _ x.1 rfl (store14a K0.out)) rfl ⟨?_, ?_⟩
    · rw [E.out]; rfl
    · have hf : Frm (fun _ => False) w w1 := HF.out
      (repeat' (first | (with_reducible exact Frm.refl _ _) | (with_reducible assumption) | (with_reducible refine Frm.alloc ?_ _) | (with_reducible refine Frm.drew ?_) | (with_reducible refine Frm.drewN ?_ _) | (with_reducible refine Frm.set1 ?_ _) | (with_reducible refine Frm.setCell ?_ ?_ _) | (exact fun h => absurd h (Nat.lt_irrefl _)) | (intro hlt; simp [World.size_alloc, One] at hlt ⊢; omega)))
  · have E : Hid (entD (im l) i s = (.zero, false)) := by
      unfold Hid entD
      rw [hfd]
    have hb : (findC (im l) i s != 0) = true := by simpa using hne
    generalize findC (im l) i s = c at *
    clear hfd hne
    go_wp2_with fail
    refine bodyPost_ret (ret_e2 Tryz.results26 _ _ _ .zero rfl (store14a K0.out)) rfl ⟨?_, ?_⟩
    · rw [E.out]; rfl
    · have hf : Frm (fun _ => False) w w1 := HF.out
      (repeat' (first | (with_reducible exact Frm.refl _ _) | (with_reducible assumption) | (with_reducible refine Frm.alloc ?_ _) | (with_reducible refine Frm.drew ?_) | (with_reducible refine Frm.drewN ?_ _) | (with_reducible refine Frm.set1 ?_ _) | (with_reducible refine Frm.setCell ?_ ?_ _) | (exact fun h => absurd h (Nat.lt_irrefl _)) | (intro hlt; simp [World.size_alloc, One] at hlt ⊢; omega)))
end Go.Proofs.YtemjdmgfilbfaaaGreat
namespace Go.Proofs.YtemjdmgfilbfaaaGreat
open Go.RowKit
set_option linter.unusedVariables false

/-- The document's dictionary: two rows of its own. -/
structure DR (w : World) (p B : Nat) (d : List Im) : Prop where
  ex : ∃ sL sV, w.heap[p]? = some (.cells #[sL, sV] 75 (0, 0)) ∧ w.ownsRow B 59 14 sL d.length (cellsOf cellsE (d.map (·.1))) ∧ w.ownsRow B 57 3 sV d.length (cellsOf cellsV (d.map (·.2)))
theorem DR.grow {w w' : World} {p B : Nat} {d : List Im} (h : DR w p B d) (hF : Frm (fun _ => False) w w') : DR w' p B d := by
  obtain ⟨sL, sV, h1, h2, h3⟩ := h.ex
  exact ⟨sL, sV, hF.heap h1 (fun h => h), hF.row h2 (fun _ _ h => h), hF.row h3 (fun _ _ h => h)⟩

theorem findC_take (d : List Im) (i s : Int) (h : ∀ (t : Nat) (ht : t < d.length), isAt i s d[t] = false) : findD d i s = none ∧ findC d i s = if (d.any fun x => x.1.idx == i) = true then codeNoSub else codeNoObject := by
  have hn : findD d i s = none := by
    unfold findD
    rw [List.findIdx?_eq_none_iff]
    intro x hx
    obtain ⟨t, ht, rfl⟩ := List.getElem_of_mem hx
    exact h t ht
  refine ⟨hn, ?_⟩
  unfold findC
  rw [hn]
  rfl
theorem findC_hit (d : List Im) (i s : Int) (k : Nat) (hk : k < d.length) (h : ∀ (t : Nat) (ht : t < d.length), t < k → isAt i s d[t] = false) (hy : isAt i s d[k] = true) : findD d i s = some k ∧ findC d i s = 0 := by
  have hf : findD d i s = some k := by
    unfold findD
    rw [List.findIdx?_eq_some_iff_getElem]
    exact ⟨hk, hy, fun j hj => by rw [h j (by omega) hj]; simp⟩
  refine ⟨hf, ?_⟩
  unfold findC
  rw [hf]
  rfl

set_option maxRecDepth 100000 in
set_option maxHeartbeats 1000000 in
theorem rDFind_any (p B : Nat) (d : List Im) (i s : Int) (w : World) (h : DR w p B d) (hl : d.length ≤ 1024) :
    Calls Tryz.prog 32 #[ptr p, .int .u16 i, .int .u8 s] w fun e w' => e = .returned (.tuple #[.int .i64 (((findD d i s).getD 0 : Nat) : Int), .int .u32 (findC d i s)]) ∧ Frm (fun _ => False) w w' := by
  obtain ⟨sL, sV, h1, h2, h3⟩ := h.ex
  obtain ⟨A, cap, rfl, q1, q2, q3⟩ := row_open h2
  have c0 : w.cell? ⟨p, 0, none⟩ = some (.slice A d.length cap) := cell_at h1
  have hcell : ∀ (k : Nat) (hk : k < d.length), ∃ g, A = some ⟨g, 0, none⟩ ∧ g < w.heap.size ∧ w.cell? ⟨g, k * 14, none⟩ = some (.int .u16 d[k].1.idx) ∧ w.cell? ⟨g, k * 14 + 1, none⟩ = some (.int .u8 d[k].1.sub) := fun k hk => by
    obtain ⟨g, e, _, ⟨cur, hc⟩, _, hcc⟩ := q3 (by omega)
    refine ⟨g, e, lt_of_block hc, ?_, ?_⟩
    · rw [hcc _ (by omega)]
      have := cellsOf_get cellsE_len (d.map (·.1)) k 0 (by simpa using hk) (by decide)
      simpa [cellsE] using this
    · rw [hcc _ (by omega)]
      have := cellsOf_get cellsE_len (d.map (·.1)) k 1 (by simpa using hk) (by decide)
      simpa [cellsE] using this
  have HCE := Lib.hid hcell
  clear h h1 h2 h3 q1 q2 q3 hcell
  unfold ptr
  go_enter Tryz.func32, Tryz.ntmps32
  go_wp2_with fail
  go_loopw [8, 9] (fun c v wr => ∃ k : Nat, k ≤ d.length ∧ v = .int .i64 k ∧ c = .int .u32 (if ((d.take k).any fun x => x.1.idx == i) = true then codeNoSub else codeNoObject) ∧ (∀ (t : Nat) (ht : t < d.length), t < k → isAt i s d[t] = false) ∧ wr = w) (fun _ v _ => d.length - (intOf v).toNat)
  case atStart => exact ⟨0, by omega, rfl, by simp [codeNoObject], fun t ht h => by omega, rfl⟩
  case round =>
    obtain ⟨k, hk, rfl, rfl, hno, rfl⟩ := hrel
    have HNO := Lib.hid hno
    clear hno
    generalize hcc : (if ((d.take k).any fun x => x.1.idx == i) = true then codeNoSub else codeNoObject) = cc
    have HCN := Lib.hid hcc
    clear hcc
    by_cases hlt : k < d.length
    · obtain ⟨g, rfl, hg, a0, a1⟩ := HCE.out k hlt
      have HT : Hid (((d.take (k + 1)).any fun x => x.1.idx == i) = (((d.take k).any fun x => x.1.idx == i) || (d[k].1.idx == i))) := by
        unfold Hid
        rw [List.take_succ_eq_append_getElem hlt, List.any_append]
        simp
      have HH : Hid (isAt i s d[k] = true → findD d i s = some k ∧ findC d i s = 0) := findC_hit d i s k hlt HNO.out
      have HN2 : Hid (isAt i s d[k] = false → ∀ (t : Nat) (ht : t < d.length), t < k + 1 → isAt i s d[t] = false) := fun h t ht h2 => by
        rcases Nat.lt_or_eq_of_le (Nat.le_of_lt_succ h2) with h3 | rfl
        · exact HNO.out t ht h3
        · exact h
      have HIS : Hid (isAt i s d[k] = ((d[k].1.idx == i) && (d[k].1.sub == s))) := rfl
      generalize isAt i s d[k] = q at *
      generalize ((d.take k).any fun x => x.1.idx == i) = b0 at *
      generalize d[k].1.idx = xi at *
      generalize d[k].1.sub = xs at *
      cases hi : xi == i
      · have HQ : Hid (q = false) := by unfold Hid; rw [HIS.out, hi]; rfl
        go_wp2_with fail
        go_roundw
        case rel => exact ⟨k + 1, by omega, by go_num, by rw [HT.out, hi, Bool.or_false, HCN.out], HN2.out HQ.out, trivial⟩
        case measure => simp [intOf]; omega
      · cases hs : xs == s
        · have HQ : Hid (q = false) := by unfold Hid; rw [HIS.out, hi, hs]; rfl
          go_wp2_with fail
          go_roundw
          case rel => exact ⟨k + 1, by omega, by go_num, by rw [HT.out, hi, Bool.or_true]; rfl, HN2.out HQ.out, trivial⟩
          case measure => simp [intOf]; omega
        · have HQ : Hid (q = true) := by unfold Hid; rw [HIS.out, hi, hs]; rfl
          go_wp2_with fail
          go_ret2
          obtain ⟨f1, f2⟩ := HH.out HQ.out
          exact ⟨by rw [f1, f2]; rfl, Frm.refl _ _⟩
    · have hkn : k = d.length := by omega
      subst hkn
      obtain ⟨f1, f2⟩ := findC_take d i s (fun t ht => HNO.out t ht ht)
      have HF1 := Lib.hid f1
      have HF2 := Lib.hid f2
      clear f1 f2
      rw [List.take_length] at HCN
      rw [HCN.out] at HF2
      go_wp2_with fail
      go_ret2
      exact ⟨by rw [HF1.out, HF2.out]; rfl, Frm.refl _ _⟩
end Go.Proofs.YtemjdmgfilbfaaaGreat
namespace Go.Proofs.YtemjdmgfilbfaaaGreat
open Go.RowKit
set_option linter.unusedVariables false

theorem cellsV_len (v : Va) : (cellsV v).length = 3 := rfl
theorem DR.at_ {w : World} {p B : Nat} {d : List Im} (h : DR w p B d) {k : Nat} (hk : k < d.length) : ∃ gl gv cl cv, w.heap[p]? = some (.cells #[.slice (some ⟨gl, 0, none⟩) d.length cl, .slice (some ⟨gv, 0, none⟩) d.length cv] 75 (0, 0)) ∧ gl < w.heap.size ∧ gv < w.heap.size ∧
    (∀ j, j < 14 → w.cell? ⟨gl, k * 14 + j, none⟩ = (cellsE d[k].1)[j]?) ∧ ∀ j, j < 3 → w.cell? ⟨gv, k * 3 + j, none⟩ = (cellsV d[k].2)[j]? := by
  obtain ⟨sL, sV, h1, h2, h3⟩ := h.ex
  obtain ⟨A, cap, rfl, _, _, q3⟩ := row_open h2
  obtain ⟨A', cap', rfl, _, _, q3'⟩ := row_open h3
  obtain ⟨g, rfl, _, ⟨cur, hc⟩, _, hcc⟩ := q3 (by omega)
  obtain ⟨g', rfl, _, ⟨cur', hc'⟩, _, hcc'⟩ := q3' (by omega)
  refine ⟨g, g', cap, cap', h1, lt_of_block hc, lt_of_block hc', fun j hj => ?_, fun j hj => ?_⟩
  · rw [hcc _ (by omega)]
    have := cellsOf_get cellsE_len (d.map (·.1)) k j (by simpa using hk) hj
    simpa using this
  · rw [hcc' _ (by omega)]
    have := cellsOf_get cellsV_len (d.map (·.2)) k j (by simpa using hk) hj
    simpa using this
theorem find_lt {d : List Im} {i s : Int} {k : Nat} (h : findD d i s = some k) : k < d.length := by
  unfold findD at h
  exact (List.findIdx?_eq_some_iff_getElem.1 h).1

set_option maxRecDepth 100000 in
set_option maxHeartbeats 1000000 in
theorem rDRead_any (p B : Nat) (d : List Im) (i s : Int) (w : World) (h : DR w p B d) (hl : d.length ≤ 1024) (hok : ∀ x ∈ d, x.2.ok) :
    Calls Tryz.prog 35 #[ptr p, .int .u16 i, .int .u8 s] w (ReadP d i s w) := by
  have HFD := Lib.hid (rDFind_any p B d i s w h hl)
  have HD := Lib.hid h
  have HOK := Lib.hid hok
  clear h hok
  unfold ptr at HFD
  unfold ptr ReadP
  cases hf : findD d i s with
  | none =>
    have hn : findC d i s ≠ 0 := by
      unfold findC
      rw [hf]
      simp only [Option.isSome_none, Bool.false_eq_true, if_false]
      split <;> decide
    have E : Hid (readD d i s = ([], findC d i s)) := by unfold Hid readD; rw [hf]
    rw [hf] at HFD
    have hb : (findC d i s != 0) = true := by simpa using hn
    generalize findC d i s = c at *
    clear hf hn
    go_enter Tryz.func35, Tryz.ntmps35
    go_wp2_with (go_at_call 32; refine HFD.out.mono ?_; rintro e w1 ⟨rfl, hF1⟩)
    go_ret2
    exact ⟨_, by rw [E.out]; rfl, by rw [E.out]; exact Fresh8.nil _ _, hF1⟩
  | some k =>
    have hk := find_lt hf
    have hc0 : findC d i s = 0 := by unfold findC; rw [hf]; rfl
    have E : Hid (readD d i s = if d[k].1.acc = 1 then ([], codeNoRead) else ((encV d[k].2).1, 0)) := by unfold Hid readD; rw [hf]; simp [hk]
    rw [hf, hc0] at HFD
    simp only [Option.getD_some] at HFD
    have HEN := Lib.hid (fun W => rEnc_any d[k].2 W (HOK.out _ (List.getElem_mem hk)))
    have hat := HD.out.at_ hk
    clear hf hc0
    generalize d[k] = x at *
    obtain ⟨gl, gv, cl, cv, h1, l1, l2, cL, cV⟩ := hat
    have hc : ∀ W, Frm (fun _ => False) w W → (W.cell? ⟨p, 0, none⟩ = some (.slice (some ⟨gl, 0, none⟩) d.length cl) ∧ W.cell? ⟨p, 1, none⟩ = some (.slice (some ⟨gv, 0, none⟩) d.length cv) ∧ W.cell? ⟨gl, k * 14 + 2, none⟩ = some (.int .i64 x.1.acc)) ∧ W.cell? ⟨gv, k * 3, none⟩ = some (.int .i64 x.2.ty) ∧ W.cell? ⟨gv, k * 3 + 1, none⟩ = some (.int .u64 x.2.n) ∧ W.cell? ⟨gv, k * 3 + 2, none⟩ = some (.string (strB2 x.2.b)) := fun W hF => by
      have k1 := hF.heap h1 (fun h => h)
      exact ⟨⟨cell_at k1, cell_at k1, hF.cell (cL 2 (by decide)) (fun h => h)⟩, hF.cell (cV 0 (by decide)) (fun h => h), hF.cell (cV 1 (by decide)) (fun h => h), hF.cell (cV 2 (by decide)) (fun h => h)⟩
    have HCC := Lib.hid hc
    unfold EncP valV at HEN
    generalize (encV x.2).2 = ec at *
    clear hc h1 cL cV
    by_cases ha : x.1.acc = 1
    · have E2 : Hid (readD d i s = ([], codeNoRead)) := by unfold Hid; rw [E.out, if_pos ha]
      have hb : (x.1.acc == 1) = true := by simpa using ha
      clear E ha
      go_enter Tryz.func35, Tryz.ntmps35
      go_wp2_with (go_at_call 32; refine HFD.out.mono ?_; rintro e w1 ⟨rfl, hF1⟩; obtain ⟨⟨u0, u1, u2⟩, u3, u4, u5⟩ := HCC.out w1 hF1; have m1 := Nat.lt_of_lt_of_le l1 hF1.size; have m2 := Nat.lt_of_lt_of_le l2 hF1.size)
      go_ret2
      exact ⟨_, by rw [E2.out]; rfl, by rw [E2.out]; exact Fresh8.nil _ _, hF1⟩
    · have E2 : Hid (readD d i s = ((encV x.2).1, 0)) := by unfold Hid; rw [E.out, if_neg ha]
      have hb : (x.1.acc == 1) = false := by simpa using ha
      clear E ha
      go_enter Tryz.func35, Tryz.ntmps35
      go_wp2_with (first | (go_at_call 32; refine HFD.out.mono ?_; rintro e w1 ⟨rfl, hF1⟩; obtain ⟨⟨u0, u1, u2⟩, u3, u4, u5⟩ := HCC.out w1 hF1; have m1 := Nat.lt_of_lt_of_le l1 hF1.size; have m2 := Nat.lt_of_lt_of_le l2 hF1.size; have HF1 := Lib.hid hF1) | (go_at_call 64; refine (HEN.out _).mono ?_; rintro e w2 ⟨sv, rfl, hfr, hF2⟩; have HFR := Lib.hid hfr; clear hfr))
      go_ret2
      exact ⟨_, by rw [E2.out]; rfl, by rw [E2.out]; exact HFR.out.base HF1.out.size, HF1.out.trans' hF2⟩
end Go.Proofs.YtemjdmgfilbfaaaGreat
namespace Go.Proofs.YtemjdmgfilbfaaaGreat
set_option linter.unusedVariables false

theorem insE_at (x : En) (l : List En) (k : Nat) (hk : k ≤ l.length) (h1 : ∀ (j : Nat) (hj : j < l.length), j < k → plE l[j] < plE x) (h2 : ∀ hk : k < l.length, ¬ plE l[k] < plE x) : insE x l = l.take k ++ x :: l.drop k := by
  induction l generalizing k with
  | nil => simp at hk; subst hk; rfl
  | cons y r ih =>
    cases k with
    | zero =>
      have := h2 (by simp)
      simp only [List.getElem_cons_zero] at this
      unfold insE
      rw [if_neg this]
      rfl
    | succ k =>
      have := h1 0 (by simp) (by omega)
      simp only [List.getElem_cons_zero] at this
      unfold insE
      rw [if_pos this, ih k (by simpa using hk) (fun j hj hjk => ?_) (fun hk => ?_)]
      · rfl
      · exact h1 (j + 1) (by simpa using hj) (by omega)
      · have := h2 (by simpa using hk)
        simpa using this
/-- The entries that stand after k of them are handed in. -/
def putE (xs : List En) (k : Nat) : List En := ((xs.take k).map plainE).foldl (fun d x => insE x d) []
theorem putE_zero (xs : List En) : putE xs 0 = [] := rfl
theorem putE_succ (xs : List En) (k : Nat) (hk : k < xs.length) : putE xs (k + 1) = insE (plainE xs[k]) (putE xs k) := by
  unfold putE
  rw [List.take_succ_eq_append_getElem hk, List.map_append, List.foldl_append]
  rfl
theorem putE_all (xs : List En) : (putE xs xs.length).map (fun x => (x, x.df)) = newD xs := by
  unfold putE newD sortE
  rw [List.take_length]
theorem putE_len (xs : List En) (k : Nat) (hk : k ≤ xs.length) : (putE xs k).length = k := by
  unfold putE
  have := (foldE ((xs.take k).map plainE) []).length_eq
  rw [this]
  simp
  omega
theorem putE_mem (xs : List En) (k : Nat) (x : En) (h : x ∈ putE xs k) : ∃ y ∈ xs, x = plainE y := by
  unfold putE at h
  have h2 := (foldE ((xs.take k).map plainE) []).mem_iff.1 h
  rw [List.nil_append] at h2
  obtain ⟨y, hy, e⟩ := List.mem_map.1 h2
  exact ⟨y, List.mem_of_mem_take hy, e.symm⟩
end Go.Proofs.YtemjdmgfilbfaaaGreat
namespace Go.Proofs.YtemjdmgfilbfaaaGreat
open Go.RowKit
set_option linter.unusedVariables false
set_option linter.unusedSimpArgs false

theorem el_Value : El Tryz.prog 73 57 3 32 := El.of Tryz.underlying73 (z := .agg #[.int .i64 0, .int .u64 0, .string ⟨#[]⟩]) (by kernel_rfl) rfl (by decide)

set_option maxRecDepth 100000 in
set_option maxHeartbeats 1000000 in
theorem rplace_any (x : En) (w : World) (hx : x.ok) : Calls Tryz.prog 61 #[valE x] w fun e w' => e = .returned (.int .i64 (plE x)) ∧ Frm (fun _ => False) w w' := by
  obtain ⟨i0, i1, s0, s1, _⟩ := hx
  have E : Hid (x.idx * 256 + x.sub = plE x) := rfl
  unfold valE
  go_enter Tryz.func61, Tryz.ntmps61
  go_wp2_with fail
  go_ret
  exact ⟨by rw [← E.out]; go_num, by (repeat' (first | (with_reducible exact Frm.refl _ _) | (with_reducible assumption) | (with_reducible refine Frm.alloc ?_ _) | (with_reducible refine Frm.drew ?_) | (with_reducible refine Frm.drewN ?_ _) | (with_reducible refine Frm.set1 ?_ _) | (with_reducible refine Frm.setCell ?_ ?_ _) | (exact fun h => absurd h (Nat.lt_irrefl _)) | (intro hlt; simp [World.size_alloc, One] at hlt ⊢; omega)))⟩

set_option maxRecDepth 100000 in
set_option maxHeartbeats 4000000 in
theorem rDReset_any (p B : Nat) (es : List En) (sL sV : Value) (w : World) (h1 : w.heap[p]? = some (.cells #[sL, sV] 75 (0, 0))) (h2 : w.ownsRow B 59 14 sL es.length (cellsOf cellsE es)) (hl : es.length ≤ 1024) (hB : B ≤ w.heap.size) :
    Calls Tryz.prog 62 #[ptr p] w fun e w' => e = .returned (.tuple #[]) ∧ DR w' p B (es.map fun x => (x, x.df)) ∧ Frm (One p) w w' := by
  obtain ⟨A, cap, rfl, q1, q2, q3⟩ := row_open h2
  have HROW := Lib.hid h2
  have HO := Lib.hid h1
  have hcell : ∀ (k : Nat) (hk : k < es.length), ∃ g, A = some ⟨g, 0, none⟩ ∧ g ≠ p ∧ g < w.heap.size ∧ w.cell? ⟨g, k * 14 + 11, none⟩ = some (.int .i64 es[k].df.ty) ∧ w.cell? ⟨g, k * 14 + 12, none⟩ = some (.int .u64 es[k].df.n) ∧ w.cell? ⟨g, k * 14 + 13, none⟩ = some (.string (strB2 es[k].df.b)) := fun k hk => by
    obtain ⟨g, e, _, ⟨cur, hc⟩, _, hcc⟩ := q3 (by omega)
    refine ⟨g, e, block_ne hc h1 (by decide), lt_of_block hc, ?_, ?_, ?_⟩
    · rw [hcc _ (by omega)]
      have := cellsOf_get cellsE_len es k 11 hk (by decide)
      simpa [cellsE] using this
    · rw [hcc _ (by omega)]
      have := cellsOf_get cellsE_len es k 12 hk (by decide)
      simpa [cellsE] using this
    · rw [hcc _ (by omega)]
      have := cellsOf_get cellsE_len es k 13 hk (by decide)
      simpa [cellsE] using this
  have HCE := Lib.hid hcell
  have hfz := frees h1
  have hp0 := lt_of_block h1
  have c1 : w.cell? ⟨p, 1, none⟩ = some sV := cell_at h1
  have HB := Lib.hid hB
  clear h1 h2 q1 q2 q3 hcell hB
  unfold ptr
  go_enter Tryz.func62, Tryz.ntmps62
  go_wp2_with fail
  clear hfz c1
  go_loopw [2] (fun i wr => ∃ (k : Nat) (v : Value), k ≤ es.length ∧ i = .int .i64 k ∧ wr.heap[p]? = some (.cells #[.slice A es.length cap, v] 75 (0, 0)) ∧ wr.ownsRow w.heap.size 57 3 v k (cellsOf cellsV ((es.take k).map (·.df))) ∧ Frm (One p) w wr) (fun i _ => es.length - (intOf i).toNat)
  case atStart => exact ⟨0, _, Nat.zero_le _, rfl, heap_set_at HO.out rfl, World.ownsRow_nil _ _ _ _, (Frm.refl _ _).set1 _⟩
  case round =>
    obtain ⟨k, v, hk, rfl, hO, hr, hF⟩ := hrel
    have ct : wr.cell? ⟨p, 0, none⟩ = some (.slice A es.length cap) := cell_at hO
    by_cases hlt : k < es.length
    · obtain ⟨g, rfl, hgp, hgl, e0, e1, e2⟩ := HCE.out k hlt
      have HTK : Hid (cellsOf cellsV ((es.take (k + 1)).map (·.df)) = cellsOf cellsV ((es.take k).map (·.df)) ++ [.int .i64 es[k].df.ty, .int .u64 es[k].df.n, .string (strB2 es[k].df.b)]) := by
        unfold Hid
        rw [List.take_succ_eq_append_getElem hlt, List.map_append]
        unfold cellsOf
        rw [List.flatMap_append]
        simp [cellsV]
      have e0 := hF.cell e0 hgp
      have e1 := hF.cell e1 hgp
      have e2 := hF.cell e2 hgp
      have hgl2 := Nat.lt_of_lt_of_le hgl hF.size
      have hpl := Nat.lt_of_lt_of_le hp0 hF.size
      have hsz := hF.size
      generalize es[k] = x at *
      obtain ⟨rb, hrb⟩ : ∃ rb, rb = cellsOf cellsV ((es.take k).map (·.df)) := ⟨_, rfl⟩
      rw [← hrb] at hr HTK
      clear hrb
      obtain ⟨Av, cv, rfl, g3, g4, _⟩ := row_open hr
      have ct1 : wr.cell? ⟨p, 1, none⟩ = some (.slice Av k cv) := cell_at hO
      have HNE : Hid (∀ j, (Value.slice Av k cv).ownBlock = some j → j ≠ p ∧ w.heap.size ≤ j) := fun j hj => by
        obtain ⟨hk0, cur, hc⟩ := row_block hr hj
        exact ⟨block_ne hc hO (by decide), hk0⟩
      have HR := Lib.hid hr
      have HOO := Lib.hid hO
      have HF := Lib.hid hF
      have hm1 : k + 1 ≤ maxLen := by unfold maxLen; omega
      have hm2 : (k + 1) * 32 ≤ 140737488355328 := by omega
      clear hr hO hF
      go_upto_region 4 with fail
      go_region_law
        ((refine step_app (by rfl) el_Value _ _ (by rfl) (by rfl) (by rfl) (B := w.heap.size) (xs := rb) (arr := #[.int .i64 x.df.ty, .int .u64 x.df.n, .string (strB2 x.df.b)]) (e2 := 57) (fr := (0, 0)) (Frm.row (S := fun _ => False) (by (repeat' (first | (with_reducible exact Frm.refl _ _) | (with_reducible assumption) | (with_reducible refine Frm.alloc ?_ _) | (with_reducible refine Frm.drew ?_) | (with_reducible refine Frm.drewN ?_ _) | (with_reducible refine Frm.set1 ?_ _) | (with_reducible refine Frm.setCell ?_ ?_ _) | (exact fun h => absurd h (Nat.lt_irrefl _)) | (intro hlt; simp [World.size_alloc, One] at hlt ⊢; omega)))) HR.out (fun _ _ h => h)) (heap_new_at (by simp)) (by rfl) (by simp [Value.oneCell']) (by decide) hm1 hm2 (by simp; omega) ?_; intro g2 cap3 w2 hown2 hfr2 hat2 hlt2; have hO2 : w2.heap[p]? = some (.cells #[.slice (some ⟨g, 0, none⟩) es.length cap, .slice Av k cv] 75 (0, 0)) := (by refine hfr2.heap ?_ (fun h => (HNE.out _ h).1 rfl); (repeat (first | (with_reducible exact HOO.out) | (with_reducible apply heap_alloc_old) | (with_reducible apply heap_drewN') | (with_reducible apply heap_drew')))); have hz2 : w2.frozen? ⟨p, 1, none⟩ = false := free_at hO2; have hc2 : w2.cell? ⟨p, 1, none⟩ = some (.slice Av k cv) := cell_at hO2))
      all_goals
        have HO3 := Lib.hid hO2
        have HO4 := Lib.hid hown2
        have HF2 := Lib.hid hfr2
        clear hO2 hown2 hfr2 hc2 hz2 ct ct1 e0 e1 e2
        go_wp2_with fail
        go_roundw
        case rel =>
          refine ⟨k + 1, _, by omega, by go_num, heap_set_at HO3.out rfl, ?_, ?_⟩
          · rw [HTK.out]
            exact Frm.row (S := One p) ((Frm.refl _ _).set1 _) HO4.out (fun j hj e => by cases hj; exact block_ne (row_block HO4.out rfl).2.choose_spec HO3.out (by decide) e)
          · refine Frm.set1 ?_ _
            refine HF.out.trans (T := fun j => (Value.slice Av k cv).ownBlock = some j) (Frm.trans (T := fun j => (Value.slice Av k cv).ownBlock = some j) (b := _) (S := fun j => (Value.slice Av k cv).ownBlock = some j) ?_ HF2.out (fun i _ h => h)) (fun i hi h => absurd hi (Nat.not_lt.2 (HNE.out _ h).2))
            (repeat' (first | (with_reducible exact Frm.refl _ _) | (with_reducible assumption) | (with_reducible refine Frm.alloc ?_ _) | (with_reducible refine Frm.drew ?_) | (with_reducible refine Frm.drewN ?_ _) | (with_reducible refine Frm.set1 ?_ _) | (with_reducible refine Frm.setCell ?_ ?_ _) | (exact fun h => absurd h (Nat.lt_irrefl _)) | (intro hlt; simp [World.size_alloc, One] at hlt ⊢; omega)))
        case measure => simp [intOf]; omega
    · have hkn : k = es.length := by omega
      subst hkn
      rw [List.take_length] at hr
      have HR := Lib.hid hr
      have HOO := Lib.hid hO
      have HF := Lib.hid hF
      clear hr hO hF
      go_wp2_with fail
      refine bodyPost_end (v := .tuple #[]) (by simp [results, Tryz.results62, go_sem]) rfl ⟨rfl, ⟨_, _, by simpa using HOO.out, ?_, ?_⟩, HF.out⟩
      · have := HF.out.row HROW.out (fun j hj e => by cases e; obtain ⟨_, cur, hc⟩ := row_block HROW.out hj; exact block_ne hc HO.out (by decide) rfl)
        simpa [List.map_map, Function.comp_def] using this
      · have := row_base HR.out HB.out
        simpa [List.map_map, Function.comp_def] using this
end Go.Proofs.YtemjdmgfilbfaaaGreat
