/-
  May, Write.
-/
import Derived.Test.YtemjdmgfilbfaaaOdL
namespace Go.Proofs.Ytemjdmgfilbfaaa
open Go.RowKit
set_option linter.unusedVariables false

theorem DAt.upd {w w' : World} {b k : Nat} {l : List (Nat × Im)} (h : DAt w b l) (hk : k < l.length) (x' : Im) (hF : Frm (One l[k].1) w w') (hp : ItAt w' l[k].1 x') : DAt w' b (l.set k (l[k].1, x')) := by
  obtain ⟨v, hO, hr⟩ := h.row
  have hx := h.el _ (List.getElem_mem hk)
  have hm : (l.set k (l[k].1, x')).map (fun q => ptr q.1) = l.map fun q => ptr q.1 := by
    apply List.ext_getElem (by simp)
    intro i h1 h2
    by_cases e : k = i
    · subst e; simp
    · simp [e]
  have hm2 : (l.set k (l[k].1, x')).map (·.1) = l.map (·.1) := by
    apply List.ext_getElem (by simp)
    intro i h1 h2
    by_cases e : k = i
    · subst e; simp
    · simp [e]
  refine ⟨⟨v, hF.heap hO (fun e => ?_), ?_⟩, ?_, ?_, ?_⟩
  · have e : b = l[k].1 := e
    exact block_ne hx hO (by decide) e.symm
  · rw [List.length_set, hm]
    refine hF.row hr fun j hj e => ?_
    have e : j = l[k].1 := e
    obtain ⟨_, cur, hc⟩ := row_block hr hj
    exact block_ne hx hc (by decide) e.symm
  · intro q hq
    obtain ⟨j, hj, rfl⟩ := List.getElem_of_mem hq
    have hj' : j < l.length := by simpa using hj
    by_cases e : k = j
    · subst e; simpa using hp
    · rw [List.getElem_set_ne e]
      refine (h.el _ (List.getElem_mem hj')).frm hF fun e2 => e ?_
      have e2 : l[j].1 = l[k].1 := e2
      exact (nodup_at h.nd (i := k) (k := j) (by simpa using hk) (by simpa using hj') (by simpa using e2.symm))
  · rw [hm2]; exact h.nd
  · intro q hq
    rcases List.mem_or_eq_of_mem_set hq with hq | rfl
    · exact h.lo q hq
    · exact (h.lo l[k] (List.getElem_mem hk) : b ≤ l[k].1)
theorem upd_im {l : List (Nat × Im)} {k : Nat} (hk : k < l.length) (x' : Im) : im (l.set k (l[k].1, x')) = (im l).set k x' := by simp [im, List.map_set]
theorem upd_fst {l : List (Nat × Im)} {k : Nat} (hk : k < l.length) (x' : Im) : (l.set k (l[k].1, x')).map (·.1) = l.map (·.1) := by
  apply List.ext_getElem (by simp)
  intro i h1 h2
  by_cases e : k = i
  · subst e; simp
  · simp [e]
theorem take_ok (x : En) (b : List UInt8) : (takeE x b).2.ok := by
  have hz : Va.zero.ok := by simp [Va.zero, Va.ok, two64]
  have hd := decV_ok x.df.ty b
  unfold takeE
  repeat' split
  all_goals first | exact hz | exact hd
theorem DOk.upd {d : List Im} (h : DOk d) {k : Nat} (hk : k < d.length) (v : Va) (hv : v.ok) : DOk (d.set k (d[k].1, v)) := by
  refine ⟨?_, fun x hx => ?_, by simpa using h.len⟩
  · rw [List.pairwise_iff_getElem]
    intro i j h1 h2 hij
    have h3 := List.pairwise_iff_getElem.1 h.srt i j (by simpa using h1) (by simpa using h2) hij
    rw [List.getElem_set, List.getElem_set]
    split
    · rename_i e; subst e
      rw [if_neg (by omega)]; exact h3
    · split
      · rename_i e; subst e; exact h3
      · exact h3
  · rcases List.mem_or_eq_of_mem_set hx with hx | rfl
    · exact h.ok x hx
    · exact ⟨(h.ok _ (List.getElem_mem hk)).1, hv⟩
theorem DOk.write {d : List Im} (h : DOk d) (i s : Int) (b : List UInt8) : DOk (writeD d i s b) := by
  unfold writeD
  split
  · exact h
  · split
    · exact h
    · rename_i k hf x hx
      split
      · obtain ⟨hk, rfl⟩ := List.getElem?_eq_some_iff.1 hx
        exact h.upd hk _ (take_ok _ _)
      · exact h

theorem odMay_any (b : Nat) (l : List (Nat × Im)) (i s : Int) (v : Value) (bs : List UInt8) (w : World) (h : DAt w b l) (hd : DOk (im l)) (hs : 0 ≤ s ∧ s ≤ 255) (hv : BytesAt w v bs) (hl : bs.length ≤ 140737488351232) :
    Calls Try.prog 54 #[ptr b, .int .u16 i, .int .u8 s, v] w fun e w' => e = .returned (.int .u32 (mayD (im l) i s bs)) ∧ Frm (fun _ => False) w w' := by
  have HM := Lib.hid (odmay_any b l i s v bs w h hd hs hv hl)
  obtain ⟨A, cap, rfl, _⟩ := hv
  clear h hd hs hl
  unfold ptr at HM
  unfold ptr
  go_enter Try.func54, Try.ntmps54
  go_wp2_with fail
  refine HM.out.mono ?_
  rintro e w1 ⟨⟨p, v, rfl, -⟩, hF⟩
  go_wp2_with fail
  go_ret
  exact ⟨rfl, by (repeat' (first | (with_reducible exact Frm.refl _ _) | (with_reducible assumption) | (with_reducible refine Frm.alloc ?_ _) | (with_reducible refine Frm.drew ?_) | (with_reducible refine Frm.drewN ?_ _) | (with_reducible refine Frm.set1 ?_ _) | (with_reducible refine Frm.setCell ?_ ?_ _) | (exact fun h => absurd h (Nat.lt_irrefl _)) | (intro hlt; simp [World.size_alloc, One] at hlt ⊢; omega)))⟩

def WriteP (b : Nat) (l : List (Nat × Im)) (i s : Int) (bs : List UInt8) (w : World) (e : Ending) (w' : World) : Prop :=
  e = .returned (.int .u32 (mayD (im l) i s bs)) ∧ ∃ l', DAt w' b l' ∧ im l' = writeD (im l) i s bs ∧ l'.map (·.1) = l.map (·.1) ∧ Frm (fun j => ∃ q ∈ l, j = q.1) w w'

theorem store17 {w : World} {g : Nat} {x : Im} (v : Va) (h : ItAt w g x) : ItAt (((w.setCell ⟨g, 14, none⟩ (.int .i64 v.ty)).setCell ⟨g, 15, none⟩ (.int .u64 v.n)).setCell ⟨g, 16, none⟩ (.string (strB2 v.b))) g (x.1, v) :=
  heap_set_at (heap_set_at (heap_set_at h rfl) rfl) rfl

set_option maxRecDepth 100000 in
set_option maxHeartbeats 1000000 in
theorem odWrite_any (b : Nat) (l : List (Nat × Im)) (i s : Int) (v : Value) (bs : List UInt8) (w : World) (h : DAt w b l) (hd : DOk (im l)) (hs : 0 ≤ s ∧ s ≤ 255) (hv : BytesAt w v bs) (hl : bs.length ≤ 140737488351232) :
    Calls Try.prog 15 #[ptr b, .int .u16 i, .int .u8 s, v] w (WriteP b l i s bs w) := by
  have HM := Lib.hid (odmay_any b l i s v bs w h hd hs hv hl)
  have HD := Lib.hid h
  obtain ⟨A, cap, rfl, _⟩ := hv
  have HNO : Hid (mayD (im l) i s bs ≠ 0 → writeD (im l) i s bs = im l) := fun hne => by
    unfold writeD
    unfold mayD at hne
    split
    · rfl
    · rename_i k hf
      rw [hf] at hne
      simp only at hne
      split
      · rfl
      · rename_i x hx
        rw [hx] at hne
        simp only at hne
        rw [if_neg hne]
  have HYES : Hid (∀ (k : Nat) (hk : k < l.length), findD (im l) i s = some k → (takeE l[k].2.1 bs).1 = 0 → writeD (im l) i s bs = (im l).set k (l[k].2.1, (takeE l[k].2.1 bs).2)) := fun k hk hf ht => by
    unfold writeD
    rw [hf]
    simp [hk, ht]
  clear h hd hs hl
  unfold ptr at HM
  unfold ptr WriteP
  generalize hmd : mayD (im l) i s bs = md at *
  go_enter Try.func15, Try.ntmps15
  go_wp2_with fail
  refine HM.out.mono ?_
  rintro e w1 ⟨⟨p, vv, rfl, hyes⟩, hF⟩
  rw [hmd] at hyes
  have HF := Lib.hid hF
  clear HM hF
  by_cases h0 : md = 0
  case neg =>
    have HN := Lib.hid (HNO.out h0)
    have hb : (md == 0) = false := by simpa using h0
    clear hyes h0
    go_wp2_with fail
    go_ret
    refine ⟨rfl, l, HD.out.grow (HF.out.trans' (by (repeat' (first | (with_reducible exact Frm.refl _ _) | (with_reducible assumption) | (with_reducible refine Frm.alloc ?_ _) | (with_reducible refine Frm.drew ?_) | (with_reducible refine Frm.drewN ?_ _) | (with_reducible refine Frm.set1 ?_ _) | (with_reducible refine Frm.setCell ?_ ?_ _) | (exact fun h => absurd h (Nat.lt_irrefl _)) | (intro hlt; simp [World.size_alloc, One] at hlt ⊢; omega))))), HN.out.symm, rfl, ?_⟩
    exact (HF.out.trans' (by (repeat' (first | (with_reducible exact Frm.refl _ _) | (with_reducible assumption) | (with_reducible refine Frm.alloc ?_ _) | (with_reducible refine Frm.drew ?_) | (with_reducible refine Frm.drewN ?_ _) | (with_reducible refine Frm.set1 ?_ _) | (with_reducible refine Frm.setCell ?_ ?_ _) | (exact fun h => absurd h (Nat.lt_irrefl _)) | (intro hlt; simp [World.size_alloc, One] at hlt ⊢; omega))))).mono (fun _ _ h => h.elim)
  case pos =>
    obtain ⟨k, hk, hf, rfl, rfl, ht⟩ := hyes h0
    have HY := Lib.hid (HYES.out k hk hf ht)
    subst h0
    have hm := List.getElem_mem hk
    have HI := Lib.hid (HF.out.heap (HD.out.el _ hm) (fun h => h))
    obtain ⟨x, hx⟩ : ∃ x, x = l[k].2 := ⟨_, rfl⟩
    obtain ⟨p, hp⟩ : ∃ p, p = l[k].1 := ⟨_, rfl⟩
    have HX := Lib.hid hx
    have HP := Lib.hid hp
    have ki : w1.heap[p]? = some (.cells (cellsI x).toArray 83 (0, 0)) := by rw [hp, hx]; exact HI.out
    rw [← hx] at HY
    rw [← hp, ← hx]
    have hvo := take_ok x.1 bs
    generalize (takeE x.1 bs).2 = vv at *
    clear hyes hf ht hx hp hm
    have KI := Lib.hid ki
    have y0 : w1.cell? ⟨p, 14, none⟩ = some (.int .i64 x.2.ty) := cell_at ki
    have y1 : w1.cell? ⟨p, 15, none⟩ = some (.int .u64 x.2.n) := cell_at ki
    have y2 : w1.cell? ⟨p, 16, none⟩ = some (.string (strB2 x.2.b)) := cell_at ki
    have f0 := frees ki
    have l0 := lt_of_block ki
    clear ki
    go_wp2_with fail
    go_ret
    have hD0 := HD.out.grow HF.out
    have hI1 := store17 vv KI.out
    have hset : Frm (One p) w1 (((w1.setCell ⟨p, 14, none⟩ (.int .i64 vv.ty)).setCell ⟨p, 15, none⟩ (.int .u64 vv.n)).setCell ⟨p, 16, none⟩ (.string (strB2 vv.b))) :=
      (((Frm.refl (One p) _).setCell (p := ⟨p, 14, none⟩) (fun _ => rfl) _).setCell (p := ⟨p, 15, none⟩) (fun _ => rfl) _).setCell (p := ⟨p, 16, none⟩) (fun _ => rfl) _
    have hfin := (hD0.upd hk (x.1, vv) (by rw [← HP.out]; exact hset) (by rw [← HP.out]; exact hI1))
    refine ⟨rfl, _, hfin.grow ((Frm.refl _ _).alloc _), ?_, upd_fst hk _, ?_⟩
    · rw [upd_im, HY.out]
    · exact ((HF.out.mono (T := fun j => ∃ q ∈ l, j = q.1) (fun _ _ h => h.elim)).trans hset (fun i hi e => ⟨l[k], List.getElem_mem hk, by have e : i = p := e; rw [e, HP.out]⟩)).alloc _
end Go.Proofs.Ytemjdmgfilbfaaa
