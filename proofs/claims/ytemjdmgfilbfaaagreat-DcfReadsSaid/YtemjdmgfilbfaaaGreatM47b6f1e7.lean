/-
  may, May, Write.
-/
import Derived.Test.YtemjdmgfilbfaaaGreatMfee7cd42
set_option linter.unusedVariables false
set_option linter.unusedSimpArgs false
namespace Go.Proofs.YtemjdmgfilbfaaaGreat
open Go.RowKit
open List (getElem_toArray getElem_cons_zero getElem_cons_succ setIfInBounds_toArray set_cons_zero set_cons_succ)
set_option linter.unusedVariables false

theorem ret_v3 {fn : Func} {p u v : Tmp} (h : fn.results = #[.tmp v, .cell p 57, .tmp u]) (tmps : Array Value) (w : World) (g : Nat) (x y z : Value)
    (hp : tmps.getD p undef = .pointer (some ⟨g, 0, none⟩)) (hg : w.heap[g]? = some (.cells #[x, y, z] 57 (0, 0))) :
    (results fn tmps).run Tryz.prog w = .ok (.tuple #[tmps.getD v undef, .agg #[x, y, z], tmps.getD u undef]) w := by
  have hp' : tmps[p]?.getD undef = .pointer (some ⟨g, 0, none⟩) := by simpa using hp
  simp [results, h, hp', asAddr, run_loadVar_row w g 57 57 #[x, y, z] (0, 0) _ hg Tryz.underlying57 rfl (by kernel_rfl)]

theorem decV_ok (t : Int) (bs : List UInt8) : (decV t bs).1.ok := by
  have hz : Va.zero.ok := by simp [Va.zero, Va.ok, two64]
  unfold decV
  split
  · exact hz
  · split
    · exact hz
    · split
      · exact hz
      · split
        · exact hz
        · rename_i h1 h2 h3 h4
          show (rawV t bs).ok
          unfold rawV
          split
          · rename_i h0
            have := @wideN_range t bs (by omega) h0
            exact ⟨this.1, this.2, by simp⟩
          · exact ⟨by simp, by simp [two64], by simp only; omega⟩

def MayP (l : List (Nat × Im)) (i s : Int) (bs : List UInt8) (e : Ending) : Prop :=
  ∃ (p : Value) (v : Va), e = .returned (.tuple #[p, valV v, .int .u32 (mayD (im l) i s bs)]) ∧
    (mayD (im l) i s bs = 0 → ∃ (k : Nat) (hk : k < l.length), findD (im l) i s = some k ∧ p = ptr l[k].1 ∧ v = (takeE l[k].2.1 bs).2 ∧ (takeE l[k].2.1 bs).1 = 0)


/-- All but the block g is as it was, and that one holds a value. -/
def Near (g : Nat) (wx W : World) : Prop := Frm (One g) wx W ∧ ∃ c0 c1 c2, W.heap[g]? = some (.cells #[c0, c1, c2] 57 (0, 0))
theorem Near.start {g : Nat} {wx : World} {c0 c1 c2 : Value} (h : wx.heap[g]? = some (.cells #[c0, c1, c2] 57 (0, 0))) : Near g wx wx.drew := ⟨(Frm.refl _ _).drew, c0, c1, c2, (Frm.refl (fun _ => False) wx).drew.heap h (fun h => h)⟩
theorem Near.call {g : Nat} {wx W w' : World} (h : Near g wx W) (hF : Frm (fun _ => False) W w') : Near g wx w' := by
  obtain ⟨h1, c0, c1, c2, h2⟩ := h
  exact ⟨h1.trans hF (fun _ _ h => h.elim), c0, c1, c2, hF.heap h2 (fun h => h)⟩
set_option maxRecDepth 100000 in
set_option maxHeartbeats 1000000 in
theorem odmay_any (b : Nat) (l : List (Nat × Im)) (i s : Int) (v : Value) (bs : List UInt8) (w : World) (h : DAt w b l) (hd : DOk (im l)) (hs : 0 ≤ s ∧ s ≤ 255) (hv : BytesAt w v bs) (hl : bs.length ≤ 140737488351232) :
    Calls Tryz.prog 66 #[ptr b, .int .u16 i, .int .u8 s, v] w fun e w' => MayP l i s bs e ∧ Frm (fun _ => False) w w' := by
  have HFD := Lib.hid (fun W hF => odFind_any b l i s W (h.grow hF) hd hs)
  have HD := Lib.hid h
  have HOK := Lib.hid hd
  have HBS := Lib.hid hv
  obtain ⟨A, cap, rfl, _⟩ := hv
  clear h hd hs
  unfold ptr at HFD
  unfold ptr
  go_enter Tryz.func66, Tryz.ntmps66
  go_wp2_with fail
  refine (HFD.out _ (by (repeat' (first | (with_reducible exact Frm.refl _ _) | (with_reducible assumption) | (with_reducible refine Frm.alloc ?_ _) | (with_reducible refine Frm.drew ?_) | (with_reducible refine Frm.drewN ?_ _) | (with_reducible refine Frm.set1 ?_ _) | (with_reducible refine Frm.setCell ?_ ?_ _) | (exact fun h => absurd h (Nat.lt_irrefl _)) | (intro hlt; simp [World.size_alloc, One] at hlt ⊢; omega))))).mono ?_
  rintro e w1 ⟨hF1, hf⟩
  have k0 := hF1.heap (heap_new w _) (fun h => h)
  have z0 : w1.cell? ⟨w.heap.size, 0, none⟩ = some (.int .i64 0) := cell_at k0
  have z1 : w1.cell? ⟨w.heap.size, 1, none⟩ = some (.int .u64 0) := cell_at k0
  have z2 : w1.cell? ⟨w.heap.size, 2, none⟩ = some (.string ⟨#[]⟩) := cell_at k0
  have f0 := frees k0
  have l0 := lt_of_block k0
  have K0 := Lib.hid k0
  have HF : Hid (Frm (fun _ => False) w w1) := Frm.trans' (b := _) (by (repeat' (first | (with_reducible exact Frm.refl _ _) | (with_reducible assumption) | (with_reducible refine Frm.alloc ?_ _) | (with_reducible refine Frm.drew ?_) | (with_reducible refine Frm.drewN ?_ _) | (with_reducible refine Frm.set1 ?_ _) | (with_reducible refine Frm.setCell ?_ ?_ _) | (exact fun h => absurd h (Nat.lt_irrefl _)) | (intro hlt; simp [World.size_alloc, One] at hlt ⊢; omega)))) hF1
  clear hF1 k0 HFD
  rcases hf with ⟨k, hk, hfd, -, -, rfl⟩ | ⟨hfd, hne, rfl⟩
  · have hm := List.getElem_mem hk
    have E : Hid (mayD (im l) i s bs = (takeE l[k].2.1 bs).1) := by
      unfold Hid mayD
      rw [hfd]
      simp [hk]
    have HX : Hid (∀ (p : Value) (v : Va), p = ptr l[k].1 → v = (takeE l[k].2.1 bs).2 → (takeE l[k].2.1 bs).1 = 0 → ∃ (k : Nat) (hk : k < l.length), findD (im l) i s = some k ∧ p = ptr l[k].1 ∧ v = (takeE l[k].2.1 bs).2 ∧ (takeE l[k].2.1 bs).1 = 0) := fun p v h1 h2 h3 => ⟨k, hk, hfd, h1, h2, h3⟩
    have hi := HF.out.heap (HD.out.el _ hm) (fun h => h)
    have HIT := Lib.hid (HD.out.el _ hm)
    have hxo := (HOK.out.ok _ (List.mem_map.2 ⟨_, hm, rfl⟩)).1
    have HWI := Lib.hid (fun v W hv => odWithin_any l[k].2.1 v W hxo hv)
    have HDE := Lib.hid (fun W hF => tyDec_any l[k].2.1.df.ty (.slice A bs.length cap) bs W (HBS.out.grow hF) hl)
    have HDV : Hid ((decV l[k].2.1.df.ty bs).1.ok) := decV_ok _ bs
    have HTK : Hid (takeE l[k].2.1 bs = if l[k].2.1.acc ≠ 1 ∧ l[k].2.1.acc ≠ 2 then (codeNoWrite, .zero)
      else if (decV l[k].2.1.df.ty bs).2 = 3 then (codeShort, (decV l[k].2.1.df.ty bs).1)
      else if (decV l[k].2.1.df.ty bs).2 = 2 then (codeLong, (decV l[k].2.1.df.ty bs).1)
      else if (decV l[k].2.1.df.ty bs).2 ≠ 0 then (codeBad, (decV l[k].2.1.df.ty bs).1)
      else if l[k].2.1.lim = true then (withinC l[k].2.1 (decV l[k].2.1.df.ty bs).1, (decV l[k].2.1.df.ty bs).1)
      else (0, (decV l[k].2.1.df.ty bs).1)) := rfl
    generalize takeE l[k].2.1 bs = tk at *
    generalize l[k].1 = p at *
    generalize l[k].2 = x at *
    generalize decV x.1.df.ty bs = dv at *
    obtain ⟨dv, de⟩ := dv
    clear hfd hm
    have i0 : w1.cell? ⟨p, 0, none⟩ = some (.int .u16 x.1.idx) := cell_at hi
    have i1 : w1.cell? ⟨p, 1, none⟩ = some (.int .u8 x.1.sub) := cell_at hi
    have i2 : w1.cell? ⟨p, 2, none⟩ = some (.int .i64 x.1.acc) := cell_at hi
    have i3 : w1.cell? ⟨p, 3, none⟩ = some (.bool x.1.mp) := cell_at hi
    have i4 : w1.cell? ⟨p, 4, none⟩ = some (.bool x.1.lim) := cell_at hi
    have i5 : w1.cell? ⟨p, 5, none⟩ = some (.int .i64 x.1.mn.ty) := cell_at hi
    have i6 : w1.cell? ⟨p, 6, none⟩ = some (.int .u64 x.1.mn.n) := cell_at hi
    have i7 : w1.cell? ⟨p, 7, none⟩ = some (.string (strB2 x.1.mn.b)) := cell_at hi
    have i8 : w1.cell? ⟨p, 8, none⟩ = some (.int .i64 x.1.mx.ty) := cell_at hi
    have i9 : w1.cell? ⟨p, 9, none⟩ = some (.int .u64 x.1.mx.n) := cell_at hi
    have i10 : w1.cell? ⟨p, 10, none⟩ = some (.string (strB2 x.1.mx.b)) := cell_at hi
    have i11 : w1.cell? ⟨p, 11, none⟩ = some (.int .i64 x.1.df.ty) := cell_at hi
    have i12 : w1.cell? ⟨p, 12, none⟩ = some (.int .u64 x.1.df.n) := cell_at hi
    have i13 : w1.cell? ⟨p, 13, none⟩ = some (.string (strB2 x.1.df.b)) := cell_at hi
    clear hi hxo
    unfold DecP valV at HDE
    unfold valE valV at HWI
    simp only at *
    by_cases ha : x.1.acc ≠ 1 ∧ x.1.acc ≠ 2
    · obtain ⟨a1, a2⟩ := ha
      have T : Hid (tk = (codeNoWrite, .zero)) := by unfold Hid; rw [HTK.out, if_pos ⟨a1, a2⟩]
      have b1 : (x.1.acc != 1) = true := by simpa using a1
      have b2 : (x.1.acc != 2) = true := by simpa using a2
      clear HTK a1 a2
      go_wp2_with fail
      refine bodyPost_ret (ret_v3 Tryz.results66 _ _ _ _ _ _ rfl (store3 K0.out)) rfl ⟨⟨.pointer none, .zero, ?_, ?_⟩, ?_⟩
      · rw [E.out, T.out]; rfl
      · intro h0; rw [E.out, T.out] at h0; exact absurd h0 (by decide)
      · have hf : Frm (fun _ => False) w w1 := HF.out
        (repeat' (first | (with_reducible exact Frm.refl _ _) | (with_reducible assumption) | (with_reducible refine Frm.alloc ?_ _) | (with_reducible refine Frm.drew ?_) | (with_reducible refine Frm.drewN ?_ _) | (with_reducible refine Frm.set1 ?_ _) | (with_reducible refine Frm.setCell ?_ ?_ _) | (exact fun h => absurd h (Nat.lt_irrefl _)) | (intro hlt; simp [World.size_alloc, One] at hlt ⊢; omega)))
    · rw [if_neg ha] at HTK
      by_cases a1 : x.1.acc = 1
      · have b1 : (x.1.acc != 1) = false := by simpa using a1
        clear ha a1
        go_upto_region 7 with (go_at_call 93; refine (HDE.out _ HF.out).mono ?_; rintro e w2 ⟨rfl, hF2⟩; have k2 := hF2.heap K0.out (fun h => h); have g0 : w2.cell? ⟨w.heap.size, 0, none⟩ = some (.int .i64 0) := cell_at k2; have hF3 := HF.out.trans' hF2)
        have HKX : Hid (ItAt (w2.alloc (.cells #[.int .i64 dv.ty, .int .u64 dv.n, .string (strB2 dv.b)] 57)) p x) := (HIT.out.frm hF3 (fun h => h)).frm (S := fun _ => False) (by (repeat' (first | (with_reducible exact Frm.refl _ _) | (with_reducible assumption) | (with_reducible refine Frm.alloc ?_ _) | (with_reducible refine Frm.drew ?_) | (with_reducible refine Frm.drewN ?_ _) | (with_reducible refine Frm.set1 ?_ _) | (with_reducible refine Frm.setCell ?_ ?_ _) | (exact fun h => absurd h (Nat.lt_irrefl _)) | (intro hlt; simp [World.size_alloc, One] at hlt ⊢; omega)))) (fun h => h)
        have kb := heap_alloc_old (o := .cells #[.int .i64 dv.ty, .int .u64 dv.n, .string (strB2 dv.b)] 57) k2
        have kd := heap_new w2 (.cells #[.int .i64 dv.ty, .int .u64 dv.n, .string (strB2 dv.b)] 57)
        have hFx : Frm (fun _ => False) w (w2.alloc (.cells #[.int .i64 dv.ty, .int .u64 dv.n, .string (strB2 dv.b)] 57)) := by (repeat' (first | (with_reducible exact Frm.refl _ _) | (with_reducible assumption) | (with_reducible refine Frm.alloc ?_ _) | (with_reducible refine Frm.drew ?_) | (with_reducible refine Frm.drewN ?_ _) | (with_reducible refine Frm.set1 ?_ _) | (with_reducible refine Frm.setCell ?_ ?_ _) | (exact fun h => absurd h (Nat.lt_irrefl _)) | (intro hlt; simp [World.size_alloc, One] at hlt ⊢; omega)))
        clear i0 i1 i2 i3 i4 i5 i6 i7 i8 i9 i10 i11 i12 i13 z0 z1 z2 f0 l0 g0 hF3 hF2
        have hgl : w.heap.size ≠ w2.heap.size := by have := lt_of_block k2; omega
        clear k2
        generalize w2.heap.size = gd at *
        generalize w2.alloc (.cells #[.int .i64 dv.ty, .int .u64 dv.n, .string (strB2 dv.b)] 57) = wx at *
        have HFX := Lib.hid hFx
        have KB := Lib.hid kb
        clear hFx
        have z0 : wx.cell? ⟨w.heap.size, 0, none⟩ = some (.int .i64 0) := cell_at kb
        have z1 : wx.cell? ⟨w.heap.size, 1, none⟩ = some (.int .u64 0) := cell_at kb
        have z2 : wx.cell? ⟨w.heap.size, 2, none⟩ = some (.string ⟨#[]⟩) := cell_at kb
        have f0 := frees kb
        have y0 : wx.cell? ⟨gd, 0, none⟩ = some (.int .i64 dv.ty) := cell_at kd
        have y1 : wx.cell? ⟨gd, 1, none⟩ = some (.int .u64 dv.n) := cell_at kd
        have y2 : wx.cell? ⟨gd, 2, none⟩ = some (.string (strB2 dv.b)) := cell_at kd
        have ki := HKX.out
        have i4 : wx.cell? ⟨p, 4, none⟩ = some (.bool x.1.lim) := cell_at ki
        clear kb kd ki
        by_cases d3 : de = 3
        · subst d3
          have T : Hid (tk = (codeShort, dv)) := by unfold Hid; rw [HTK.out, if_pos rfl]
          clear HTK
          go_wp2_with fail
          refine wp_region_held_drew (S := (fun w' => w'.cell? ⟨gd, 0, none⟩ = some (.int .i64 dv.ty) ∧ w'.cell? ⟨gd, 1, none⟩ = some (.int .u64 dv.n) ∧ w'.cell? ⟨gd, 2, none⟩ = some (.string (strB2 dv.b)))) (by kernel_rfl) (⟨by go_simp, by go_simp, by go_simp⟩) (fun hHeld => ?_)
          refine wpAnyH_take (i := 0) (v := ?_) rfl (by kernel_rfl) (by kernel_rfl) (by kernel_rfl) (fun _ _ _ h => h) (Or.inl ⟨by rfl, ?_⟩) (by assumption) ?_; rotate_left; · (intro wq hSq; (try dsimp only at hSq); go_split_ands; go_simp; (try with_reducible rfl))
          try simp only [Act.put, getElem_toArray, getElem_cons_zero, getElem_cons_succ, setIfInBounds_toArray, set_cons_zero, set_cons_succ]
          refine wpAnyH_take (i := 1) (v := ?_) rfl (by kernel_rfl) (by kernel_rfl) (by kernel_rfl) (fun _ _ _ h => h) (Or.inl ⟨by rfl, ?_⟩) (by assumption) ?_; rotate_left; · (intro wq hSq; (try dsimp only at hSq); go_split_ands; go_simp; (try with_reducible rfl))
          try simp only [Act.put, getElem_toArray, getElem_cons_zero, getElem_cons_succ, setIfInBounds_toArray, set_cons_zero, set_cons_succ]
          refine wpAnyH_ready (rs := [2]) (by kernel_rfl) (by simp) ?_
          refine AllReadyH.cons rfl (fun K hK => ?_) AllReadyH.nil
          try simp only [getElem_toArray, getElem_cons_zero, getElem_cons_succ]
          go_simp
          refine hK.out _ _ (⟨by go_simp, by go_simp, by go_simp⟩) (fun hHeld => ?_)
          clear hK K
          try simp only [Act.put, setIfInBounds_toArray, set_cons_zero, set_cons_succ]
          refine wpAnyH_take (i := 3) (v := ?_) rfl (by kernel_rfl) (by kernel_rfl) (by kernel_rfl) (fun _ _ _ h => h) (Or.inl ⟨by rfl, ?_⟩) (by assumption) ?_; rotate_left; · (intro wq hSq; (try dsimp only at hSq); go_split_ands; go_simp; (try with_reducible rfl))
          try simp only [Act.put, getElem_toArray, getElem_cons_zero, getElem_cons_succ, setIfInBounds_toArray, set_cons_zero, set_cons_succ]
          refine wpAnyH_done (by kernel_rfl) ?_ _
          go_wp2_with fail
          refine bodyPost_ret (ret_v3 Tryz.results66 _ _ _ _ _ _ rfl (store3 (by simpa [World.drew] using KB.out))) rfl ⟨⟨.pointer none, dv, ?_, ?_⟩, ?_⟩
          · rw [E.out, T.out]; rfl
          · intro h0; rw [E.out, T.out] at h0; exact absurd (show codeShort = 0 from h0) (by decide)
          · have hf : Frm (fun _ => False) w wx := HFX.out
            (repeat' (first | (with_reducible exact Frm.refl _ _) | (with_reducible assumption) | (with_reducible refine Frm.alloc ?_ _) | (with_reducible refine Frm.drew ?_) | (with_reducible refine Frm.drewN ?_ _) | (with_reducible refine Frm.set1 ?_ _) | (with_reducible refine Frm.setCell ?_ ?_ _) | (exact fun h => absurd h (Nat.lt_irrefl _)) | (intro hlt; simp [World.size_alloc, One] at hlt ⊢; omega)))
        · rw [if_neg d3] at HTK
          have e3 : (de == 3) = false := by simpa using d3
          by_cases d2 : de = 2
          · subst d2
            have T : Hid (tk = (codeLong, dv)) := by unfold Hid; rw [HTK.out, if_pos rfl]
            clear HTK d3
            go_wp2_with fail
            refine wp_region_held_drew (S := (fun w' => w'.cell? ⟨gd, 0, none⟩ = some (.int .i64 dv.ty) ∧ w'.cell? ⟨gd, 1, none⟩ = some (.int .u64 dv.n) ∧ w'.cell? ⟨gd, 2, none⟩ = some (.string (strB2 dv.b)))) (by kernel_rfl) (⟨by go_simp, by go_simp, by go_simp⟩) (fun hHeld => ?_)
            refine wpAnyH_take (i := 0) (v := ?_) rfl (by kernel_rfl) (by kernel_rfl) (by kernel_rfl) (fun _ _ _ h => h) (Or.inl ⟨by rfl, ?_⟩) (by assumption) ?_; rotate_left; · (intro wq hSq; (try dsimp only at hSq); go_split_ands; go_simp; (try with_reducible rfl))
            try simp only [Act.put, getElem_toArray, getElem_cons_zero, getElem_cons_succ, setIfInBounds_toArray, set_cons_zero, set_cons_succ]
            refine wpAnyH_take (i := 1) (v := ?_) rfl (by kernel_rfl) (by kernel_rfl) (by kernel_rfl) (fun _ _ _ h => h) (Or.inl ⟨by rfl, ?_⟩) (by assumption) ?_; rotate_left; · (intro wq hSq; (try dsimp only at hSq); go_split_ands; go_simp; (try with_reducible rfl))
            try simp only [Act.put, getElem_toArray, getElem_cons_zero, getElem_cons_succ, setIfInBounds_toArray, set_cons_zero, set_cons_succ]
            refine wpAnyH_ready (rs := [2]) (by kernel_rfl) (by simp) ?_
            refine AllReadyH.cons rfl (fun K hK => ?_) AllReadyH.nil
            try simp only [getElem_toArray, getElem_cons_zero, getElem_cons_succ]
            go_simp
            refine hK.out _ _ (⟨by go_simp, by go_simp, by go_simp⟩) (fun hHeld => ?_)
            clear hK K
            try simp only [Act.put, setIfInBounds_toArray, set_cons_zero, set_cons_succ]
            refine wpAnyH_take (i := 3) (v := ?_) rfl (by kernel_rfl) (by kernel_rfl) (by kernel_rfl) (fun _ _ _ h => h) (Or.inl ⟨by rfl, ?_⟩) (by assumption) ?_; rotate_left; · (intro wq hSq; (try dsimp only at hSq); go_split_ands; go_simp; (try with_reducible rfl))
            try simp only [Act.put, getElem_toArray, getElem_cons_zero, getElem_cons_succ, setIfInBounds_toArray, set_cons_zero, set_cons_succ]
            refine wpAnyH_done (by kernel_rfl) ?_ _
            go_wp2_with fail
            refine bodyPost_ret (ret_v3 Tryz.results66 _ _ _ _ _ _ rfl (store3 (by simpa [World.drew] using KB.out))) rfl ⟨⟨.pointer none, dv, ?_, ?_⟩, ?_⟩
            · rw [E.out, T.out]; rfl
            · intro h0; rw [E.out, T.out] at h0; exact absurd (show codeLong = 0 from h0) (by decide)
            · have hf : Frm (fun _ => False) w wx := HFX.out
              (repeat' (first | (with_reducible exact Frm.refl _ _) | (with_reducible assumption) | (with_reducible refine Frm.alloc ?_ _) | (with_reducible refine Frm.drew ?_) | (with_reducible refine Frm.drewN ?_ _) | (with_reducible refine Frm.set1 ?_ _) | (with_reducible refine Frm.setCell ?_ ?_ _) | (exact fun h => absurd h (Nat.lt_irrefl _)) | (intro hlt; simp [World.size_alloc, One] at hlt ⊢; omega)))
          · rw [if_neg d2] at HTK
            have e2 : (de == 2) = false := by simpa using d2
            by_cases d0 : de = 0
            case neg =>
              have e0 : (de == 0) = false := by simpa using d0
              have T : Hid (tk = (codeBad, dv)) := by unfold Hid; rw [HTK.out, if_pos d0]
              clear HTK d3 d2 d0
              go_wp2_with fail
              refine wp_region_held_drew (S := (fun w' => w'.cell? ⟨gd, 0, none⟩ = some (.int .i64 dv.ty) ∧ w'.cell? ⟨gd, 1, none⟩ = some (.int .u64 dv.n) ∧ w'.cell? ⟨gd, 2, none⟩ = some (.string (strB2 dv.b)))) (by kernel_rfl) (⟨by go_simp, by go_simp, by go_simp⟩) (fun hHeld => ?_)
              refine wpAnyH_take (i := 0) (v := ?_) rfl (by kernel_rfl) (by kernel_rfl) (by kernel_rfl) (fun _ _ _ h => h) (Or.inl ⟨by rfl, ?_⟩) (by assumption) ?_; rotate_left; · (intro wq hSq; (try dsimp only at hSq); go_split_ands; go_simp; (try with_reducible rfl))
              try simp only [Act.put, getElem_toArray, getElem_cons_zero, getElem_cons_succ, setIfInBounds_toArray, set_cons_zero, set_cons_succ]
              refine wpAnyH_take (i := 1) (v := ?_) rfl (by kernel_rfl) (by kernel_rfl) (by kernel_rfl) (fun _ _ _ h => h) (Or.inl ⟨by rfl, ?_⟩) (by assumption) ?_; rotate_left; · (intro wq hSq; (try dsimp only at hSq); go_split_ands; go_simp; (try with_reducible rfl))
              try simp only [Act.put, getElem_toArray, getElem_cons_zero, getElem_cons_succ, setIfInBounds_toArray, set_cons_zero, set_cons_succ]
              refine wpAnyH_ready (rs := [2]) (by kernel_rfl) (by simp) ?_
              refine AllReadyH.cons rfl (fun K hK => ?_) AllReadyH.nil
              try simp only [getElem_toArray, getElem_cons_zero, getElem_cons_succ]
              go_simp
              refine hK.out _ _ (⟨by go_simp, by go_simp, by go_simp⟩) (fun hHeld => ?_)
              clear hK K
              try simp only [Act.put, setIfInBounds_toArray, set_cons_zero, set_cons_succ]
              refine wpAnyH_take (i := 3) (v := ?_) rfl (by kernel_rfl) (by kernel_rfl) (by kernel_rfl) (fun _ _ _ h => h) (Or.inl ⟨by rfl, ?_⟩) (by assumption) ?_; rotate_left; · (intro wq hSq; (try dsimp only at hSq); go_split_ands; go_simp; (try with_reducible rfl))
              try simp only [Act.put, getElem_toArray, getElem_cons_zero, getElem_cons_succ, setIfInBounds_toArray, set_cons_zero, set_cons_succ]
              refine wpAnyH_done (by kernel_rfl) ?_ _
              go_wp2_with fail
              refine bodyPost_ret (ret_v3 Tryz.results66 _ _ _ _ _ _ rfl (store3 (by simpa [World.drew] using KB.out))) rfl ⟨⟨.pointer none, dv, ?_, ?_⟩, ?_⟩
              · rw [E.out, T.out]; rfl
              · intro h0; rw [E.out, T.out] at h0; exact absurd (show codeBad = 0 from h0) (by decide)
              · have hf : Frm (fun _ => False) w wx := HFX.out
                (repeat' (first | (with_reducible exact Frm.refl _ _) | (with_reducible assumption) | (with_reducible refine Frm.alloc ?_ _) | (with_reducible refine Frm.drew ?_) | (with_reducible refine Frm.drewN ?_ _) | (with_reducible refine Frm.set1 ?_ _) | (with_reducible refine Frm.setCell ?_ ?_ _) | (exact fun h => absurd h (Nat.lt_irrefl _)) | (intro hlt; simp [World.size_alloc, One] at hlt ⊢; omega)))
            case pos =>
              subst d0
              rw [if_neg (by decide)] at HTK
              clear d3 d2 e2 e3
              cases hlm : x.1.lim
              · rw [hlm] at i4 HTK
                have T : Hid (tk = (0, dv)) := by unfold Hid; rw [HTK.out, if_neg (by decide)]
                clear HTK hlm
                go_wp2_with fail
                refine wp_region_held_drew (S := (fun w' => w'.cell? ⟨gd, 0, none⟩ = some (.int .i64 dv.ty) ∧ w'.cell? ⟨gd, 1, none⟩ = some (.int .u64 dv.n) ∧ w'.cell? ⟨gd, 2, none⟩ = some (.string (strB2 dv.b)))) (by kernel_rfl) (⟨by go_simp, by go_simp, by go_simp⟩) (fun hHeld => ?_)
                refine wpAnyH_take (i := 0) (v := ?_) rfl (by kernel_rfl) (by kernel_rfl) (by kernel_rfl) (fun _ _ _ h => h) (Or.inl ⟨by rfl, ?_⟩) (by assumption) ?_; rotate_left; · (intro wq hSq; (try dsimp only at hSq); go_split_ands; go_simp; (try with_reducible rfl))
                try simp only [Act.put, getElem_toArray, getElem_cons_zero, getElem_cons_succ, setIfInBounds_toArray, set_cons_zero, set_cons_succ]
                refine wpAnyH_take (i := 1) (v := ?_) rfl (by kernel_rfl) (by kernel_rfl) (by kernel_rfl) (fun _ _ _ h => h) (Or.inl ⟨by rfl, ?_⟩) (by assumption) ?_; rotate_left; · (intro wq hSq; (try dsimp only at hSq); go_split_ands; go_simp; (try with_reducible rfl))
                try simp only [Act.put, getElem_toArray, getElem_cons_zero, getElem_cons_succ, setIfInBounds_toArray, set_cons_zero, set_cons_succ]
                refine wpAnyH_take (i := 2) (v := ?_) rfl (by kernel_rfl) (by kernel_rfl) (by kernel_rfl) (fun _ _ _ h => h) (Or.inl ⟨by rfl, ?_⟩) (by assumption) ?_; rotate_left; · (intro wq hSq; (try dsimp only at hSq); go_split_ands; go_simp; (try with_reducible rfl))
                try simp only [Act.put, getElem_toArray, getElem_cons_zero, getElem_cons_succ, setIfInBounds_toArray, set_cons_zero, set_cons_succ]
                refine wpAnyH_ready (rs := [3]) (by kernel_rfl) (by simp) ?_
                refine AllReadyH.cons rfl (fun K hK => ?_) AllReadyH.nil
                try simp only [getElem_toArray, getElem_cons_zero, getElem_cons_succ]
                go_simp
                refine hK.out _ _ (⟨by go_simp, by go_simp, by go_simp⟩) (fun hHeld => ?_)
                clear hK K
                try simp only [Act.put, setIfInBounds_toArray, set_cons_zero, set_cons_succ]
                refine wpAnyH_take (i := 4) (v := ?_) rfl (by kernel_rfl) (by kernel_rfl) (by kernel_rfl) (fun _ _ _ h => h) (Or.inl ⟨by rfl, ?_⟩) (by assumption) ?_; rotate_left; · (intro wq hSq; (try dsimp only at hSq); go_split_ands; go_simp; (try with_reducible rfl))
                try simp only [Act.put, getElem_toArray, getElem_cons_zero, getElem_cons_succ, setIfInBounds_toArray, set_cons_zero, set_cons_succ]
                refine wpAnyH_done (by kernel_rfl) ?_ _
                go_wp2_with fail
                refine bodyPost_ret (ret_v3 Tryz.results66 _ _ _ _ _ _ rfl (store3 (by simpa [World.drew] using KB.out))) rfl ⟨⟨ptr p, dv, ?_, fun h0 => HX.out _ _ rfl ?_ ?_⟩, ?_⟩
                · rw [E.out, T.out]; rfl
                · rw [T.out]
                · rw [T.out]
                · have hf : Frm (fun _ => False) w wx := HFX.out
                  (repeat' (first | (with_reducible exact Frm.refl _ _) | (with_reducible assumption) | (with_reducible refine Frm.alloc ?_ _) | (with_reducible refine Frm.drew ?_) | (with_reducible refine Frm.drewN ?_ _) | (with_reducible refine Frm.set1 ?_ _) | (with_reducible refine Frm.setCell ?_ ?_ _) | (exact fun h => absurd h (Nat.lt_irrefl _)) | (intro hlt; simp [World.size_alloc, One] at hlt ⊢; omega)))
              · rw [hlm] at i4 HTK
                have T : Hid (tk = (withinC x.1 dv, dv)) := by unfold Hid; rw [HTK.out, if_pos rfl]
                clear HTK hlm
                have hpw : p ≠ w.heap.size := block_ne HKX.out KB.out (by decide)
                have hc : ∀ W, Near w.heap.size wx W → (W.cell? ⟨gd, 0, none⟩ = some (.int .i64 dv.ty) ∧ W.cell? ⟨gd, 1, none⟩ = some (.int .u64 dv.n) ∧ W.cell? ⟨gd, 2, none⟩ = some (.string (strB2 dv.b))) ∧ (W.cell? ⟨p, 0, none⟩ = some (.int .u16 x.1.idx) ∧ W.cell? ⟨p, 1, none⟩ = some (.int .u8 x.1.sub) ∧ W.cell? ⟨p, 2, none⟩ = some (.int .i64 x.1.acc) ∧ W.cell? ⟨p, 3, none⟩ = some (.bool x.1.mp) ∧ W.cell? ⟨p, 4, none⟩ = some (.bool x.1.lim) ∧ W.cell? ⟨p, 5, none⟩ = some (.int .i64 x.1.mn.ty) ∧ W.cell? ⟨p, 6, none⟩ = some (.int .u64 x.1.mn.n) ∧ W.cell? ⟨p, 7, none⟩ = some (.string (strB2 x.1.mn.b)) ∧ W.cell? ⟨p, 8, none⟩ = some (.int .i64 x.1.mx.ty) ∧ W.cell? ⟨p, 9, none⟩ = some (.int .u64 x.1.mx.n) ∧ W.cell? ⟨p, 10, none⟩ = some (.string (strB2 x.1.mx.b)) ∧ W.cell? ⟨p, 11, none⟩ = some (.int .i64 x.1.df.ty) ∧ W.cell? ⟨p, 12, none⟩ = some (.int .u64 x.1.df.n) ∧ W.cell? ⟨p, 13, none⟩ = some (.string (strB2 x.1.df.b))) := fun W hF => by
                  have kx := hF.1.heap HKX.out hpw
                  exact ⟨⟨hF.1.cell y0 (fun h => hgl h.symm), hF.1.cell y1 (fun h => hgl h.symm), hF.1.cell y2 (fun h => hgl h.symm)⟩, cell_at kx, cell_at kx, cell_at kx, cell_at kx, cell_at kx, cell_at kx, cell_at kx, cell_at kx, cell_at kx, cell_at kx, cell_at kx, cell_at kx, cell_at kx, cell_at kx⟩
                have HCC := Lib.hid hc
                clear hc
                go_wp2_with fail
                refine wp_region_held_drew (S := (fun W => Near w.heap.size wx W)) (by kernel_rfl) (Near.start KB.out) (fun hHeld => ?_)
                refine wpAnyH_take (i := 0) (v := ?_) rfl (by kernel_rfl) (by kernel_rfl) (by kernel_rfl) (fun _ _ _ h => h) (Or.inl ⟨by rfl, ?_⟩) (by assumption) ?_; rotate_left; · (intro wq hSq; have hq := HCC.out wq hSq; go_split_ands; go_simp; (try with_reducible rfl))
                try simp only [Act.put, getElem_toArray, getElem_cons_zero, getElem_cons_succ, setIfInBounds_toArray, set_cons_zero, set_cons_succ]
                refine wpAnyH_take (i := 1) (v := ?_) rfl (by kernel_rfl) (by kernel_rfl) (by kernel_rfl) (fun _ _ _ h => h) (Or.inl ⟨by rfl, ?_⟩) (by assumption) ?_; rotate_left; · (intro wq hSq; have hq := HCC.out wq hSq; go_split_ands; go_simp; (try with_reducible rfl))
                try simp only [Act.put, getElem_toArray, getElem_cons_zero, getElem_cons_succ, setIfInBounds_toArray, set_cons_zero, set_cons_succ]
                refine wpAnyH_take (i := 2) (v := ?_) rfl (by kernel_rfl) (by kernel_rfl) (by kernel_rfl) (fun _ _ _ h => h) (Or.inl ⟨by rfl, ?_⟩) (by assumption) ?_; rotate_left; · (intro wq hSq; have hq := HCC.out wq hSq; go_split_ands; go_simp; (try with_reducible rfl))
                try simp only [Act.put, getElem_toArray, getElem_cons_zero, getElem_cons_succ, setIfInBounds_toArray, set_cons_zero, set_cons_succ]
                refine wpAnyH_take (i := 3) (v := ?_) rfl (by kernel_rfl) (by kernel_rfl) (by kernel_rfl) (fun _ _ _ h => h) (Or.inl ⟨by rfl, ?_⟩) (by assumption) ?_; rotate_left; · (intro wq hSq; have hq := HCC.out wq hSq; go_split_ands; go_simp; (try with_reducible rfl))
                try simp only [Act.put, getElem_toArray, getElem_cons_zero, getElem_cons_succ, setIfInBounds_toArray, set_cons_zero, set_cons_succ]
                refine wpAnyH_take (i := 4) (v := ?_) rfl (by kernel_rfl) (by kernel_rfl) (by kernel_rfl) (fun _ _ _ h => h) (Or.inl ⟨by rfl, ?_⟩) (by assumption) ?_; rotate_left; · (intro wq hSq; have hq := HCC.out wq hSq; go_split_ands; go_simp; (try with_reducible rfl))
                try simp only [Act.put, getElem_toArray, getElem_cons_zero, getElem_cons_succ, setIfInBounds_toArray, set_cons_zero, set_cons_succ]
                refine wpAnyH_take (i := 5) (v := ?_) rfl (by kernel_rfl) (by kernel_rfl) (by kernel_rfl) (fun _ _ _ h => h) (Or.inl ⟨by rfl, ?_⟩) (by assumption) ?_; rotate_left; · (intro wq hSq; have hq := HCC.out wq hSq; go_split_ands; go_simp; (try with_reducible rfl))
                try simp only [Act.put, getElem_toArray, getElem_cons_zero, getElem_cons_succ, setIfInBounds_toArray, set_cons_zero, set_cons_succ]
                refine wpAnyH_take (i := 6) (v := ?_) rfl (by kernel_rfl) (by kernel_rfl) (by kernel_rfl) (fun _ _ _ h => h) (Or.inl ⟨by rfl, ?_⟩) (by assumption) ?_; rotate_left; · (intro wq hSq; have hq := HCC.out wq hSq; go_split_ands; go_simp; (try with_reducible rfl))
                try simp only [Act.put, getElem_toArray, getElem_cons_zero, getElem_cons_succ, setIfInBounds_toArray, set_cons_zero, set_cons_succ]
                refine wpAnyH_ready (rs := [7]) (by kernel_rfl) (by simp) ?_
                refine AllReadyH.cons rfl (fun K hK => ?_) AllReadyH.nil
                try simp only [getElem_toArray, getElem_cons_zero, getElem_cons_succ]
                go_simp
                refine (HWI.out dv _ HDV.out).mono ?_
                rintro e w3 ⟨rfl, hF3⟩
                go_wp2_with fail
                refine hK.out _ _ (hHeld.call hF3) (fun hHeld => ?_)
                clear hK K
                try simp only [Act.put, setIfInBounds_toArray, set_cons_zero, set_cons_succ]
                refine wpAnyH_take (i := 8) (v := ?_) rfl (by kernel_rfl) (by kernel_rfl) (by kernel_rfl) (fun _ _ _ h => h) (Or.inl ⟨by rfl, ?_⟩) (by assumption) ?_; rotate_left; · (intro wq hSq; have hq := HCC.out wq hSq; go_split_ands; go_simp; (try with_reducible rfl))
                try simp only [Act.put, getElem_toArray, getElem_cons_zero, getElem_cons_succ, setIfInBounds_toArray, set_cons_zero, set_cons_succ]
                obtain ⟨hN, c0, c1, c2, hc3⟩ := hHeld
                have n0 : w3.cell? ⟨w.heap.size, 0, none⟩ = some c0 := cell_at hc3
                have n1 : w3.cell? ⟨w.heap.size, 1, none⟩ = some c1 := cell_at hc3
                have n2 : w3.cell? ⟨w.heap.size, 2, none⟩ = some c2 := cell_at hc3
                have nf := frees hc3
                refine wpAnyH_ready (rs := [9]) (by kernel_rfl) (by simp) ?_
                refine AllReadyH.cons rfl (fun K hK => ?_) AllReadyH.nil
                try simp only [getElem_toArray, getElem_cons_zero, getElem_cons_succ]
                go_simp
                refine hK.out _ _ (⟨((hN.setCell (p := ⟨w.heap.size, 0, none⟩) (fun _ => rfl) _).setCell (p := ⟨w.heap.size, 1, none⟩) (fun _ => rfl) _).setCell (p := ⟨w.heap.size, 2, none⟩) (fun _ => rfl) _, _, _, _, store3 hc3⟩) (fun hHeld => ?_)
                clear hK K
                try simp only [Act.put, setIfInBounds_toArray, set_cons_zero, set_cons_succ]
                refine wpAnyH_take (i := 10) (v := ?_) rfl (by kernel_rfl) (by kernel_rfl) (by kernel_rfl) (fun _ _ _ h => h) (Or.inl ⟨by rfl, ?_⟩) (by assumption) ?_; rotate_left; · (intro wq hSq; have hq := HCC.out wq hSq; go_split_ands; go_simp; (try with_reducible rfl))
                try simp only [Act.put, getElem_toArray, getElem_cons_zero, getElem_cons_succ, setIfInBounds_toArray, set_cons_zero, set_cons_succ]
                refine wpAnyH_done (by kernel_rfl) ?_ _
                go_wp2_with fail
                refine bodyPost_ret (ret_v3 Tryz.results66 _ _ _ _ _ _ rfl (store3 hc3)) rfl ⟨⟨ptr p, dv, ?_, fun h0 => HX.out _ _ rfl ?_ ?_⟩, ?_⟩
                · rw [E.out, T.out]; rfl
                · rw [T.out]
                · rw [← E.out]; exact h0
                · exact HFX.out.trans hHeld.1 (fun i hi e => absurd (show i = w.heap.size from e) (by omega))
      · have a2 : x.1.acc = 2 := by omega
        have b1 : (x.1.acc != 1) = true := by simpa using a1
        have b2 : (x.1.acc != 2) = false := by simpa using a2
        clear ha a1 a2
        go_upto_region 7 with (go_at_call 93; refine (HDE.out _ HF.out).mono ?_; rintro e w2 ⟨rfl, hF2⟩; have k2 := hF2.heap K0.out (fun h => h); have g0 : w2.cell? ⟨w.heap.size, 0, none⟩ = some (.int .i64 0) := cell_at k2; have hF3 := HF.out.trans' hF2)
        have HKX : Hid (ItAt (w2.alloc (.cells #[.int .i64 dv.ty, .int .u64 dv.n, .string (strB2 dv.b)] 57)) p x) := (HIT.out.frm hF3 (fun h => h)).frm (S := fun _ => False) (by (repeat' (first | (with_reducible exact Frm.refl _ _) | (with_reducible assumption) | (with_reducible refine Frm.alloc ?_ _) | (with_reducible refine Frm.drew ?_) | (with_reducible refine Frm.drewN ?_ _) | (with_reducible refine Frm.set1 ?_ _) | (with_reducible refine Frm.setCell ?_ ?_ _) | (exact fun h => absurd h (Nat.lt_irrefl _)) | (intro hlt; simp [World.size_alloc, One] at hlt ⊢; omega)))) (fun h => h)
        have kb := heap_alloc_old (o := .cells #[.int .i64 dv.ty, .int .u64 dv.n, .string (strB2 dv.b)] 57) k2
        have kd := heap_new w2 (.cells #[.int .i64 dv.ty, .int .u64 dv.n, .string (strB2 dv.b)] 57)
        have hFx : Frm (fun _ => False) w (w2.alloc (.cells #[.int .i64 dv.ty, .int .u64 dv.n, .string (strB2 dv.b)] 57)) := by (repeat' (first | (with_reducible exact Frm.refl _ _) | (with_reducible assumption) | (with_reducible refine Frm.alloc ?_ _) | (with_reducible refine Frm.drew ?_) | (with_reducible refine Frm.drewN ?_ _) | (with_reducible refine Frm.set1 ?_ _) | (with_reducible refine Frm.setCell ?_ ?_ _) | (exact fun h => absurd h (Nat.lt_irrefl _)) | (intro hlt; simp [World.size_alloc, One] at hlt ⊢; omega)))
        clear i0 i1 i2 i3 i4 i5 i6 i7 i8 i9 i10 i11 i12 i13 z0 z1 z2 f0 l0 g0 hF3 hF2
        have hgl : w.heap.size ≠ w2.heap.size := by have := lt_of_block k2; omega
        clear k2
        generalize w2.heap.size = gd at *
        generalize w2.alloc (.cells #[.int .i64 dv.ty, .int .u64 dv.n, .string (strB2 dv.b)] 57) = wx at *
        have HFX := Lib.hid hFx
        have KB := Lib.hid kb
        clear hFx
        have z0 : wx.cell? ⟨w.heap.size, 0, none⟩ = some (.int .i64 0) := cell_at kb
        have z1 : wx.cell? ⟨w.heap.size, 1, none⟩ = some (.int .u64 0) := cell_at kb
        have z2 : wx.cell? ⟨w.heap.size, 2, none⟩ = some (.string ⟨#[]⟩) := cell_at kb
        have f0 := frees kb
        have y0 : wx.cell? ⟨gd, 0, none⟩ = some (.int .i64 dv.ty) := cell_at kd
        have y1 : wx.cell? ⟨gd, 1, none⟩ = some (.int .u64 dv.n) := cell_at kd
        have y2 : wx.cell? ⟨gd, 2, none⟩ = some (.string (strB2 dv.b)) := cell_at kd
        have ki := HKX.out
        have i4 : wx.cell? ⟨p, 4, none⟩ = some (.bool x.1.lim) := cell_at ki
        clear kb kd ki
        by_cases d3 : de = 3
        · subst d3
          have T : Hid (tk = (codeShort, dv)) := by unfold Hid; rw [HTK.out, if_pos rfl]
          clear HTK
          go_wp2_with fail
          refine wp_region_held_drew (S := (fun w' => w'.cell? ⟨gd, 0, none⟩ = some (.int .i64 dv.ty) ∧ w'.cell? ⟨gd, 1, none⟩ = some (.int .u64 dv.n) ∧ w'.cell? ⟨gd, 2, none⟩ = some (.string (strB2 dv.b)))) (by kernel_rfl) (⟨by go_simp, by go_simp, by go_simp⟩) (fun hHeld => ?_)
          refine wpAnyH_take (i := 0) (v := ?_) rfl (by kernel_rfl) (by kernel_rfl) (by kernel_rfl) (fun _ _ _ h => h) (Or.inl ⟨by rfl, ?_⟩) (by assumption) ?_; rotate_left; · (intro wq hSq; (try dsimp only at hSq); go_split_ands; go_simp; (try with_reducible rfl))
          try simp only [Act.put, getElem_toArray, getElem_cons_zero, getElem_cons_succ, setIfInBounds_toArray, set_cons_zero, set_cons_succ]
          refine wpAnyH_take (i := 1) (v := ?_) rfl (by kernel_rfl) (by kernel_rfl) (by kernel_rfl) (fun _ _ _ h => h) (Or.inl ⟨by rfl, ?_⟩) (by assumption) ?_; rotate_left; · (intro wq hSq; (try dsimp only at hSq); go_split_ands; go_simp; (try with_reducible rfl))
          try simp only [Act.put, getElem_toArray, getElem_cons_zero, getElem_cons_succ, setIfInBounds_toArray, set_cons_zero, set_cons_succ]
          refine wpAnyH_ready (rs := [2]) (by kernel_rfl) (by simp) ?_
          refine AllReadyH.cons rfl (fun K hK => ?_) AllReadyH.nil
          try simp only [getElem_toArray, getElem_cons_zero, getElem_cons_succ]
          go_simp
          refine hK.out _ _ (⟨by go_simp, by go_simp, by go_simp⟩) (fun hHeld => ?_)
          clear hK K
          try simp only [Act.put, setIfInBounds_toArray, set_cons_zero, set_cons_succ]
          refine wpAnyH_take (i := 3) (v := ?_) rfl (by kernel_rfl) (by kernel_rfl) (by kernel_rfl) (fun _ _ _ h => h) (Or.inl ⟨by rfl, ?_⟩) (by assumption) ?_; rotate_left; · (intro wq hSq; (try dsimp only at hSq); go_split_ands; go_simp; (try with_reducible rfl))
          try simp only [Act.put, getElem_toArray, getElem_cons_zero, getElem_cons_succ, setIfInBounds_toArray, set_cons_zero, set_cons_succ]
          refine wpAnyH_done (by kernel_rfl) ?_ _
          go_wp2_with fail
          refine bodyPost_ret (ret_v3 Tryz.results66 _ _ _ _ _ _ rfl (store3 (by simpa [World.drew] using KB.out))) rfl ⟨⟨.pointer none, dv, ?_, ?_⟩, ?_⟩
          · rw [E.out, T.out]; rfl
          · intro h0; rw [E.out, T.out] at h0; exact absurd (show codeShort = 0 from h0) (by decide)
          · have hf : Frm (fun _ => False) w wx := HFX.out
            (repeat' (first | (with_reducible exact Frm.refl _ _) | (with_reducible assumption) | (with_reducible refine Frm.alloc ?_ _) | (with_reducible refine Frm.drew ?_) | (with_reducible refine Frm.drewN ?_ _) | (with_reducible refine Frm.set1 ?_ _) | (with_reducible refine Frm.setCell ?_ ?_ _) | (exact fun h => absurd h (Nat.lt_irrefl _)) | (intro hlt; simp [World.size_alloc, One] at hlt ⊢; omega)))
        · rw [if_neg d3] at HTK
          have e3 : (de == 3) = false := by simpa using d3
          by_cases d2 : de = 2
          · subst d2
            have T : Hid (tk = (codeLong, dv)) := by unfold Hid; rw [HTK.out, if_pos rfl]
            clear HTK d3
            go_wp2_with fail
            refine wp_region_held_drew (S := (fun w' => w'.cell? ⟨gd, 0, none⟩ = some (.int .i64 dv.ty) ∧ w'.cell? ⟨gd, 1, none⟩ = some (.int .u64 dv.n) ∧ w'.cell? ⟨gd, 2, none⟩ = some (.string (strB2 dv.b)))) (by kernel_rfl) (⟨by go_simp, by go_simp, by go_simp⟩) (fun hHeld => ?_)
            refine wpAnyH_take (i := 0) (v := ?_) rfl (by kernel_rfl) (by kernel_rfl) (by kernel_rfl) (fun _ _ _ h => h) (Or.inl ⟨by rfl, ?_⟩) (by assumption) ?_; rotate_left; · (intro wq hSq; (try dsimp only at hSq); go_split_ands; go_simp; (try with_reducible rfl))
            try simp only [Act.put, getElem_toArray, getElem_cons_zero, getElem_cons_succ, setIfInBounds_toArray, set_cons_zero, set_cons_succ]
            refine wpAnyH_take (i := 1) (v := ?_) rfl (by kernel_rfl) (by kernel_rfl) (by kernel_rfl) (fun _ _ _ h => h) (Or.inl ⟨by rfl, ?_⟩) (by assumption) ?_; rotate_left; · (intro wq hSq; (try dsimp only at hSq); go_split_ands; go_simp; (try with_reducible rfl))
            try simp only [Act.put, getElem_toArray, getElem_cons_zero, getElem_cons_succ, setIfInBounds_toArray, set_cons_zero, set_cons_succ]
            refine wpAnyH_ready (rs := [2]) (by kernel_rfl) (by simp) ?_
            refine AllReadyH.cons rfl (fun K hK => ?_) AllReadyH.nil
            try simp only [getElem_toArray, getElem_cons_zero, getElem_cons_succ]
            go_simp
            refine hK.out _ _ (⟨by go_simp, by go_simp, by go_simp⟩) (fun hHeld => ?_)
            clear hK K
            try simp only [Act.put, setIfInBounds_toArray, set_cons_zero, set_cons_succ]
            refine wpAnyH_take (i := 3) (v := ?_) rfl (by kernel_rfl) (by kernel_rfl) (by kernel_rfl) (fun _ _ _ h => h) (Or.inl ⟨by rfl, ?_⟩) (by assumption) ?_; rotate_left; · (intro wq hSq; (try dsimp only at hSq); go_split_ands; go_simp; (try with_reducible rfl))
            try simp only [Act.put, getElem_toArray, getElem_cons_zero, getElem_cons_succ, setIfInBounds_toArray, set_cons_zero, set_cons_succ]
            refine wpAnyH_done (by kernel_rfl) ?_ _
            go_wp2_with fail
            refine bodyPost_ret (ret_v3 Tryz.results66 _ _ _ _ _ _ rfl (store3 (by simpa [World.drew] using KB.out))) rfl ⟨⟨.pointer none, dv, ?_, ?_⟩, ?_⟩
            · rw [E.out, T.out]; rfl
            · intro h0; rw [E.out, T.out] at h0; exact absurd (show codeLong = 0 from h0) (by decide)
            · have hf : Frm (fun _ => False) w wx := HFX.out
              (repeat' (first | (with_reducible exact Frm.refl _ _) | (with_reducible assumption) | (with_reducible refine Frm.alloc ?_ _) | (with_reducible refine Frm.drew ?_) | (with_reducible refine Frm.drewN ?_ _) | (with_reducible refine Frm.set1 ?_ _) | (with_reducible refine Frm.setCell ?_ ?_ _) | (exact fun h => absurd h (Nat.lt_irrefl _)) | (intro hlt; simp [World.size_alloc, One] at hlt ⊢; omega)))
          · rw [if_neg d2] at HTK
            have e2 : (de == 2) = false := by simpa using d2
            by_cases d0 : de = 0
            case neg =>
              have e0 : (de == 0) = false := by simpa using d0
              have T : Hid (tk = (codeBad, dv)) := by unfold Hid; rw [HTK.out, if_pos d0]
              clear HTK d3 d2 d0
              go_wp2_with fail
              refine wp_region_held_drew (S := (fun w' => w'.cell? ⟨gd, 0, none⟩ = some (.int .i64 dv.ty) ∧ w'.cell? ⟨gd, 1, none⟩ = some (.int .u64 dv.n) ∧ w'.cell? ⟨gd, 2, none⟩ = some (.string (strB2 dv.b)))) (by kernel_rfl) (⟨by go_simp, by go_simp, by go_simp⟩) (fun hHeld => ?_)
              refine wpAnyH_take (i := 0) (v := ?_) rfl (by kernel_rfl) (by kernel_rfl) (by kernel_rfl) (fun _ _ _ h => h) (Or.inl ⟨by rfl, ?_⟩) (by assumption) ?_; rotate_left; · (intro wq hSq; (try dsimp only at hSq); go_split_ands; go_simp; (try with_reducible rfl))
              try simp only [Act.put, getElem_toArray, getElem_cons_zero, getElem_cons_succ, setIfInBounds_toArray, set_cons_zero, set_cons_succ]
              refine wpAnyH_take (i := 1) (v := ?_) rfl (by kernel_rfl) (by kernel_rfl) (by kernel_rfl) (fun _ _ _ h => h) (Or.inl ⟨by rfl, ?_⟩) (by assumption) ?_; rotate_left; · (intro wq hSq; (try dsimp only at hSq); go_split_ands; go_simp; (try with_reducible rfl))
              try simp only [Act.put, getElem_toArray, getElem_cons_zero, getElem_cons_succ, setIfInBounds_toArray, set_cons_zero, set_cons_succ]
              refine wpAnyH_ready (rs := [2]) (by kernel_rfl) (by simp) ?_
              refine AllReadyH.cons rfl (fun K hK => ?_) AllReadyH.nil
              try simp only [getElem_toArray, getElem_cons_zero, getElem_cons_succ]
              go_simp
              refine hK.out _ _ (⟨by go_simp, by go_simp, by go_simp⟩) (fun hHeld => ?_)
              clear hK K
              try simp only [Act.put, setIfInBounds_toArray, set_cons_zero, set_cons_succ]
              refine wpAnyH_take (i := 3) (v := ?_) rfl (by kernel_rfl) (by kernel_rfl) (by kernel_rfl) (fun _ _ _ h => h) (Or.inl ⟨by rfl, ?_⟩) (by assumption) ?_; rotate_left; · (intro wq hSq; (try dsimp only at hSq); go_split_ands; go_simp; (try with_reducible rfl))
              try simp only [Act.put, getElem_toArray, getElem_cons_zero, getElem_cons_succ, setIfInBounds_toArray, set_cons_zero, set_cons_succ]
              refine wpAnyH_done (by kernel_rfl) ?_ _
              go_wp2_with fail
              refine bodyPost_ret (ret_v3 Tryz.results66 _ _ _ _ _ _ rfl (store3 (by simpa [World.drew] using KB.out))) rfl ⟨⟨.pointer none, dv, ?_, ?_⟩, ?_⟩
              · rw [E.out, T.out]; rfl
              · intro h0; rw [E.out, T.out] at h0; exact absurd (show codeBad = 0 from h0) (by decide)
              · have hf : Frm (fun _ => False) w wx := HFX.out
                (repeat' (first | (with_reducible exact Frm.refl _ _) | (with_reducible assumption) | (with_reducible refine Frm.alloc ?_ _) | (with_reducible refine Frm.drew ?_) | (with_reducible refine Frm.drewN ?_ _) | (with_reducible refine Frm.set1 ?_ _) | (with_reducible refine Frm.setCell ?_ ?_ _) | (exact fun h => absurd h (Nat.lt_irrefl _)) | (intro hlt; simp [World.size_alloc, One] at hlt ⊢; omega)))
            case pos =>
              subst d0
              rw [if_neg (by decide)] at HTK
              clear d3 d2 e2 e3
              cases hlm : x.1.lim
              · rw [hlm] at i4 HTK
                have T : Hid (tk = (0, dv)) := by unfold Hid; rw [HTK.out, if_neg (by decide)]
                clear HTK hlm
                go_wp2_with fail
                refine wp_region_held_drew (S := (fun w' => w'.cell? ⟨gd, 0, none⟩ = some (.int .i64 dv.ty) ∧ w'.cell? ⟨gd, 1, none⟩ = some (.int .u64 dv.n) ∧ w'.cell? ⟨gd, 2, none⟩ = some (.string (strB2 dv.b)))) (by kernel_rfl) (⟨by go_simp, by go_simp, by go_simp⟩) (fun hHeld => ?_)
                refine wpAnyH_take (i := 0) (v := ?_) rfl (by kernel_rfl) (by kernel_rfl) (by kernel_rfl) (fun _ _ _ h => h) (Or.inl ⟨by rfl, ?_⟩) (by assumption) ?_; rotate_left; · (intro wq hSq; (try dsimp only at hSq); go_split_ands; go_simp; (try with_reducible rfl))
                try simp only [Act.put, getElem_toArray, getElem_cons_zero, getElem_cons_succ, setIfInBounds_toArray, set_cons_zero, set_cons_succ]
                refine wpAnyH_take (i := 1) (v := ?_) rfl (by kernel_rfl) (by kernel_rfl) (by kernel_rfl) (fun _ _ _ h => h) (Or.inl ⟨by rfl, ?_⟩) (by assumption) ?_; rotate_left; · (intro wq hSq; (try dsimp only at hSq); go_split_ands; go_simp; (try with_reducible rfl))
                try simp only [Act.put, getElem_toArray, getElem_cons_zero, getElem_cons_succ, setIfInBounds_toArray, set_cons_zero, set_cons_succ]
                refine wpAnyH_take (i := 2) (v := ?_) rfl (by kernel_rfl) (by kernel_rfl) (by kernel_rfl) (fun _ _ _ h => h) (Or.inl ⟨by rfl, ?_⟩) (by assumption) ?_; rotate_left; · (intro wq hSq; (try dsimp only at hSq); go_split_ands; go_simp; (try with_reducible rfl))
                try simp only [Act.put, getElem_toArray, getElem_cons_zero, getElem_cons_succ, setIfInBounds_toArray, set_cons_zero, set_cons_succ]
                refine wpAnyH_ready (rs := [3]) (by kernel_rfl) (by simp) ?_
                refine AllReadyH.cons rfl (fun K hK => ?_) AllReadyH.nil
                try simp only [getElem_toArray, getElem_cons_zero, getElem_cons_succ]
                go_simp
                refine hK.out _ _ (⟨by go_simp, by go_simp, by go_simp⟩) (fun hHeld => ?_)
                clear hK K
                try simp only [Act.put, setIfInBounds_toArray, set_cons_zero, set_cons_succ]
                refine wpAnyH_take (i := 4) (v := ?_) rfl (by kernel_rfl) (by kernel_rfl) (by kernel_rfl) (fun _ _ _ h => h) (Or.inl ⟨by rfl, ?_⟩) (by assumption) ?_; rotate_left; · (intro wq hSq; (try dsimp only at hSq); go_split_ands; go_simp; (try with_reducible rfl))
                try simp only [Act.put, getElem_toArray, getElem_cons_zero, getElem_cons_succ, setIfInBounds_toArray, set_cons_zero, set_cons_succ]
                refine wpAnyH_done (by kernel_rfl) ?_ _
                go_wp2_with fail
                refine bodyPost_ret (ret_v3 Tryz.results66 _ _ _ _ _ _ rfl (store3 (by simpa [World.drew] using KB.out))) rfl ⟨⟨ptr p, dv, ?_, fun h0 => HX.out _ _ rfl ?_ ?_⟩, ?_⟩
                · rw [E.out, T.out]; rfl
                · rw [T.out]
                · rw [T.out]
                · have hf : Frm (fun _ => False) w wx := HFX.out
                  (repeat' (first | (with_reducible exact Frm.refl _ _) | (with_reducible assumption) | (with_reducible refine Frm.alloc ?_ _) | (with_reducible refine Frm.drew ?_) | (with_reducible refine Frm.drewN ?_ _) | (with_reducible refine Frm.set1 ?_ _) | (with_reducible refine Frm.setCell ?_ ?_ _) | (exact fun h => absurd h (Nat.lt_irrefl _)) | (intro hlt; simp [World.size_alloc, One] at hlt ⊢; omega)))
              · rw [hlm] at i4 HTK
                have T : Hid (tk = (withinC x.1 dv, dv)) := by unfold Hid; rw [HTK.out, if_pos rfl]
                clear HTK hlm
                have hpw : p ≠ w.heap.size := block_ne HKX.out KB.out (by decide)
                have hc : ∀ W, Near w.heap.size wx W → (W.cell? ⟨gd, 0, none⟩ = some (.int .i64 dv.ty) ∧ W.cell? ⟨gd, 1, none⟩ = some (.int .u64 dv.n) ∧ W.cell? ⟨gd, 2, none⟩ = some (.string (strB2 dv.b))) ∧ (W.cell? ⟨p, 0, none⟩ = some (.int .u16 x.1.idx) ∧ W.cell? ⟨p, 1, none⟩ = some (.int .u8 x.1.sub) ∧ W.cell? ⟨p, 2, none⟩ = some (.int .i64 x.1.acc) ∧ W.cell? ⟨p, 3, none⟩ = some (.bool x.1.mp) ∧ W.cell? ⟨p, 4, none⟩ = some (.bool x.1.lim) ∧ W.cell? ⟨p, 5, none⟩ = some (.int .i64 x.1.mn.ty) ∧ W.cell? ⟨p, 6, none⟩ = some (.int .u64 x.1.mn.n) ∧ W.cell? ⟨p, 7, none⟩ = some (.string (strB2 x.1.mn.b)) ∧ W.cell? ⟨p, 8, none⟩ = some (.int .i64 x.1.mx.ty) ∧ W.cell? ⟨p, 9, none⟩ = some (.int .u64 x.1.mx.n) ∧ W.cell? ⟨p, 10, none⟩ = some (.string (strB2 x.1.mx.b)) ∧ W.cell? ⟨p, 11, none⟩ = some (.int .i64 x.1.df.ty) ∧ W.cell? ⟨p, 12, none⟩ = some (.int .u64 x.1.df.n) ∧ W.cell? ⟨p, 13, none⟩ = some (.string (strB2 x.1.df.b))) := fun W hF => by
                  have kx := hF.1.heap HKX.out hpw
                  exact ⟨⟨hF.1.cell y0 (fun h => hgl h.symm), hF.1.cell y1 (fun h => hgl h.symm), hF.1.cell y2 (fun h => hgl h.symm)⟩, cell_at kx, cell_at kx, cell_at kx, cell_at kx, cell_at kx, cell_at kx, cell_at kx, cell_at kx, cell_at kx, cell_at kx, cell_at kx, cell_at kx, cell_at kx, cell_at kx⟩
                have HCC := Lib.hid hc
                clear hc
                go_wp2_with fail
                refine wp_region_held_drew (S := (fun W => Near w.heap.size wx W)) (by kernel_rfl) (Near.start KB.out) (fun hHeld => ?_)
                refine wpAnyH_take (i := 0) (v := ?_) rfl (by kernel_rfl) (by kernel_rfl) (by kernel_rfl) (fun _ _ _ h => h) (Or.inl ⟨by rfl, ?_⟩) (by assumption) ?_; rotate_left; · (intro wq hSq; have hq := HCC.out wq hSq; go_split_ands; go_simp; (try with_reducible rfl))
                try simp only [Act.put, getElem_toArray, getElem_cons_zero, getElem_cons_succ, setIfInBounds_toArray, set_cons_zero, set_cons_succ]
                refine wpAnyH_take (i := 1) (v := ?_) rfl (by kernel_rfl) (by kernel_rfl) (by kernel_rfl) (fun _ _ _ h => h) (Or.inl ⟨by rfl, ?_⟩) (by assumption) ?_; rotate_left; · (intro wq hSq; have hq := HCC.out wq hSq; go_split_ands; go_simp; (try with_reducible rfl))
                try simp only [Act.put, getElem_toArray, getElem_cons_zero, getElem_cons_succ, setIfInBounds_toArray, set_cons_zero, set_cons_succ]
                refine wpAnyH_take (i := 2) (v := ?_) rfl (by kernel_rfl) (by kernel_rfl) (by kernel_rfl) (fun _ _ _ h => h) (Or.inl ⟨by rfl, ?_⟩) (by assumption) ?_; rotate_left; · (intro wq hSq; have hq := HCC.out wq hSq; go_split_ands; go_simp; (try with_reducible rfl))
                try simp only [Act.put, getElem_toArray, getElem_cons_zero, getElem_cons_succ, setIfInBounds_toArray, set_cons_zero, set_cons_succ]
                refine wpAnyH_take (i := 3) (v := ?_) rfl (by kernel_rfl) (by kernel_rfl) (by kernel_rfl) (fun _ _ _ h => h) (Or.inl ⟨by rfl, ?_⟩) (by assumption) ?_; rotate_left; · (intro wq hSq; have hq := HCC.out wq hSq; go_split_ands; go_simp; (try with_reducible rfl))
                try simp only [Act.put, getElem_toArray, getElem_cons_zero, getElem_cons_succ, setIfInBounds_toArray, set_cons_zero, set_cons_succ]
                refine wpAnyH_take (i := 4) (v := ?_) rfl (by kernel_rfl) (by kernel_rfl) (by kernel_rfl) (fun _ _ _ h => h) (Or.inl ⟨by rfl, ?_⟩) (by assumption) ?_; rotate_left; · (intro wq hSq; have hq := HCC.out wq hSq; go_split_ands; go_simp; (try with_reducible rfl))
                try simp only [Act.put, getElem_toArray, getElem_cons_zero, getElem_cons_succ, setIfInBounds_toArray, set_cons_zero, set_cons_succ]
                refine wpAnyH_take (i := 5) (v := ?_) rfl (by kernel_rfl) (by kernel_rfl) (by kernel_rfl) (fun _ _ _ h => h) (Or.inl ⟨by rfl, ?_⟩) (by assumption) ?_; rotate_left; · (intro wq hSq; have hq := HCC.out wq hSq; go_split_ands; go_simp; (try with_reducible rfl))
                try simp only [Act.put, getElem_toArray, getElem_cons_zero, getElem_cons_succ, setIfInBounds_toArray, set_cons_zero, set_cons_succ]
                refine wpAnyH_take (i := 6) (v := ?_) rfl (by kernel_rfl) (by kernel_rfl) (by kernel_rfl) (fun _ _ _ h => h) (Or.inl ⟨by rfl, ?_⟩) (by assumption) ?_; rotate_left; · (intro wq hSq; have hq := HCC.out wq hSq; go_split_ands; go_simp; (try with_reducible rfl))
                try simp only [Act.put, getElem_toArray, getElem_cons_zero, getElem_cons_succ, setIfInBounds_toArray, set_cons_zero, set_cons_succ]
                refine wpAnyH_ready (rs := [7]) (by kernel_rfl) (by simp) ?_
                refine AllReadyH.cons rfl (fun K hK => ?_) AllReadyH.nil
                try simp only [getElem_toArray, getElem_cons_zero, getElem_cons_succ]
                go_simp
                refine (HWI.out dv _ HDV.out).mono ?_
                rintro e w3 ⟨rfl, hF3⟩
                go_wp2_with fail
                refine hK.out _ _ (hHeld.call hF3) (fun hHeld => ?_)
                clear hK K
                try simp only [Act.put, setIfInBounds_toArray, set_cons_zero, set_cons_succ]
                refine wpAnyH_take (i := 8) (v := ?_) rfl (by kernel_rfl) (by kernel_rfl) (by kernel_rfl) (fun _ _ _ h => h) (Or.inl ⟨by rfl, ?_⟩) (by assumption) ?_; rotate_left; · (intro wq hSq; have hq := HCC.out wq hSq; go_split_ands; go_simp; (try with_reducible rfl))
                try simp only [Act.put, getElem_toArray, getElem_cons_zero, getElem_cons_succ, setIfInBounds_toArray, set_cons_zero, set_cons_succ]
                obtain ⟨hN, c0, c1, c2, hc3⟩ := hHeld
                have n0 : w3.cell? ⟨w.heap.size, 0, none⟩ = some c0 := cell_at hc3
                have n1 : w3.cell? ⟨w.heap.size, 1, none⟩ = some c1 := cell_at hc3
                have n2 : w3.cell? ⟨w.heap.size, 2, none⟩ = some c2 := cell_at hc3
                have nf := frees hc3
                refine wpAnyH_ready (rs := [9]) (by kernel_rfl) (by simp) ?_
                refine AllReadyH.cons rfl (fun K hK => ?_) AllReadyH.nil
                try simp only [getElem_toArray, getElem_cons_zero, getElem_cons_succ]
                go_simp
                refine hK.out _ _ (⟨((hN.setCell (p := ⟨w.heap.size, 0, none⟩) (fun _ => rfl) _).setCell (p := ⟨w.heap.size, 1, none⟩) (fun _ => rfl) _).setCell (p := ⟨w.heap.size, 2, none⟩) (fun _ => rfl) _, _, _, _, store3 hc3⟩) (fun hHeld => ?_)
                clear hK K
                try simp only [Act.put, setIfInBounds_toArray, set_cons_zero, set_cons_succ]
                refine wpAnyH_take (i := 10) (v := ?_) rfl (by kernel_rfl) (by kernel_rfl) (by kernel_rfl) (fun _ _ _ h => h) (Or.inl ⟨by rfl, ?_⟩) (by assumption) ?_; rotate_left; · (intro wq hSq; have hq := HCC.out wq hSq; go_split_ands; go_simp; (try with_reducible rfl))
                try simp only [Act.put, getElem_toArray, getElem_cons_zero, getElem_cons_succ, setIfInBounds_toArray, set_cons_zero, set_cons_succ]
                refine wpAnyH_done (by kernel_rfl) ?_ _
                go_wp2_with fail
                refine bodyPost_ret (ret_v3 Tryz.results66 _ _ _ _ _ _ rfl (store3 hc3)) rfl ⟨⟨ptr p, dv, ?_, fun h0 => HX.out _ _ rfl ?_ ?_⟩, ?_⟩
                · rw [E.out, T.out]; rfl
                · rw [T.out]
                · rw [← E.out]; exact h0
                · exact HFX.out.trans hHeld.1 (fun i hi e => absurd (show i = w.heap.size from e) (by omega))
  · have E : Hid (mayD (im l) i s bs = findC (im l) i s) := by
      unfold Hid mayD
      rw [hfd]
    have hne2 := Lib.hid hne
    have hb : (findC (im l) i s != 0) = true := by simpa using hne
    generalize findC (im l) i s = c at *
    clear hfd hne
    go_wp2_with fail
    refine bodyPost_ret (ret_v3 Tryz.results66 _ _ _ _ _ _ rfl (store3 K0.out)) rfl ⟨⟨.pointer none, .zero, ?_, ?_⟩, ?_⟩
    · rw [E.out]; rfl
    · intro h0; rw [E.out] at h0; exact absurd h0 hne2.out
    · have hf : Frm (fun _ => False) w w1 := HF.out
      (repeat' (first | (with_reducible exact Frm.refl _ _) | (with_reducible assumption) | (with_reducible refine Frm.alloc ?_ _) | (with_reducible refine Frm.drew ?_) | (with_reducible refine Frm.drewN ?_ _) | (with_reducible refine Frm.set1 ?_ _) | (with_reducible refine Frm.setCell ?_ ?_ _) | (exact fun h => absurd h (Nat.lt_irrefl _)) | (intro hlt; simp [World.size_alloc, One] at hlt ⊢; omega)))
end Go.Proofs.YtemjdmgfilbfaaaGreat
