/-
  May, Write. Save. lives. OdLimits: the plain law. A call of the law's, and entries, as they lie in memory. Plain: a dictionary of entries from the back is the same one. Set. List.
-/
import Derived.Test.YtemjdmgfilbfaaaM850510c2
set_option linter.unusedVariables false
set_option linter.unusedSimpArgs false
namespace Go.Proofs.Ytemjdmgfilbfaaa
open Go.RowKit
set_option linter.unusedVariables false

theorem DAt.upd {w w' : World} {b k : Nat} {l : List (Nat × Im)} (h : DAt w b l) (hk : k < l.length) (x' : Im) (hF : Frm (One l[k].1) w w') (hp : ItAt w' l[k].1 x') : DAt w' b (l.set k (l[k].1, x')) := by
  obtain ⟨v, hO, hr⟩ := h.row
  have hx := h.el _ (List.getElem_mem hk)
  have hm : (l.set k (l[k].1, x')).map (fun q => ptr q.1) = l.map fun q => ptr q.1 := by
    apply List.ext_getElem (by simp)
    intro i h1 h2
    by_cases e : k = i
    · subst e; simp
    · simp [e]
  have hm2 : (l.set k (l[k].1, x')).map (·.1) = l.map (·.1) := by
    apply List.ext_getElem (by simp)
    intro i h1 h2
    by_cases e : k = i
    · subst e; simp
    · simp [e]
  refine ⟨⟨v, hF.heap hO (fun e => ?_), ?_⟩, ?_, ?_, ?_⟩
  · have e : b = l[k].1 := e
    exact block_ne hx hO (by decide) e.symm
  · rw [List.length_set, hm]
    refine hF.row hr fun j hj e => ?_
    have e : j = l[k].1 := e
    obtain ⟨_, cur, hc⟩ := row_block hr hj
    exact block_ne hx hc (by decide) e.symm
  · intro q hq
    obtain ⟨j, hj, rfl⟩ := List.getElem_of_mem hq
    have hj' : j < l.length := by simpa using hj
    by_cases e : k = j
    · subst e; simpa using hp
    · rw [List.getElem_set_ne e]
      refine (h.el _ (List.getElem_mem hj')).frm hF fun e2 => e ?_
      have e2 : l[j].1 = l[k].1 := e2
      exact (nodup_at h.nd (i := k) (k := j) (by simpa using hk) (by simpa using hj') (by simpa using e2.symm))
  · rw [hm2]; exact h.nd
  · intro q hq
    rcases List.mem_or_eq_of_mem_set hq with hq | rfl
    · exact h.lo q hq
    · exact (h.lo l[k] (List.getElem_mem hk) : b ≤ l[k].1)
theorem upd_im {l : List (Nat × Im)} {k : Nat} (hk : k < l.length) (x' : Im) : im (l.set k (l[k].1, x')) = (im l).set k x' := by simp [im, List.map_set]
theorem upd_fst {l : List (Nat × Im)} {k : Nat} (hk : k < l.length) (x' : Im) : (l.set k (l[k].1, x')).map (·.1) = l.map (·.1) := by
  apply List.ext_getElem (by simp)
  intro i h1 h2
  by_cases e : k = i
  · subst e; simp
  · simp [e]
theorem take_ok (x : En) (b : List UInt8) : (takeE x b).2.ok := by
  have hz : Va.zero.ok := by simp [Va.zero, Va.ok, two64]
  have hd := decV_ok x.df.ty b
  unfold takeE
  repeat' split
  all_goals first | exact hz | exact hd
theorem DOk.upd {d : List Im} (h : DOk d) {k : Nat} (hk : k < d.length) (v : Va) (hv : v.ok) : DOk (d.set k (d[k].1, v)) := by
  refine ⟨?_, fun x hx => ?_, by simpa using h.len⟩
  · rw [List.pairwise_iff_getElem]
    intro i j h1 h2 hij
    have h3 := List.pairwise_iff_getElem.1 h.srt i j (by simpa using h1) (by simpa using h2) hij
    rw [List.getElem_set, List.getElem_set]
    split
    · rename_i e; subst e
      rw [if_neg (by omega)]; exact h3
    · split
      · rename_i e; subst e; exact h3
      · exact h3
  · rcases List.mem_or_eq_of_mem_set hx with hx | rfl
    · exact h.ok x hx
    · exact ⟨(h.ok _ (List.getElem_mem hk)).1, hv⟩
theorem DOk.write {d : List Im} (h : DOk d) (i s : Int) (b : List UInt8) : DOk (writeD d i s b) := by
  unfold writeD
  split
  · exact h
  · split
    · exact h
    · rename_i k hf x hx
      split
      · obtain ⟨hk, rfl⟩ := List.getElem?_eq_some_iff.1 hx
        exact h.upd hk _ (take_ok _ _)
      · exact h

theorem odMay_any (b : Nat) (l : List (Nat × Im)) (i s : Int) (v : Value) (bs : List UInt8) (w : World) (h : DAt w b l) (hd : DOk (im l)) (hs : 0 ≤ s ∧ s ≤ 255) (hv : BytesAt w v bs) (hl : bs.length ≤ 140737488351232) :
    Calls Try.prog 54 #[ptr b, .int .u16 i, .int .u8 s, v] w fun e w' => e = .returned (.int .u32 (mayD (im l) i s bs)) ∧ Frm (fun _ => False) w w' := by
  have HM := Lib.hid (odmay_any b l i s v bs w h hd hs hv hl)
  obtain ⟨A, cap, rfl, _⟩ := hv
  clear h hd hs hl
  unfold ptr at HM
  unfold ptr
  go_enter Try.func54, Try.ntmps54
  go_wp2_with fail
  refine HM.out.mono ?_
  rintro e w1 ⟨⟨p, v, rfl, -⟩, hF⟩
  go_wp2_with fail
  go_ret
  exact ⟨rfl, by (repeat' (first | (with_reducible exact Frm.refl _ _) | (with_reducible assumption) | (with_reducible refine Frm.alloc ?_ _) | (with_reducible refine Frm.drew ?_) | (with_reducible refine Frm.drewN ?_ _) | (with_reducible refine Frm.set1 ?_ _) | (with_reducible refine Frm.setCell ?_ ?_ _) | (exact fun h => absurd h (Nat.lt_irrefl _)) | (intro hlt; simp [World.size_alloc, One] at hlt ⊢; omega)))⟩

def WriteP (b : Nat) (l : List (Nat × Im)) (i s : Int) (bs : List UInt8) (w : World) (e : Ending) (w' : World) : Prop :=
  e = .returned (.int .u32 (mayD (im l) i s bs)) ∧ ∃ l', DAt w' b l' ∧ im l' = writeD (im l) i s bs ∧ l'.map (·.1) = l.map (·.1) ∧ Frm (fun j => ∃ q ∈ l, j = q.1) w w'

theorem store17 {w : World} {g : Nat} {x : Im} (v : Va) (h : ItAt w g x) : ItAt (((w.setCell ⟨g, 14, none⟩ (.int .i64 v.ty)).setCell ⟨g, 15, none⟩ (.int .u64 v.n)).setCell ⟨g, 16, none⟩ (.string (strB2 v.b))) g (x.1, v) :=
  heap_set_at (heap_set_at (heap_set_at h rfl) rfl) rfl

set_option maxRecDepth 100000 in
set_option maxHeartbeats 1000000 in
theorem odWrite_any (b : Nat) (l : List (Nat × Im)) (i s : Int) (v : Value) (bs : List UInt8) (w : World) (h : DAt w b l) (hd : DOk (im l)) (hs : 0 ≤ s ∧ s ≤ 255) (hv : BytesAt w v bs) (hl : bs.length ≤ 140737488351232) :
    Calls Try.prog 15 #[ptr b, .int .u16 i, .int .u8 s, v] w (WriteP b l i s bs w) := by
  have HM := Lib.hid (odmay_any b l i s v bs w h hd hs hv hl)
  have HD := Lib.hid h
  obtain ⟨A, cap, rfl, _⟩ := hv
  have HNO : Hid (mayD (im l) i s bs ≠ 0 → writeD (im l) i s bs = im l) := fun hne => by
    unfold writeD
    unfold mayD at hne
    split
    · rfl
    · rename_i k hf
      rw [hf] at hne
      simp only at hne
      split
      · rfl
      · rename_i x hx
        rw [hx] at hne
        simp only at hne
        rw [if_neg hne]
  have HYES : Hid (∀ (k : Nat) (hk : k < l.length), findD (im l) i s = some k → (takeE l[k].2.1 bs).1 = 0 → writeD (im l) i s bs = (im l).set k (l[k].2.1, (takeE l[k].2.1 bs).2)) := fun k hk hf ht => by
    unfold writeD
    rw [hf]
    simp [hk, ht]
  clear h hd hs hl
  unfold ptr at HM
  unfold ptr WriteP
  generalize hmd : mayD (im l) i s bs = md at *
  go_enter Try.func15, Try.ntmps15
  go_wp2_with fail
  refine HM.out.mono ?_
  rintro e w1 ⟨⟨p, vv, rfl, hyes⟩, hF⟩
  rw [hmd] at hyes
  have HF := Lib.hid hF
  clear HM hF
  by_cases h0 : md = 0
  case neg =>
    have HN := Lib.hid (HNO.out h0)
    have hb : (md == 0) = false := by simpa using h0
    clear hyes h0
    go_wp2_with fail
    go_ret
    refine ⟨rfl, l, HD.out.grow (HF.out.trans' (by (repeat' (first | (with_reducible exact Frm.refl _ _) | (with_reducible assumption) | (with_reducible refine Frm.alloc ?_ _) | (with_reducible refine Frm.drew ?_) | (with_reducible refine Frm.drewN ?_ _) | (with_reducible refine Frm.set1 ?_ _) | (with_reducible refine Frm.setCell ?_ ?_ _) | (exact fun h => absurd h (Nat.lt_irrefl _)) | (intro hlt; simp [World.size_alloc, One] at hlt ⊢; omega))))), HN.out.symm, rfl, ?_⟩
    exact (HF.out.trans' (by (repeat' (first | (with_reducible exact Frm.refl _ _) | (with_reducible assumption) | (with_reducible refine Frm.alloc ?_ _) | (with_reducible refine Frm.drew ?_) | (with_reducible refine Frm.drewN ?_ _) | (with_reducible refine Frm.set1 ?_ _) | (with_reducible refine Frm.setCell ?_ ?_ _) | (exact fun h => absurd h (Nat.lt_irrefl _)) | (intro hlt; simp [World.size_alloc, One] at hlt ⊢; omega))))).mono (fun _ _ h => h.elim)
  case pos =>
    obtain ⟨k, hk, hf, rfl, rfl, ht⟩ := hyes h0
    have HY := Lib.hid (HYES.out k hk hf ht)
    subst h0
    have hm := List.getElem_mem hk
    have HI := Lib.hid (HF.out.heap (HD.out.el _ hm) (fun h => h))
    obtain ⟨x, hx⟩ : ∃ x, x = l[k].2 := ⟨_, rfl⟩
    obtain ⟨p, hp⟩ : ∃ p, p = l[k].1 := ⟨_, rfl⟩
    have HX := Lib.hid hx
    have HP := Lib.hid hp
    have ki : w1.heap[p]? = some (.cells (cellsI x).toArray 83 (0, 0)) := by rw [hp, hx]; exact HI.out
    rw [← hx] at HY
    rw [← hp, ← hx]
    have hvo := take_ok x.1 bs
    generalize (takeE x.1 bs).2 = vv at *
    clear hyes hf ht hx hp hm
    have KI := Lib.hid ki
    have y0 : w1.cell? ⟨p, 14, none⟩ = some (.int .i64 x.2.ty) := cell_at ki
    have y1 : w1.cell? ⟨p, 15, none⟩ = some (.int .u64 x.2.n) := cell_at ki
    have y2 : w1.cell? ⟨p, 16, none⟩ = some (.string (strB2 x.2.b)) := cell_at ki
    have f0 := frees ki
    have l0 := lt_of_block ki
    clear ki
    go_wp2_with fail
    go_ret
    have hD0 := HD.out.grow HF.out
    have hI1 := store17 vv KI.out
    have hset : Frm (One p) w1 (((w1.setCell ⟨p, 14, none⟩ (.int .i64 vv.ty)).setCell ⟨p, 15, none⟩ (.int .u64 vv.n)).setCell ⟨p, 16, none⟩ (.string (strB2 vv.b))) :=
      (((Frm.refl (One p) _).setCell (p := ⟨p, 14, none⟩) (fun _ => rfl) _).setCell (p := ⟨p, 15, none⟩) (fun _ => rfl) _).setCell (p := ⟨p, 16, none⟩) (fun _ => rfl) _
    have hfin := (hD0.upd hk (x.1, vv) (by rw [← HP.out]; exact hset) (by rw [← HP.out]; exact hI1))
    refine ⟨rfl, _, hfin.grow ((Frm.refl _ _).alloc _), ?_, upd_fst hk _, ?_⟩
    · rw [upd_im, HY.out]
    · exact ((HF.out.mono (T := fun j => ∃ q ∈ l, j = q.1) (fun _ _ h => h.elim)).trans hset (fun i hi e => ⟨l[k], List.getElem_mem hk, by have e : i = p := e; rw [e, HP.out]⟩)).alloc _
end Go.Proofs.Ytemjdmgfilbfaaa
namespace Go.Proofs.Ytemjdmgfilbfaaa
open Go.RowKit
set_option linter.unusedVariables false

theorem encV_len (v : Va) : (encV v).1.length ≤ 65536 := by
  unfold encV
  split
  · simp
  · rename_i h
    split
    · rw [leOf_length]
      rcases sizeT_vals v.ty with h | h | h | h | h <;> rw [h] <;> decide
    · rename_i h0
      show v.b.length ≤ 65536
      unfold checkV at h
      by_cases h1 : isT v.ty = false
      · rw [if_pos h1] at h; exact absurd (by decide) h
      · rw [if_neg h1, if_neg h0] at h
        by_cases h2 : 65536 < v.b.length
        · rw [if_pos h2] at h; exact absurd (by decide) h
        · omega
theorem saveI_len (x : Im) : (saveI x).length ≤ 65543 := by
  have := encV_len x.2
  unfold saveI
  split
  · simp [leOf_length]; omega
  · simp
theorem saveD_len (d : List Im) : (saveD d).length ≤ d.length * 65543 := by
  induction d with
  | nil => simp [saveD]
  | cons x r ih =>
    have := saveI_len x
    unfold saveD at *
    rw [List.flatMap_cons, List.length_append, List.length_cons]
    omega
theorem encB_of (n : Int) (h0 : 0 ≤ n) (h1 : n ≤ 255) : encB (UInt8.ofNat n.toNat) = .int .u8 n := by
  have := encB_mod n
  rwa [Int.emod_eq_of_lt h0 (by omega)] at this
theorem saveI_yes (x : Im) (h : x.1.acc = 2) : saveI x = (leOf x.1.idx 2 ++ leOf x.1.sub 1 ++ leOf (encV x.2).1.length 4) ++ (encV x.2).1 := by
  unfold saveI
  rw [if_pos h]
theorem saveI_no (x : Im) (h : x.1.acc ≠ 2) : saveI x = [] := by
  unfold saveI
  rw [if_neg h]

theorem leOf_succ (n : Int) (k : Nat) : leOf n (k + 1) = UInt8.ofNat (n % 256).toNat :: leOf (n / 256) k := rfl
theorem u8w (n : Int) : IntKind.u8.wrap n = n % 256 := by simp [IntKind.wrap, IntKind.bits, IntKind.signed]
theorem head7 (i s n : Int) (hs : 0 ≤ s ∧ s ≤ 255) : (leOf i 2 ++ leOf s 1 ++ leOf n 4).map encB =
    [.int .u8 (IntKind.u8.wrap i), .int .u8 (IntKind.u8.wrap (i / 256)), .int .u8 s, .int .u8 (IntKind.u8.wrap n), .int .u8 (IntKind.u8.wrap (n / 256)), .int .u8 (IntKind.u8.wrap (n / 65536)), .int .u8 (IntKind.u8.wrap (n / 16777216))] := by
  have e1 : n / 256 / 256 = n / 65536 := by omega
  have e2 : n / 65536 / 256 = n / 16777216 := by omega
  have e3 : s % 256 = s := Int.emod_eq_of_lt hs.1 (by omega)
  simp only [leOf_succ, leOf, u8w, List.map_append, List.map_cons, List.map_nil, encB_mod, e1, e2, e3, encB_of s hs.1 hs.2, List.cons_append, List.nil_append, List.append_nil]

def SaveP (d : List Im) (w : World) (e : Ending) (w' : World) : Prop := ∃ v, e = .returned v ∧ w'.ownsRow w.heap.size 5 1 v (saveD d).length ((saveD d).map encB) ∧ Frm (fun _ => False) w w'

set_option maxRecDepth 100000 in
set_option maxHeartbeats 2000000 in
theorem odSave_any (b : Nat) (l : List (Nat × Im)) (w : World) (h : DAt w b l) (hd : DOk (im l)) : Calls Try.prog 21 #[ptr b] w (SaveP (im l) w) := by
  obtain ⟨v, hO, hr⟩ := h.row
  have hlen : l.length ≤ 1024 := by have := hd.len; simpa using this
  have HEL := Lib.hid h.el
  have HOK := Lib.hid hd.ok
  obtain ⟨A, cap, rfl, h1, h2, h3⟩ := row_open hr
  have c0 : w.cell? ⟨b, 0, none⟩ = some (.slice A l.length cap) := cell_at hO
  have hcell : ∀ (k : Nat) (hk : k < l.length), ∃ g, A = some ⟨g, 0, none⟩ ∧ w.cell? ⟨g, k, none⟩ = some (ptr l[k].1) ∧ g < w.heap.size := fun k hk => by
    obtain ⟨g, e, _, ⟨cur, hc⟩, _, hcc⟩ := h3 (by omega)
    exact ⟨g, e, by rw [hcc k (by omega)]; simp [hk], lt_of_block hc⟩
  have HCE := Lib.hid hcell
  clear h hd hO hr h1 h2 h3 hcell
  unfold ptr at HCE
  unfold ptr SaveP
  go_enter Try.func21, Try.ntmps21
  go_wp2_with fail
  clear c0
  go_loopw [3, 5, 6, 7, 8, 14] (fun bv _ _ _ _ i wr => ∃ k : Nat, k ≤ l.length ∧ i = .int .i64 k ∧ wr.ownsRow w.heap.size 5 1 bv (saveD (im (l.take k))).length ((saveD (im (l.take k))).map encB) ∧ Frm (fun _ => False) w wr) (fun _ _ _ _ _ i _ => l.length - (intOf i).toNat)
  case atStart => exact ⟨0, Nat.zero_le _, rfl, World.ownsRow_nil _ _ _ _, Frm.refl _ _⟩
  case round =>
    obtain ⟨k, hk, rfl, hO, hF⟩ := hrel
    by_cases hlt : k < l.length
    · obtain ⟨g, rfl, cg, hg⟩ := HCE.out k hlt
      have hm := List.getElem_mem hlt
      have hek : saveD (im (l.take (k + 1))) = saveD (im (l.take k)) ++ saveI l[k].2 := by
        unfold saveD im
        rw [List.take_succ_eq_append_getElem hlt, List.map_append, List.flatMap_append]
        simp
      have hsl : (saveD (im (l.take k))).length ≤ 67116032 := by
        have := saveD_len (im (l.take k))
        have h2 : (im (l.take k)).length ≤ 1024 := by simp [im]; omega
        have := Nat.mul_le_mul_right 65543 h2
        omega
      obtain ⟨rb, hrb⟩ : ∃ rb, rb = saveD (im (l.take k)) := ⟨_, rfl⟩
      rw [← hrb] at hO hsl hek
      clear hrb
      have hi := hF.heap (HEL.out _ hm) (fun h => h)
      have hxo := HOK.out _ (List.mem_map.2 ⟨_, hm, rfl⟩)
      have HEK := Lib.hid hek
      have HEN := Lib.hid (fun W => tyEnc_any l[k].2.2 W hxo.2)
      have hel := encV_len l[k].2.2
      have hyes := saveI_yes l[k].2
      have hno := saveI_no l[k].2
      have HYES := Lib.hid hyes
      have HNO := Lib.hid hno
      have cg' := hF.cell cg (fun h => h)
      have hg' := Nat.lt_of_lt_of_le hg hF.size
      obtain ⟨r0, r1, r2, r3, _⟩ := hxo.1
      clear hek hm hyes hno cg hg
      generalize l[k].1 = p at *
      generalize l[k].2 = x at *
      have HRG : Hid (0 ≤ x.1.idx ∧ x.1.idx ≤ 65535 ∧ 0 ≤ x.1.sub ∧ x.1.sub ≤ 255) := ⟨r0, r1, r2, r3⟩
      unfold EncP valV at HEN
      have i0 : wr.cell? ⟨p, 0, none⟩ = some (.int .u16 x.1.idx) := cell_at hi
      have i1 : wr.cell? ⟨p, 1, none⟩ = some (.int .u8 x.1.sub) := cell_at hi
      have i2 : wr.cell? ⟨p, 2, none⟩ = some (.int .i64 x.1.acc) := cell_at hi
      have i14 : wr.cell? ⟨p, 14, none⟩ = some (.int .i64 x.2.ty) := cell_at hi
      have i15 : wr.cell? ⟨p, 15, none⟩ = some (.int .u64 x.2.n) := cell_at hi
      have i16 : wr.cell? ⟨p, 16, none⟩ = some (.string (strB2 x.2.b)) := cell_at hi
      have HI := Lib.hid hi
      have HF := Lib.hid hF
      have HO := Lib.hid hO
      clear hi hF hO hxo
      by_cases ha : x.1.acc = 2
      case neg =>
        have hb : (x.1.acc != 2) = true := by simpa using ha
        have HN := Lib.hid (HNO.out ha)
        clear ha HNO HYES
        go_wp2_with fail
        go_roundw
        case rel => exact ⟨k + 1, by omega, by go_num, by rw [HEK.out, HN.out, List.append_nil]; exact HO.out, HF.out⟩
        case measure => simp [intOf]; omega
      case pos =>
        have hb : (x.1.acc != 2) = false := by simpa using ha
        have HY := Lib.hid (HYES.out ha)
        clear ha HNO HYES
        generalize (encV x.2).2 = ec at *
        generalize (encV x.2).1 = eb at *
        obtain ⟨Al, cl, rfl, g3, g4, _⟩ := row_open HO.out
        go_upto_region 8 with (go_at_call 51; refine (HEN.out _).mono ?_; rintro e w2 ⟨sv, rfl, ⟨hbs, hown⟩, hF2⟩; obtain ⟨Ab, cb, rfl, hbl, hbm, hnews⟩ := hbs.open_)
        have j0 := hF2.cell i0 (fun h => h)
        have j1 := hF2.cell i1 (fun h => h)
        have HF2 := Lib.hid (HF.out.trans' hF2)
        have HR2 : Hid (w2.ownsRow w.heap.size 5 1 (.slice Al rb.length cl) rb.length (rb.map encB)) := hF2.row HO.out (fun _ _ h => h)
        have HNEW : Hid (0 < eb.length → NewsOf w2 Ab (eb.map encB)) := hnews
        have HFRE : Hid (∀ g o, Ab = some ⟨g, o, none⟩ → wr.heap.size ≤ g) := fun g o e => hown g (by rw [e]; rfl)
        have HOLD : Hid (∀ j, (Value.slice Al rb.length cl).ownBlock = some j → j < wr.heap.size ∧ w.heap.size ≤ j) := fun j hj => by
          obtain ⟨hb0, cur, hc⟩ := row_block HO.out hj
          exact ⟨lt_of_block hc, hb0⟩
        have hws := HF2.out.size
        have hrs := HF.out.size
        have hm3 : rb.length + 7 ≤ maxLen := by unfold maxLen; omega
        have hm4 : (rb.length + 7) * 1 ≤ 140737488355328 := by omega
        have hm7 : rb.length + 7 + eb.length ≤ maxLen := by unfold maxLen; omega
        have hm8 : (rb.length + 7 + eb.length) * 1 ≤ 140737488355328 := by omega
        have HLEN : Hid ((eb.map encB).length = eb.length * 1) := by unfold Hid; simp
        have HONEB := Lib.hid (oneB eb)
        clear hF2 hnews hown i0 i1 i2 i14 i15 i16 cg' hg' HEN HO hbs
        go_region_law (refine step_app (by rfl) el_u8 (.tmp 34) (.tmp 64) (by rfl) (by rfl) (by rfl) (B := w.heap.size) (e2 := 5) (fr := (0, 0)) (m := 7) (Frm.row (S := fun _ => False) (by (repeat' (first | (with_reducible exact Frm.refl _ _) | (with_reducible assumption) | (with_reducible refine Frm.alloc ?_ _) | (with_reducible refine Frm.drew ?_) | (with_reducible refine Frm.drewN ?_ _) | (with_reducible refine Frm.set1 ?_ _) | (with_reducible refine Frm.setCell ?_ ?_ _) | (exact fun h => absurd h (Nat.lt_irrefl _)) | (intro hlt; simp [World.size_alloc, One] at hlt ⊢; omega)))) HR2.out (fun _ _ h => h)) (heap_new_at (by simp)) (by rfl) (by simp [Value.oneCell']) (by decide) hm3 hm4 (by simp; omega) ?_; intro g5 cap5 w5 hown5 hfr5 hat5 hlt5)
        all_goals
          have hF25 : Frm (fun j => (Value.slice Al rb.length cl).ownBlock = some j) w2 w5 := Frm.trans (b := _) (by (repeat' (first | (with_reducible exact Frm.refl _ _) | (with_reducible assumption) | (with_reducible refine Frm.alloc ?_ _) | (with_reducible refine Frm.drew ?_) | (with_reducible refine Frm.drewN ?_ _) | (with_reducible refine Frm.set1 ?_ _) | (with_reducible refine Frm.setCell ?_ ?_ _) | (exact fun h => absurd h (Nat.lt_irrefl _)) | (intro hlt; simp [World.size_alloc, One] at hlt ⊢; omega)))) hfr5 (fun _ _ h => h)
          have hnews5 : 0 < eb.length → NewsOf w5 Ab (eb.map encB) := fun h0 => (HNEW.out h0).frm hF25 (fun g o e h2 => by have := HFRE.out g o e; have := (HOLD.out g h2).1; omega)
          have hF5 : Frm (fun _ => False) w w5 := HF2.out.trans hF25 (fun i hi hs => by have := (HOLD.out i hs).2; omega)
          have H5 := Lib.hid hown5
          have HF5 := Lib.hid hF5
          have HN5 := Lib.hid hnews5
          have hs5 := hF5.size
          obtain ⟨hg5, cur5, hc5⟩ := row_block hown5 rfl
          have HG5 := Lib.hid hg5
          clear hown5 hfr5 hat5 hF25 hnews5 hF5 hg5 hc5 j0 j1
          go_wp2_with (at_builtin; refine wpl_app_src rfl el_u8 (.tmp 66) (.tmp 67) rfl (B := w.heap.size) (news := eb.map encB) rfl rfl H5.out HLEN.out HN5.out HONEB.out hm7 hm8 (by omega) ?_; intro A7 cap7 w7 hown7 hfr7)
          go_roundw
          case rel =>
            refine ⟨k + 1, by omega, by go_num, ?_, HF5.out.trans hfr7 (fun i hi hs => ?_)⟩
            · rw [HEK.out, HY.out, List.length_append, List.length_append, List.map_append, List.map_append, head7 _ _ _ HRG.out.2.2]
              have e7 : (leOf x.1.idx 2 ++ leOf x.1.sub 1 ++ leOf eb.length 4).length = 7 := by simp [leOf_length]
              rw [e7, show rb.length + (7 + eb.length) = rb.length + 7 + eb.length by omega]
              simpa only [List.append_assoc] using hown7
            · have := HG5.out
              cases hs
              omega
          case measure => simp [intOf]; omega
    · have hkn : k = l.length := by omega
      subst hkn
      rw [List.take_length] at hO
      go_wp2_with fail
      go_ret
      exact ⟨_, rfl, hO, hF⟩
end Go.Proofs.Ytemjdmgfilbfaaa
namespace Go.Proofs.Ytemjdmgfilbfaaa
open Go.RowKit
set_option linter.unusedVariables false

def oneV : Va := ⟨5, 1, []⟩
def liveE : En := ⟨8192, 0, 2, false, true, oneV, ⟨5, 5, []⟩, oneV⟩
theorem liveE_ok : liveE.ok := by simp [En.ok, liveE, Va.ok, oneV, two64]
theorem live_chk : checkE [liveE] = 0 := by decide
theorem live_new : newD [liveE] = [(liveE, oneV)] := by decide
theorem live_read : readD (newD [liveE]) 8192 0 = ([1], 0) := by decide
theorem live_may6 : mayD (newD [liveE]) 8192 0 [6] = codeHigh := by decide
theorem live_w6 : writeD (newD [liveE]) 8192 0 [6] = newD [liveE] := by decide
theorem live_may5 : mayD (newD [liveE]) 8192 0 [5] = 0 := by decide
theorem live_save : (saveD (writeD (newD [liveE]) 8192 0 [5])).length = 8 := by decide
theorem live_ok : DOk (newD [liveE]) := by
  rw [live_new]
  exact ⟨by simp, fun x hx => by simp at hx; subst hx; exact ⟨liveE_ok, by simp [Va.ok, oneV, two64]⟩, by simp⟩

theorem bytes6 (w : World) (g : Nat) (hg : g = w.heap.size) : BytesAt (w.alloc (.cells #[.int .u8 6] 5)) (.slice (some ⟨g, 0, none⟩) 1 1) [6] := by
  subst hg
  exact BytesAt.of_row (B := 0) (row_new rfl (by simp) rfl (by decide) (Nat.zero_le _))
theorem bytes5 (w : World) (g : Nat) (hg : g = w.heap.size) : BytesAt (w.alloc (.cells #[.int .u8 5] 5)) (.slice (some ⟨g, 0, none⟩) 1 1) [5] := by
  subst hg
  exact BytesAt.of_row (B := 0) (row_new rfl (by simp) rfl (by decide) (Nat.zero_le _))
theorem entries1 (w : World) (g : Nat) (hg : g = w.heap.size) (x : En) : SlAt cellsE 14 (w.alloc (.cells (cellsE x).toArray 42)) (.slice (some ⟨g, 0, none⟩) 1 1) [x] := by
  subst hg
  exact SlAt.of_row (B := 0) (e := 42) (fun x => cellsE_len x) (row_new rfl (by simp [cellsE_len]) (by simp [cellsOf]) (by decide) (Nat.zero_le _))

/-- What a call of Write does here. -/
theorem write_at (b : Nat) (l : List (Nat × Im)) (d : List Im) (v : Value) (bs : List UInt8) (c : Int) (w : World) (h : DAt w b l) (hl : im l = d) (hd : DOk d) (hv : BytesAt w v bs) (hb : bs.length = 1) (hc : mayD d 8192 0 bs = c) :
    Calls Try.prog 15 #[ptr b, .int .u16 8192, .int .u8 0, v] w fun e w' => e = .returned (.int .u32 c) ∧ ∃ l', DAt w' b l' ∧ im l' = writeD d 8192 0 bs ∧ l'.map (·.1) = l.map (·.1) ∧ Frm (fun j => ∃ q ∈ l, j = q.1) w w' := by
  subst hl hc
  exact odWrite_any b l 8192 0 v bs w h hd ⟨by decide, by decide⟩ hv (by omega)
theorem str1 : ((strB2 [1]).toList == ([1] : List UInt8)) = true := by simp [strB2]

set_option maxRecDepth 100000 in
set_option maxHeartbeats 1000000 in
theorem livesO_any (w : World) : Calls Try.prog 14 #[] w fun e w' => e = .returned (.bool true) ∧ Frm (fun _ => False) w w' := by
  have HNEW := Lib.hid (fun v W h => odNew_any v [liveE] W h (fun x hx => by simp at hx; subst hx; exact liveE_ok))
  unfold ONewP at HNEW
  rw [live_chk] at HNEW
  go_enter Try.func14, Try.ntmps14
  go_upto_region 5 with (go_at_call 12; refine (HNEW.out _ _ (entries1 _ _ (by simp) liveE)).mono ?_; rintro e w1 ⟨hF1, h | ⟨-, b, l, rfl, hD, hl, hb⟩⟩; exact absurd rfl h.1)
  have HF1 : Hid (Frm (fun _ => False) w w1) := Frm.trans' (b := _) (by (repeat' (first | (with_reducible exact Frm.refl _ _) | (with_reducible assumption) | (with_reducible refine Frm.alloc ?_ _) | (with_reducible refine Frm.drew ?_) | (with_reducible refine Frm.drewN ?_ _) | (with_reducible refine Frm.set1 ?_ _) | (with_reducible refine Frm.setCell ?_ ?_ _) | (exact fun h => absurd h (Nat.lt_irrefl _)) | (intro hlt; simp [World.size_alloc, One] at hlt ⊢; omega)))) hF1
  have hb0 : Hid (w.heap.size ≤ b) := by unfold Hid; simp at hb; omega
  have HRD := Lib.hid (odRead_any b l 8192 0 w1 hD (by rw [show im l = newD [liveE] from hl]; exact live_ok) ⟨by decide, by decide⟩)
  unfold ReadP at HRD
  rw [show im l = newD [liveE] from hl, live_read] at HRD
  have HD := Lib.hid hD
  have HL := Lib.hid hl
  clear hF1 hD hl hb HNEW
  unfold ptr at HRD
  go_upto_region 6 with (go_at_call 43; refine HRD.out.mono ?_; rintro e w2 ⟨v, rfl, hfr, hF2⟩; obtain ⟨A2, c2, rfl, -⟩ := hfr.1.open_)
  have hcv := conv_b2s hfr.1
  simp only [List.length_cons, List.length_nil] at hcv ⊢
  have HF2 := Lib.hid (HF1.out.trans' hF2)
  have HD2 := Lib.hid (HD.out.grow hF2)
  have hs1 := str1
  clear hfr hF2
  have hw6 : ∀ (W : World) (g : Nat), Frm (fun _ => False) w2 W → g = W.heap.size → _ := fun W g hF hg => write_at b l (newD [liveE]) _ [6] codeHigh (W.alloc (.cells #[.int .u8 6] 5)) (HD2.out.grow (hF.alloc _)) HL.out live_ok (bytes6 W g hg) rfl live_may6
  have HW6 := Lib.hid hw6
  clear hw6
  unfold ptr codeHigh at HW6
  rw [live_w6] at HW6
  go_wp2_with (first
    | (go_at_call 15; refine (HW6.out _ _ (by (repeat' (first | (with_reducible exact Frm.refl _ _) | (with_reducible assumption) | (with_reducible refine Frm.alloc ?_ _) | (with_reducible refine Frm.drew ?_) | (with_reducible refine Frm.drewN ?_ _) | (with_reducible refine Frm.set1 ?_ _) | (with_reducible refine Frm.setCell ?_ ?_ _) | (exact fun h => absurd h (Nat.lt_irrefl _)) | (intro hlt; simp [World.size_alloc, One] at hlt ⊢; omega)))) (by first | rfl | simp)).mono ?_; rintro e w3 ⟨rfl, l3, hD3, hl3, hf3, hF3⟩; have HF3 : Hid (Frm (fun _ => False) w w3) := (HF2.out.alloc _).trans hF3 (fun i hi ⟨q, hq, e⟩ => by have := HD.out.lo q hq; have := hb0.out; omega); have hlo3 := hD3.lo; have HLO3 := Lib.hid hlo3; have hw5 : ∀ (W : World) (g : Nat), Frm (fun _ => False) w3 W → g = W.heap.size → _ := fun W g hF hg => write_at b l3 (newD [liveE]) _ [5] 0 (W.alloc (.cells #[.int .u8 5] 5)) (hD3.grow (hF.alloc _)) hl3 live_ok (bytes5 W g hg) rfl live_may5; have HW5 := Lib.hid hw5; unfold ptr at HW5; clear hw5 hD3 hl3 hf3 hF3 HW6 hlo3)
    | (go_at_call 15; refine (HW5.out _ _ (by (repeat' (first | (with_reducible exact Frm.refl _ _) | (with_reducible assumption) | (with_reducible refine Frm.alloc ?_ _) | (with_reducible refine Frm.drew ?_) | (with_reducible refine Frm.drewN ?_ _) | (with_reducible refine Frm.set1 ?_ _) | (with_reducible refine Frm.setCell ?_ ?_ _) | (exact fun h => absurd h (Nat.lt_irrefl _)) | (intro hlt; simp [World.size_alloc, One] at hlt ⊢; omega)))) (by first | rfl | simp)).mono ?_; rintro e w4 ⟨rfl, l4, hD4, hl4, hf4, hF4⟩; have HF4 : Hid (Frm (fun _ => False) w w4) := (HF3.out.alloc _).trans hF4 (fun i hi ⟨q, hq, e⟩ => by have := HLO3.out q hq; have := hb0.out; omega); have hsv := odSave_any b l4 w4 hD4 (by rw [hl4]; exact live_ok.write _ _ _); unfold SaveP at hsv; rw [hl4, live_save] at hsv; have HSV := Lib.hid hsv; unfold ptr at HSV; clear hsv hD4 hl4 hf4 hF4 HW5)
    | (go_at_call 21; refine HSV.out.mono ?_; rintro e w5 ⟨v5, rfl, hr5, hF5⟩; obtain ⟨A5, c5, rfl, -⟩ := row_open hr5))
  go_ret
  exact ⟨rfl, HF4.out.trans' hF5⟩
end Go.Proofs.Ytemjdmgfilbfaaa
namespace Go.Proofs.Ytemjdmgfilbfaaa
set_option linter.unusedVariables false

/-- What holds of a dictionary of these entries, whatever is written. -/
structure LInv (xs : List En) (d : List Im) : Prop where
  ok : DOk d
  fst : d.map (·.1) = (newD xs).map (·.1)
  lim : ∀ x ∈ d, x.1.lim = true → withinE x.1 x.2 = (0, true)
  con : ∀ x ∈ d, x.1.acc ≠ 2 → x.1.acc ≠ 1 → x.2 = x.1.df

theorem order_plain {v m : Va} (h : sizeT v.ty ≠ 0) : orderV (plainV v) m = orderV v m := by
  have e : plainV v = ⟨v.ty, v.n, []⟩ := by unfold plainV; rw [if_pos h]
  have c : checkV (plainV v) = checkV v := by
    rw [e]
    unfold checkV
    simp only [h, ne_eq, not_false_eq_true, if_true]
  unfold orderV
  rw [c]
  simp only [e, h, if_false]
theorem within_plain {x : En} {v : Va} (h : sizeT v.ty ≠ 0) : withinE (plainE x) (plainV v) = withinE x v := by
  have e1 : (plainE x).mn = x.mn := rfl
  have e2 : (plainE x).mx = x.mx := rfl
  unfold withinE
  rw [e1, e2, order_plain h, order_plain h]
theorem entry_lim {x : En} (h : entryE x = 0) (hl : x.lim = true) : sizeT x.df.ty ≠ 0 ∧ withinE x x.df = (0, true) := by
  unfold entryE at h
  by_cases h0 : checkV x.df = 0
  · rw [if_neg (by simpa using h0)] at h
    by_cases h1 : x.acc < 0 ∨ 3 < x.acc ∨ (x.mp = true ∧ numE x = false) ∨ (x.lim = true ∧ ¬ (numE x = true ∧ withinE x x.df = (0, true)))
    · rw [if_pos h1] at h; exact absurd h (by decide)
    · have h2 : ¬ (x.lim = true ∧ ¬ (numE x = true ∧ withinE x x.df = (0, true))) := fun h => h1 (.inr (.inr (.inr h)))
      have h3 : numE x = true ∧ withinE x x.df = (0, true) := Decidable.byContradiction fun h => h2 ⟨hl, h⟩
      exact ⟨by simpa [numE] using h3.1, h3.2⟩
  · rw [if_pos h0] at h; exact absurd h h0
theorem newD_ok {xs : List En} (h : checkE xs = 0) (hx : ∀ x ∈ xs, x.ok) : DOk (newD xs) := by
  obtain ⟨h1, h2, h3⟩ := check_facts h
  refine ⟨?_, fun y hy => ?_, by rw [newD_len]; exact h1⟩
  · have a := newD_srt xs
    have b := newD_plE xs h3
    rw [List.Nodup, List.pairwise_map] at b
    exact (a.and b).imp fun {x y} h => by have := h.1; have := h.2; omega
  · obtain ⟨x, hm, rfl⟩ := List.mem_map.1 ((newD_perm xs).mem_iff.1 hy)
    exact ⟨plainE_ok (hx x hm), plainV_ok (hx x hm).2.2.2.2.2.2⟩
theorem linv_new {xs : List En} (h : checkE xs = 0) (hx : ∀ x ∈ xs, x.ok) : LInv xs (newD xs) := by
  obtain ⟨h1, h2, h3⟩ := check_facts h
  refine ⟨newD_ok h hx, rfl, fun y hy hl => ?_, fun y hy _ _ => ?_⟩
  · obtain ⟨x, hm, rfl⟩ := List.mem_map.1 ((newD_perm xs).mem_iff.1 hy)
    obtain ⟨e1, e2⟩ := entry_lim (h2 x hm) hl
    exact (within_plain e1).trans e2
  · obtain ⟨x, hm, rfl⟩ := List.mem_map.1 ((newD_perm xs).mem_iff.1 hy)
    rfl
theorem withinC_zero {x : En} {v : Va} (h : withinC x v = 0) : withinE x v = (0, true) := by
  unfold withinC at h
  by_cases h1 : (withinE x v).2 = false
  · rw [if_pos h1] at h; exact absurd h (by decide)
  · rw [if_neg h1] at h
    exact Prod.ext h (by simpa using h1)
theorem take_zero {x : En} {b : List UInt8} (h : (takeE x b).1 = 0) : (x.acc = 1 ∨ x.acc = 2) ∧ (x.lim = true → withinE x (takeE x b).2 = (0, true)) := by
  unfold takeE at *
  by_cases h1 : x.acc ≠ 1 ∧ x.acc ≠ 2
  · rw [if_pos h1] at h; exact absurd h (by show ¬ codeNoWrite = 0; decide)
  · simp only [if_neg h1] at *
    refine ⟨by omega, fun hl => ?_⟩
    by_cases h3 : (decV x.df.ty b).2 = 3
    · rw [if_pos h3] at h; exact absurd h (by show ¬ codeShort = 0; decide)
    · simp only [if_neg h3] at *
      by_cases h2 : (decV x.df.ty b).2 = 2
      · rw [if_pos h2] at h; exact absurd h (by show ¬ codeLong = 0; decide)
      · simp only [if_neg h2] at *
        by_cases h0 : (decV x.df.ty b).2 ≠ 0
        · rw [if_pos h0] at h; exact absurd h (by show ¬ codeBad = 0; decide)
        · simp only [if_neg h0, if_pos hl] at *
          exact withinC_zero h
theorem linv_write {xs : List En} {d : List Im} (h : LInv xs d) (i s : Int) (b : List UInt8) : LInv xs (writeD d i s b) := by
  refine ⟨h.ok.write i s b, ?_, ?_, ?_⟩
  · rw [← h.fst]
    unfold writeD
    split
    · rfl
    · split
      · rfl
      · rename_i x hx
        split
        · obtain ⟨hk, rfl⟩ := List.getElem?_eq_some_iff.1 hx
          apply List.ext_getElem (by simp)
          intro j h1 h2
          rw [List.getElem_map, List.getElem_map, List.getElem_set]
          split
          · rename_i e; subst e; rfl
          · rfl
        · rfl
  · unfold writeD
    split
    · exact h.lim
    · split
      · exact h.lim
      · rename_i k _ x hx
        split
        · rename_i ht
          intro y hy hl
          rcases List.mem_or_eq_of_mem_set hy with hy | rfl
          · exact h.lim y hy hl
          · exact (take_zero ht).2 hl
        · exact h.lim
  · unfold writeD
    split
    · exact h.con
    · split
      · exact h.con
      · rename_i k _ x hx
        split
        · rename_i ht
          intro y hy h2 h1
          rcases List.mem_or_eq_of_mem_set hy with hy | rfl
          · exact h.con y hy h2 h1
          · rcases (take_zero ht).1 with e | e
            · exact absurd e h1
            · exact absurd e h2
        · exact h.con
/-- What Get tells of an entry that was handed in. -/
theorem get_there {xs : List En} {d : List Im} (h : LInv xs d) (hx : ∀ x ∈ xs, x.ok) {x : En} (hm : x ∈ xs) : ∃ v, getD2 d x.idx x.sub = (v, 0) ∧ (plainE x, v) ∈ d := by
  have h1 : plainE x ∈ d.map (·.1) := by
    rw [h.fst]
    exact List.mem_map.2 ⟨newI x, (newD_perm xs).mem_iff.2 (List.mem_map.2 ⟨x, hm, rfl⟩), rfl⟩
  obtain ⟨y, hy, e⟩ := List.mem_map.1 h1
  obtain ⟨k, hk, rfl⟩ := List.getElem_of_mem hy
  have hs := (hx x hm).2.2
  have hf := find_hit h.ok (i := x.idx) (s := x.sub) ⟨hs.1, hs.2.1⟩ hk (by rw [e]; rfl)
  refine ⟨d[k].2, ?_, ?_⟩
  · unfold getD2
    rw [hf.1]
    simp [hk]
  · rw [← e]; exact hy
theorem limits_facts {xs : List En} {d : List Im} (h : LInv xs d) (hx : ∀ x ∈ xs, x.ok) {x : En} (hm : x ∈ xs) : ∃ v : Va, getD2 d x.idx x.sub = (v, 0) ∧ v.ok ∧ (x.lim = true → withinE x v = (0, true)) ∧ (x.acc ≠ 2 → x.acc ≠ 1 → v = plainV x.df) := by
  obtain ⟨v, hg, hy⟩ := get_there h hx hm
  exact ⟨v, hg, (h.ok.ok _ hy).2, fun hl => h.lim _ hy hl, fun h2 h1 => h.con _ hy h2 h1⟩
end Go.Proofs.Ytemjdmgfilbfaaa
namespace Go.Proofs.Ytemjdmgfilbfaaa
open Go.RowKit
set_option linter.unusedVariables false

/-- A call, as it lies in memory, and what its bytes are. -/
structure ActO where
  kind : Int
  idx : Int
  sub : Int
  bv : Value
  bs : List UInt8
  v : Va
  n : Int
def encO (a : ActO) : List Value := [.int .i64 a.kind, .int .u16 a.idx, .int .u8 a.sub, a.bv, .int .i64 a.v.ty, .int .u64 a.v.n, .string (strB2 a.v.b), .int .u16 a.n]
theorem encO_len (a : ActO) : (encO a).length = 8 := rfl
def ActO.good (W : World) (a : ActO) : Prop := 0 ≤ a.idx ∧ a.idx ≤ 65535 ∧ 0 ≤ a.sub ∧ a.sub ≤ 255 ∧ BytesAt W a.bv a.bs ∧ a.bs.length ≤ 140737488351232 ∧ a.v.ok ∧ 0 ≤ a.n ∧ a.n ≤ 65535

theorem el_Entry : El Try.prog 22 42 14 120 := El.of Try.underlying22 (z := .agg #[.int .u16 0, .int .u8 0, .int .i64 0, .bool false, .bool false, .int .i64 0, .int .u64 0, .string ⟨#[]⟩, .int .i64 0, .int .u64 0, .string ⟨#[]⟩, .int .i64 0, .int .u64 0, .string ⟨#[]⟩]) (by kernel_rfl) rfl (by decide)
theorem oneE (xs : List En) : ∀ u ∈ cellsOf cellsE xs, u.oneCell' = true := fun u hu => by
  unfold cellsOf at hu
  obtain ⟨x, _, hx⟩ := List.mem_flatMap.1 hu
  simp only [cellsE, List.mem_cons, List.not_mem_nil, or_false] at hx
  rcases hx with rfl | rfl | rfl | rfl | rfl | rfl | rfl | rfl | rfl | rfl | rfl | rfl | rfl | rfl <;> rfl
theorem news_entries {W : World} {v : Value} {xs : List En} (h : SlAt cellsE 14 W v xs) : ∃ A cap, v = .slice A xs.length cap ∧ xs.length ≤ cap ∧ cap ≤ maxLen ∧ (0 < xs.length → NewsOf W A (cellsOf cellsE xs)) ∧ (cellsOf cellsE xs).length = xs.length * 14 := by
  have h' := h
  obtain ⟨A, cap, rfl, h1, h2, _⟩ := h
  obtain ⟨A', cap', e, hn⟩ := SlAt.cells cellsE_len (by decide) h'
  simp only [Value.slice.injEq] at e
  obtain ⟨rfl, _, rfl⟩ := e
  exact ⟨A, cap, rfl, h1, h2, hn, cellsOf_length cellsE_len xs⟩
end Go.Proofs.Ytemjdmgfilbfaaa
namespace Go.Proofs.Ytemjdmgfilbfaaa
set_option linter.unusedVariables false

theorem chk_of {l : List En} {seen : List Int} (h1 : ∀ x ∈ l, entryE x = 0) (h2 : (l.map plE).Nodup) (h3 : ∀ x ∈ l, plE x ∉ seen) : chkE seen l = 0 := by
  induction l generalizing seen with
  | nil => rfl
  | cons x r ih =>
    rw [List.map_cons, List.nodup_cons] at h2
    unfold chkE
    rw [if_neg (by rw [h1 x (List.mem_cons_self ..)]; simp), if_neg (h3 x (List.mem_cons_self ..))]
    refine ih (fun y hy => h1 y (List.mem_cons_of_mem _ hy)) h2.2 fun y hy hm => ?_
    rcases List.mem_append.1 hm with hm | hm
    · exact h3 y (List.mem_cons_of_mem _ hy) hm
    · simp at hm
      exact h2.1 (List.mem_map.2 ⟨y, hy, hm⟩)
theorem check_rev {l : List En} (h : checkE l = 0) : checkE l.reverse = 0 := by
  obtain ⟨a, b, c⟩ := check_facts h
  unfold checkE
  rw [List.length_reverse, if_neg (by omega)]
  refine chk_of (fun x hx => b x (List.mem_reverse.1 hx)) ?_ (by simp)
  rw [List.map_reverse]
  exact (List.reverse_perm _).nodup_iff.2 c
theorem newD_rev {l : List En} (h : checkE l = 0) : newD l.reverse = newD l := by
  obtain ⟨_, _, c⟩ := check_facts h
  refine newD_uniq c ?_ (newD_srt _)
  exact (newD_perm _).trans ((List.reverse_perm l).map _)
end Go.Proofs.Ytemjdmgfilbfaaa
namespace Go.Proofs.Ytemjdmgfilbfaaa
open Go.RowKit
open List (getElem_toArray getElem_cons_zero getElem_cons_succ setIfInBounds_toArray set_cons_zero set_cons_succ)
set_option linter.unusedVariables false

theorem DOk.set {d : List Im} (h : DOk d) (i s : Int) (v : Va) (hv : v.ok) : DOk (setD d i s v).1 := by
  unfold setD
  split
  · exact h
  · split
    · exact h
    · rename_i k hf x hx
      split
      · exact h
      · obtain ⟨hk, rfl⟩ := List.getElem?_eq_some_iff.1 hx
        exact h.upd hk _ (plainV_ok hv)
def SetP (b : Nat) (l : List (Nat × Im)) (i s : Int) (v : Va) (w : World) (e : Ending) (w' : World) : Prop :=
  e = .returned (.int .i64 (setD (im l) i s v).2) ∧ ∃ l', DAt w' b l' ∧ im l' = (setD (im l) i s v).1 ∧ l'.map (·.1) = l.map (·.1) ∧ Frm (fun j => ∃ q ∈ l, j = q.1) w w'

set_option maxRecDepth 100000 in
set_option maxHeartbeats 2000000 in
theorem odSet_any (b : Nat) (l : List (Nat × Im)) (i s : Int) (v : Va) (w : World) (h : DAt w b l) (hd : DOk (im l)) (hs : 0 ≤ s ∧ s ≤ 255) (hv : v.ok) :
    Calls Try.prog 22 #[ptr b, .int .u16 i, .int .u8 s, valV v] w (SetP b l i s v w) := by
  have HFD := Lib.hid (fun W hF => odFind_any b l i s W (h.grow hF) hd hs)
  have HCK := Lib.hid (fun W => tyCheck_any v W hv)
  have HPL := Lib.hid (fun W => tyPlain_any v W)
  have HD := Lib.hid h
  clear h hd hs hv
  unfold ptr at HFD
  unfold valV at HCK HPL
  unfold ptr SetP valV
  go_enter Try.func22, Try.ntmps22
  go_wp2_with fail
  refine (HFD.out _ (by (repeat' (first | (with_reducible exact Frm.refl _ _) | (with_reducible assumption) | (with_reducible refine Frm.alloc ?_ _) | (with_reducible refine Frm.drew ?_) | (with_reducible refine Frm.drewN ?_ _) | (with_reducible refine Frm.set1 ?_ _) | (with_reducible refine Frm.setCell ?_ ?_ _) | (exact fun h => absurd h (Nat.lt_irrefl _)) | (intro hlt; simp [World.size_alloc, One] at hlt ⊢; omega))))).mono ?_
  rintro e w1 ⟨hF1, hf⟩
  have k0 := hF1.heap (heap_new w _) (fun h => h)
  have K0 := Lib.hid k0
  have HF : Hid (Frm (fun _ => False) w w1) := Frm.trans' (b := _) (by (repeat' (first | (with_reducible exact Frm.refl _ _) | (with_reducible assumption) | (with_reducible refine Frm.alloc ?_ _) | (with_reducible refine Frm.drew ?_) | (with_reducible refine Frm.drewN ?_ _) | (with_reducible refine Frm.set1 ?_ _) | (with_reducible refine Frm.setCell ?_ ?_ _) | (exact fun h => absurd h (Nat.lt_irrefl _)) | (intro hlt; simp [World.size_alloc, One] at hlt ⊢; omega)))) hF1
  have l0 := lt_of_block k0
  clear hF1 k0 HFD
  rcases hf with ⟨k, hk, hfd, -, -, rfl⟩ | ⟨hfd, hne, rfl⟩
  · have E : Hid (setD (im l) i s v = if setC l[k].2 v ≠ 0 then (im l, setC l[k].2 v) else ((im l).set k (l[k].2.1, plainV v), 0)) := by
      unfold Hid setD
      rw [hfd]
      simp [hk]
    have hm := List.getElem_mem hk
    have HI := Lib.hid (HF.out.heap (HD.out.el _ hm) (fun h => h))
    obtain ⟨x, hx⟩ : ∃ x, x = l[k].2 := ⟨_, rfl⟩
    obtain ⟨p, hp⟩ : ∃ p, p = l[k].1 := ⟨_, rfl⟩
    have HP := Lib.hid hp
    rw [← hx] at E
    have KI : Hid (ItAt w1 p x) := by rw [hp, hx]; exact HI.out
    rw [← hp]
    have HC : Hid (setC x v = if x.1.acc = 3 ∨ v.ty ≠ x.2.ty then 1 else checkV v) := rfl
    generalize setC x v = sc at *
    have hc : ∀ W, Frm (fun _ => False) w1 W → W.cell? ⟨p, 2, none⟩ = some (.int .i64 x.1.acc) ∧ W.cell? ⟨p, 14, none⟩ = some (.int .i64 x.2.ty) ∧ W.cell? ⟨w.heap.size, 0, none⟩ = some (.int .i64 v.ty) := fun W hF => by
      have kx := hF.heap KI.out (fun h => h)
      have ky := hF.heap K0.out (fun h => h)
      exact ⟨cell_at kx, cell_at kx, cell_at ky⟩
    have HCC := Lib.hid hc
    have lp : p < w1.heap.size := lt_of_block KI.out
    clear hc hm hx hp hfd HI
    go_upto_region 4 with fail
    have hz : Frm (fun _ => False) w1 w1 := Frm.refl _ _
    have HBAD : Hid (∀ c : Int, c ≠ 0 → sc = c → setD (im l) i s v = (im l, c)) := fun c h1 h2 => by rw [E.out, h2, if_pos h1]
    refine wp_region_held_drew (S := fun W => Frm (fun _ => False) w1 W) (by kernel_rfl) (hz.drew) (fun hHeld => ?_)
    by_cases ha : x.1.acc = 3
    · have b3 : (x.1.acc == 3) = true := by simpa using ha
      have E2 := Lib.hid (HBAD.out 1 (by decide) (by rw [HC.out, if_pos (.inl ha)]))
      clear ha HC
      refine wpAnyH_take (i := 0) (v := ?_) rfl (by kernel_rfl) (by kernel_rfl) (by kernel_rfl) (fun _ _ _ h => h) (Or.inl ⟨by rfl, ?_⟩) (by assumption) ?_; rotate_left; · (intro wq hSq; have hq := HCC.out wq hSq; go_split_ands; go_simp; (try with_reducible rfl))
      try simp only [Act.put, getElem_toArray, getElem_cons_zero, getElem_cons_succ, setIfInBounds_toArray, set_cons_zero, set_cons_succ]
      refine wpAnyH_take (i := 1) (v := ?_) rfl (by kernel_rfl) (by kernel_rfl) (by kernel_rfl) (fun _ _ _ h => h) (Or.inl ⟨by rfl, ?_⟩) (by assumption) ?_; rotate_left; · (intro wq hSq; have hq := HCC.out wq hSq; go_split_ands; go_simp; (try with_reducible rfl))
      try simp only [Act.put, getElem_toArray, getElem_cons_zero, getElem_cons_succ, setIfInBounds_toArray, set_cons_zero, set_cons_succ]
      refine wpAnyH_take (i := 2) (v := ?_) rfl (by kernel_rfl) (by kernel_rfl) (by kernel_rfl) (fun _ _ _ h => h) (Or.inl ⟨by rfl, ?_⟩) (by assumption) ?_; rotate_left; · (intro wq hSq; have hq := HCC.out wq hSq; go_split_ands; go_simp; (try with_reducible rfl))
      try simp only [Act.put, getElem_toArray, getElem_cons_zero, getElem_cons_succ, setIfInBounds_toArray, set_cons_zero, set_cons_succ]
      refine wpAnyH_take (i := 3) (v := ?_) rfl (by kernel_rfl) (by kernel_rfl) (by kernel_rfl) (fun _ _ _ h => h) (Or.inl ⟨by rfl, ?_⟩) (by assumption) ?_; rotate_left; · (intro wq hSq; have hq := HCC.out wq hSq; go_split_ands; go_simp; (try with_reducible rfl))
      try simp only [Act.put, getElem_toArray, getElem_cons_zero, getElem_cons_succ, setIfInBounds_toArray, set_cons_zero, set_cons_succ]
      refine wpAnyH_take (i := 4) (v := ?_) rfl (by kernel_rfl) (by kernel_rfl) (by kernel_rfl) (fun _ _ _ h => h) (Or.inl ⟨by rfl, ?_⟩) (by assumption) ?_; rotate_left; · (intro wq hSq; have hq := HCC.out wq hSq; go_split_ands; go_simp; (try with_reducible rfl))
      try simp only [Act.put, getElem_toArray, getElem_cons_zero, getElem_cons_succ, setIfInBounds_toArray, set_cons_zero, set_cons_succ]
      refine wpAnyH_take (i := 5) (v := ?_) rfl (by kernel_rfl) (by kernel_rfl) (by kernel_rfl) (fun _ _ _ h => h) (Or.inl ⟨by rfl, ?_⟩) (by assumption) ?_; rotate_left; · (intro wq hSq; have hq := HCC.out wq hSq; go_split_ands; go_simp; (try with_reducible rfl))
      try simp only [Act.put, getElem_toArray, getElem_cons_zero, getElem_cons_succ, setIfInBounds_toArray, set_cons_zero, set_cons_succ]
      refine wpAnyH_take (i := 6) (v := ?_) rfl (by kernel_rfl) (by kernel_rfl) (by kernel_rfl) (fun _ _ _ h => h) (Or.inl ⟨by rfl, ?_⟩) (by assumption) ?_; rotate_left; · (intro wq hSq; have hq := HCC.out wq hSq; go_split_ands; go_simp; (try with_reducible rfl))
      try simp only [Act.put, getElem_toArray, getElem_cons_zero, getElem_cons_succ, setIfInBounds_toArray, set_cons_zero, set_cons_succ]
      refine wpAnyH_take (i := 7) (v := undef) rfl (by kernel_rfl) (by kernel_rfl) (by kernel_rfl) (fun _ _ _ h => h) (Or.inr ⟨by rfl, rfl⟩) (by assumption) ?_
      try simp only [Act.put, getElem_toArray, getElem_cons_zero, getElem_cons_succ, setIfInBounds_toArray, set_cons_zero, set_cons_succ]
      refine wpAnyH_take (i := 8) (v := undef) rfl (by kernel_rfl) (by kernel_rfl) (by kernel_rfl) (fun _ _ _ h => h) (Or.inr ⟨by rfl, rfl⟩) (by assumption) ?_
      try simp only [Act.put, getElem_toArray, getElem_cons_zero, getElem_cons_succ, setIfInBounds_toArray, set_cons_zero, set_cons_succ]
      refine wpAnyH_take (i := 9) (v := undef) rfl (by kernel_rfl) (by kernel_rfl) (by kernel_rfl) (fun _ _ _ h => h) (Or.inr ⟨by rfl, rfl⟩) (by assumption) ?_
      try simp only [Act.put, getElem_toArray, getElem_cons_zero, getElem_cons_succ, setIfInBounds_toArray, set_cons_zero, set_cons_succ]
      refine wpAnyH_take (i := 10) (v := undef) rfl (by kernel_rfl) (by kernel_rfl) (by kernel_rfl) (fun _ _ _ h => h) (Or.inr ⟨by rfl, rfl⟩) (by assumption) ?_
      try simp only [Act.put, getElem_toArray, getElem_cons_zero, getElem_cons_succ, setIfInBounds_toArray, set_cons_zero, set_cons_succ]
      refine wpAnyH_take (i := 11) (v := undef) rfl (by kernel_rfl) (by kernel_rfl) (by kernel_rfl) (fun _ _ _ h => h) (Or.inr ⟨by rfl, rfl⟩) (by assumption) ?_
      try simp only [Act.put, getElem_toArray, getElem_cons_zero, getElem_cons_succ, setIfInBounds_toArray, set_cons_zero, set_cons_succ]
      refine wpAnyH_take (i := 12) (v := undef) rfl (by kernel_rfl) (by kernel_rfl) (by kernel_rfl) (fun _ _ _ h => h) (Or.inr ⟨by rfl, rfl⟩) (by assumption) ?_
      try simp only [Act.put, getElem_toArray, getElem_cons_zero, getElem_cons_succ, setIfInBounds_toArray, set_cons_zero, set_cons_succ]
      refine wpAnyH_take (i := 13) (v := undef) rfl (by kernel_rfl) (by kernel_rfl) (by kernel_rfl) (fun _ _ _ h => h) (Or.inr ⟨by rfl, rfl⟩) (by assumption) ?_
      try simp only [Act.put, getElem_toArray, getElem_cons_zero, getElem_cons_succ, setIfInBounds_toArray, set_cons_zero, set_cons_succ]
      refine wpAnyH_take (i := 14) (v := undef) rfl (by kernel_rfl) (by kernel_rfl) (by kernel_rfl) (fun _ _ _ h => h) (Or.inr ⟨by rfl, rfl⟩) (by assumption) ?_
      try simp only [Act.put, getElem_toArray, getElem_cons_zero, getElem_cons_succ, setIfInBounds_toArray, set_cons_zero, set_cons_succ]
      refine wpAnyH_take (i := 15) (v := ?_) rfl (by kernel_rfl) (by kernel_rfl) (by kernel_rfl) (fun _ _ _ h => h) (Or.inl ⟨by rfl, ?_⟩) (by assumption) ?_; rotate_left; · (intro wq hSq; have hq := HCC.out wq hSq; go_split_ands; go_simp; (try with_reducible rfl))
      try simp only [Act.put, getElem_toArray, getElem_cons_zero, getElem_cons_succ, setIfInBounds_toArray, set_cons_zero, set_cons_succ]
      refine wpAnyH_take (i := 16) (v := ?_) rfl (by kernel_rfl) (by kernel_rfl) (by kernel_rfl) (fun _ _ _ h => h) (Or.inl ⟨by rfl, ?_⟩) (by assumption) ?_; rotate_left; · (intro wq hSq; have hq := HCC.out wq hSq; go_split_ands; go_simp; (try with_reducible rfl))
      try simp only [Act.put, getElem_toArray, getElem_cons_zero, getElem_cons_succ, setIfInBounds_toArray, set_cons_zero, set_cons_succ]
      refine wpAnyH_done (by kernel_rfl) ?_ _
      go_wp2_with fail
      go_ret
      exact ⟨by rw [E2.out]; rfl, l, HD.out.grow (HF.out.trans' hHeld), by rw [E2.out], rfl, (HF.out.trans' hHeld).mono (fun _ _ h => h.elim)⟩
    · have b3 : (x.1.acc == 3) = false := by simpa using ha
      refine wpAnyH_take (i := 0) (v := ?_) rfl (by kernel_rfl) (by kernel_rfl) (by kernel_rfl) (fun _ _ _ h => h) (Or.inl ⟨by rfl, ?_⟩) (by assumption) ?_; rotate_left; · (intro wq hSq; have hq := HCC.out wq hSq; go_split_ands; go_simp; (try with_reducible rfl))
      try simp only [Act.put, getElem_toArray, getElem_cons_zero, getElem_cons_succ, setIfInBounds_toArray, set_cons_zero, set_cons_succ]
      refine wpAnyH_take (i := 1) (v := ?_) rfl (by kernel_rfl) (by kernel_rfl) (by kernel_rfl) (fun _ _ _ h => h) (Or.inl ⟨by rfl, ?_⟩) (by assumption) ?_; rotate_left; · (intro wq hSq; have hq := HCC.out wq hSq; go_split_ands; go_simp; (try with_reducible rfl))
      try simp only [Act.put, getElem_toArray, getElem_cons_zero, getElem_cons_succ, setIfInBounds_toArray, set_cons_zero, set_cons_succ]
      refine wpAnyH_take (i := 2) (v := ?_) rfl (by kernel_rfl) (by kernel_rfl) (by kernel_rfl) (fun _ _ _ h => h) (Or.inl ⟨by rfl, ?_⟩) (by assumption) ?_; rotate_left; · (intro wq hSq; have hq := HCC.out wq hSq; go_split_ands; go_simp; (try with_reducible rfl))
      try simp only [Act.put, getElem_toArray, getElem_cons_zero, getElem_cons_succ, setIfInBounds_toArray, set_cons_zero, set_cons_succ]
      refine wpAnyH_take (i := 3) (v := ?_) rfl (by kernel_rfl) (by kernel_rfl) (by kernel_rfl) (fun _ _ _ h => h) (Or.inl ⟨by rfl, ?_⟩) (by assumption) ?_; rotate_left; · (intro wq hSq; have hq := HCC.out wq hSq; go_split_ands; go_simp; (try with_reducible rfl))
      try simp only [Act.put, getElem_toArray, getElem_cons_zero, getElem_cons_succ, setIfInBounds_toArray, set_cons_zero, set_cons_succ]
      refine wpAnyH_take (i := 4) (v := ?_) rfl (by kernel_rfl) (by kernel_rfl) (by kernel_rfl) (fun _ _ _ h => h) (Or.inl ⟨by rfl, ?_⟩) (by assumption) ?_; rotate_left; · (intro wq hSq; have hq := HCC.out wq hSq; go_split_ands; go_simp; (try with_reducible rfl))
      try simp only [Act.put, getElem_toArray, getElem_cons_zero, getElem_cons_succ, setIfInBounds_toArray, set_cons_zero, set_cons_succ]
      refine wpAnyH_take (i := 5) (v := ?_) rfl (by kernel_rfl) (by kernel_rfl) (by kernel_rfl) (fun _ _ _ h => h) (Or.inl ⟨by rfl, ?_⟩) (by assumption) ?_; rotate_left; · (intro wq hSq; have hq := HCC.out wq hSq; go_split_ands; go_simp; (try with_reducible rfl))
      try simp only [Act.put, getElem_toArray, getElem_cons_zero, getElem_cons_succ, setIfInBounds_toArray, set_cons_zero, set_cons_succ]
      refine wpAnyH_take (i := 6) (v := ?_) rfl (by kernel_rfl) (by kernel_rfl) (by kernel_rfl) (fun _ _ _ h => h) (Or.inl ⟨by rfl, ?_⟩) (by assumption) ?_; rotate_left; · (intro wq hSq; have hq := HCC.out wq hSq; go_split_ands; go_simp; (try with_reducible rfl))
      try simp only [Act.put, getElem_toArray, getElem_cons_zero, getElem_cons_succ, setIfInBounds_toArray, set_cons_zero, set_cons_succ]
      refine wpAnyH_take (i := 7) (v := ?_) rfl (by kernel_rfl) (by kernel_rfl) (by kernel_rfl) (fun _ _ _ h => h) (Or.inl ⟨by rfl, ?_⟩) (by assumption) ?_; rotate_left; · (intro wq hSq; have hq := HCC.out wq hSq; go_split_ands; go_simp; (try with_reducible rfl))
      try simp only [Act.put, getElem_toArray, getElem_cons_zero, getElem_cons_succ, setIfInBounds_toArray, set_cons_zero, set_cons_succ]
      refine wpAnyH_take (i := 8) (v := ?_) rfl (by kernel_rfl) (by kernel_rfl) (by kernel_rfl) (fun _ _ _ h => h) (Or.inl ⟨by rfl, ?_⟩) (by assumption) ?_; rotate_left; · (intro wq hSq; have hq := HCC.out wq hSq; go_split_ands; go_simp; (try with_reducible rfl))
      try simp only [Act.put, getElem_toArray, getElem_cons_zero, getElem_cons_succ, setIfInBounds_toArray, set_cons_zero, set_cons_succ]
      refine wpAnyH_take (i := 9) (v := ?_) rfl (by kernel_rfl) (by kernel_rfl) (by kernel_rfl) (fun _ _ _ h => h) (Or.inl ⟨by rfl, ?_⟩) (by assumption) ?_; rotate_left; · (intro wq hSq; have hq := HCC.out wq hSq; go_split_ands; go_simp; (try with_reducible rfl))
      try simp only [Act.put, getElem_toArray, getElem_cons_zero, getElem_cons_succ, setIfInBounds_toArray, set_cons_zero, set_cons_succ]
      refine wpAnyH_take (i := 10) (v := ?_) rfl (by kernel_rfl) (by kernel_rfl) (by kernel_rfl) (fun _ _ _ h => h) (Or.inl ⟨by rfl, ?_⟩) (by assumption) ?_; rotate_left; · (intro wq hSq; have hq := HCC.out wq hSq; go_split_ands; go_simp; (try with_reducible rfl))
      try simp only [Act.put, getElem_toArray, getElem_cons_zero, getElem_cons_succ, setIfInBounds_toArray, set_cons_zero, set_cons_succ]
      refine wpAnyH_take (i := 11) (v := ?_) rfl (by kernel_rfl) (by kernel_rfl) (by kernel_rfl) (fun _ _ _ h => h) (Or.inl ⟨by rfl, ?_⟩) (by assumption) ?_; rotate_left; · (intro wq hSq; have hq := HCC.out wq hSq; go_split_ands; go_simp; (try with_reducible rfl))
      try simp only [Act.put, getElem_toArray, getElem_cons_zero, getElem_cons_succ, setIfInBounds_toArray, set_cons_zero, set_cons_succ]
      refine wpAnyH_take (i := 12) (v := ?_) rfl (by kernel_rfl) (by kernel_rfl) (by kernel_rfl) (fun _ _ _ h => h) (Or.inl ⟨by rfl, ?_⟩) (by assumption) ?_; rotate_left; · (intro wq hSq; have hq := HCC.out wq hSq; go_split_ands; go_simp; (try with_reducible rfl))
      try simp only [Act.put, getElem_toArray, getElem_cons_zero, getElem_cons_succ, setIfInBounds_toArray, set_cons_zero, set_cons_succ]
      refine wpAnyH_take (i := 13) (v := ?_) rfl (by kernel_rfl) (by kernel_rfl) (by kernel_rfl) (fun _ _ _ h => h) (Or.inl ⟨by rfl, ?_⟩) (by assumption) ?_; rotate_left; · (intro wq hSq; have hq := HCC.out wq hSq; go_split_ands; go_simp; (try with_reducible rfl))
      try simp only [Act.put, getElem_toArray, getElem_cons_zero, getElem_cons_succ, setIfInBounds_toArray, set_cons_zero, set_cons_succ]
      refine wpAnyH_take (i := 14) (v := ?_) rfl (by kernel_rfl) (by kernel_rfl) (by kernel_rfl) (fun _ _ _ h => h) (Or.inl ⟨by rfl, ?_⟩) (by assumption) ?_; rotate_left; · (intro wq hSq; have hq := HCC.out wq hSq; go_split_ands; go_simp; (try with_reducible rfl))
      try simp only [Act.put, getElem_toArray, getElem_cons_zero, getElem_cons_succ, setIfInBounds_toArray, set_cons_zero, set_cons_succ]
      refine wpAnyH_take (i := 15) (v := ?_) rfl (by kernel_rfl) (by kernel_rfl) (by kernel_rfl) (fun _ _ _ h => h) (Or.inl ⟨by rfl, ?_⟩) (by assumption) ?_; rotate_left; · (intro wq hSq; have hq := HCC.out wq hSq; go_split_ands; go_simp; (try with_reducible rfl))
      try simp only [Act.put, getElem_toArray, getElem_cons_zero, getElem_cons_succ, setIfInBounds_toArray, set_cons_zero, set_cons_succ]
      refine wpAnyH_take (i := 16) (v := ?_) rfl (by kernel_rfl) (by kernel_rfl) (by kernel_rfl) (fun _ _ _ h => h) (Or.inl ⟨by rfl, ?_⟩) (by assumption) ?_; rotate_left; · (intro wq hSq; have hq := HCC.out wq hSq; go_split_ands; go_simp; (try with_reducible rfl))
      try simp only [Act.put, getElem_toArray, getElem_cons_zero, getElem_cons_succ, setIfInBounds_toArray, set_cons_zero, set_cons_succ]
      refine wpAnyH_done (by kernel_rfl) ?_ _
      by_cases ht : v.ty = x.2.ty
      case neg =>
        have bt : (v.ty != x.2.ty) = true := by simpa using ht
        have E2 := Lib.hid (HBAD.out 1 (by decide) (by rw [HC.out, if_pos (.inr ht)]))
        clear ha HC ht
        go_wp2_with fail
        go_ret
        exact ⟨by rw [E2.out]; rfl, l, HD.out.grow (HF.out.trans' hHeld), by rw [E2.out], rfl, (HF.out.trans' hHeld).mono (fun _ _ h => h.elim)⟩
      case pos =>
        have bt : (v.ty != x.2.ty) = false := by simpa using ht
        have HC2 : Hid (sc = checkV v) := by unfold Hid; rw [HC.out, if_neg (by omega)]
        clear ha HC ht
        have kx := hHeld.heap KI.out (fun h => h)
        have ky := hHeld.heap K0.out (fun h => h)
        have HFZ := Lib.hid (HF.out.trans' hHeld)
        have HKZ := Lib.hid ky
        have HIZ := Lib.hid kx
        have hsz := hHeld.size
        clear hHeld HCC hz
        generalize w1.drew = wz at *
        have t0 : wz.cell? ⟨w.heap.size, 0, none⟩ = some (.int .i64 v.ty) := cell_at ky
        have t1 : wz.cell? ⟨w.heap.size, 1, none⟩ = some (.int .u64 v.n) := cell_at ky
        have t2 : wz.cell? ⟨w.heap.size, 2, none⟩ = some (.string (strB2 v.b)) := cell_at ky
        clear kx ky
        by_cases hck : checkV v = 0
        case neg =>
          have E2 := Lib.hid (HBAD.out _ hck HC2.out)
          generalize checkV v = cv at *
          have hb : (cv != 0) = true := by simpa using hck
          clear hck
          go_wp2_with (go_at_call 52; refine (HCK.out _).mono ?_; rintro e w5 ⟨rfl, hF5⟩)
          go_ret
          exact ⟨by rw [E2.out]; rfl, l, HD.out.grow (HFZ.out.trans' hF5), by rw [E2.out], rfl, (HFZ.out.trans' hF5).mono (fun _ _ h => h.elim)⟩
        case pos =>
          have E2 : Hid (setD (im l) i s v = ((im l).set k (x.1, plainV v), 0)) := by
            unfold Hid
            rw [E.out, if_neg (by rw [HC2.out, hck]; simp)]
          rw [hck] at HCK
          clear hck HC2 HBAD
          go_upto_region 7 with (go_at_call 52; refine (HCK.out _).mono ?_; rintro e w5 ⟨rfl, hF5⟩)
          have ky := hF5.heap HKZ.out (fun h => h)
          have HF5 := Lib.hid (HFZ.out.trans' hF5)
          have KI5 := Lib.hid (hF5.heap HIZ.out (fun h => h))
          have K5 := Lib.hid ky
          clear t0 t1 t2 hF5
          have t0 : w5.cell? ⟨w.heap.size, 0, none⟩ = some (.int .i64 v.ty) := cell_at ky
          have t1 : w5.cell? ⟨w.heap.size, 1, none⟩ = some (.int .u64 v.n) := cell_at ky
          have t2 : w5.cell? ⟨w.heap.size, 2, none⟩ = some (.string (strB2 v.b)) := cell_at ky
          clear ky
          generalize plainV v = pv at *
          go_wp2_with (go_at_call 37; refine (HPL.out _).mono ?_; rintro e w6 ⟨rfl, hF6⟩; have kx6 := hF6.heap KI5.out (fun h => h); have y0 : w6.cell? ⟨p, 14, none⟩ = some (.int .i64 x.2.ty) := cell_at kx6; have y1 : w6.cell? ⟨p, 15, none⟩ = some (.int .u64 x.2.n) := cell_at kx6; have y2 : w6.cell? ⟨p, 16, none⟩ = some (.string (strB2 x.2.b)) := cell_at kx6; have f6 := frees kx6; have l6 := lt_of_block kx6; have KI6 : Hid (ItAt w6 p x) := kx6; have HF6 := Lib.hid (HF5.out.trans' hF6); clear kx6 hF6)
          go_ret
          have hD0 := HD.out.grow HF6.out
          have hI1 := store17 pv KI6.out
          have hset : Frm (One p) w6 (((w6.setCell ⟨p, 14, none⟩ (.int .i64 pv.ty)).setCell ⟨p, 15, none⟩ (.int .u64 pv.n)).setCell ⟨p, 16, none⟩ (.string (strB2 pv.b))) :=
            (((Frm.refl (One p) _).setCell (p := ⟨p, 14, none⟩) (fun _ => rfl) _).setCell (p := ⟨p, 15, none⟩) (fun _ => rfl) _).setCell (p := ⟨p, 16, none⟩) (fun _ => rfl) _
          have hfin := (hD0.upd hk (x.1, pv) (by rw [← HP.out]; exact hset) (by rw [← HP.out]; exact hI1))
          refine ⟨by rw [E2.out]; rfl, _, hfin, ?_, upd_fst hk _, ?_⟩
          · rw [upd_im, E2.out]
          · exact (HF6.out.mono (T := fun j => ∃ q ∈ l, j = q.1) (fun _ _ h => h.elim)).trans hset (fun i hi e => ⟨l[k], List.getElem_mem hk, by have e : i = p := e; rw [e, HP.out]⟩)
  · have E : Hid (setD (im l) i s v = (im l, 4)) := by
      unfold Hid setD
      rw [hfd]
    have hb : (findC (im l) i s != 0) = true := by simpa using hne
    generalize findC (im l) i s = c at *
    clear hfd hne
    go_wp2_with fail
    go_ret
    exact ⟨by rw [E.out]; rfl, l, HD.out.grow HF.out, by rw [E.out], rfl, HF.out.mono (fun _ _ h => h.elim)⟩
end Go.Proofs.Ytemjdmgfilbfaaa
namespace Go.Proofs.Ytemjdmgfilbfaaa
open Go.RowKit
set_option linter.unusedVariables false

theorem el_EntryL : El Try.prog 22 42 14 120 := El.of Try.underlying22 (z := .agg #[.int .u16 0, .int .u8 0, .int .i64 0, .bool false, .bool false, .int .i64 0, .int .u64 0, .string ⟨#[]⟩, .int .i64 0, .int .u64 0, .string ⟨#[]⟩, .int .i64 0, .int .u64 0, .string ⟨#[]⟩]) (by kernel_rfl) rfl (by decide)
def ListP (d : List Im) (w : World) (e : Ending) (w' : World) : Prop := ∃ v, e = .returned v ∧ w'.ownsRow w.heap.size 42 14 v d.length (cellsOf cellsE (d.map (·.1))) ∧ Frm (fun _ => False) w w'

set_option maxRecDepth 100000 in
set_option maxHeartbeats 2000000 in
theorem odList_any (b : Nat) (l : List (Nat × Im)) (w : World) (h : DAt w b l) (hlen : l.length ≤ 1024) : Calls Try.prog 20 #[ptr b] w (ListP (im l) w) := by
  obtain ⟨v, hO, hr⟩ := h.row
  have HEL := Lib.hid h.el
  obtain ⟨A, cap, rfl, h1, h2, h3⟩ := row_open hr
  have c0 : w.cell? ⟨b, 0, none⟩ = some (.slice A l.length cap) := cell_at hO
  have hcell : ∀ (k : Nat) (hk : k < l.length), ∃ g, A = some ⟨g, 0, none⟩ ∧ w.cell? ⟨g, k, none⟩ = some (ptr l[k].1) ∧ g < w.heap.size := fun k hk => by
    obtain ⟨g, e, _, ⟨cur, hc⟩, _, hcc⟩ := h3 (by omega)
    exact ⟨g, e, by rw [hcc k (by omega)]; simp [hk], lt_of_block hc⟩
  have HCE := Lib.hid hcell
  clear h hO hr h1 h2 h3 hcell
  unfold ptr at HCE
  unfold ptr ListP
  go_enter Try.func20, Try.ntmps20
  go_wp2_with fail
  clear c0
  go_loopw [3, 5, 11] (fun bv _ i wr => ∃ k : Nat, k ≤ l.length ∧ i = .int .i64 k ∧ wr.ownsRow w.heap.size 42 14 bv k (cellsOf cellsE ((l.take k).map (·.2.1))) ∧ Frm (fun _ => False) w wr) (fun _ _ i _ => l.length - (intOf i).toNat)
  case atStart => exact ⟨0, Nat.zero_le _, rfl, World.ownsRow_nil _ _ _ _, Frm.refl _ _⟩
  case round =>
    obtain ⟨k, hk, rfl, hO, hF⟩ := hrel
    by_cases hlt : k < l.length
    · obtain ⟨g, rfl, cg, hg⟩ := HCE.out k hlt
      have hm := List.getElem_mem hlt
      have hek : cellsOf cellsE ((l.take (k + 1)).map (·.2.1)) = cellsOf cellsE ((l.take k).map (·.2.1)) ++ cellsE l[k].2.1 := by
        rw [List.take_succ_eq_append_getElem hlt, List.map_append]
        unfold cellsOf
        rw [List.flatMap_append]
        simp
      have hi := hF.heap (HEL.out _ hm) (fun h => h)
      have HEK := Lib.hid hek
      have cg' := hF.cell cg (fun h => h)
      have hg' := Nat.lt_of_lt_of_le hg hF.size
      clear hek hm cg hg
      obtain ⟨rb, hrb⟩ : ∃ rb, rb = cellsOf cellsE ((l.take k).map (·.2.1)) := ⟨_, rfl⟩
      rw [← hrb] at hO HEK
      clear hrb
      generalize l[k].1 = p at *
      generalize l[k].2 = x at *
      have i0 : wr.cell? ⟨p, 0, none⟩ = some (.int .u16 x.1.idx) := cell_at hi
      have i1 : wr.cell? ⟨p, 1, none⟩ = some (.int .u8 x.1.sub) := cell_at hi
      have i2 : wr.cell? ⟨p, 2, none⟩ = some (.int .i64 x.1.acc) := cell_at hi
      have i3 : wr.cell? ⟨p, 3, none⟩ = some (.bool x.1.mp) := cell_at hi
      have i4 : wr.cell? ⟨p, 4, none⟩ = some (.bool x.1.lim) := cell_at hi
      have i5 : wr.cell? ⟨p, 5, none⟩ = some (.int .i64 x.1.mn.ty) := cell_at hi
      have i6 : wr.cell? ⟨p, 6, none⟩ = some (.int .u64 x.1.mn.n) := cell_at hi
      have i7 : wr.cell? ⟨p, 7, none⟩ = some (.string (strB2 x.1.mn.b)) := cell_at hi
      have i8 : wr.cell? ⟨p, 8, none⟩ = some (.int .i64 x.1.mx.ty) := cell_at hi
      have i9 : wr.cell? ⟨p, 9, none⟩ = some (.int .u64 x.1.mx.n) := cell_at hi
      have i10 : wr.cell? ⟨p, 10, none⟩ = some (.string (strB2 x.1.mx.b)) := cell_at hi
      have i11 : wr.cell? ⟨p, 11, none⟩ = some (.int .i64 x.1.df.ty) := cell_at hi
      have i12 : wr.cell? ⟨p, 12, none⟩ = some (.int .u64 x.1.df.n) := cell_at hi
      have i13 : wr.cell? ⟨p, 13, none⟩ = some (.string (strB2 x.1.df.b)) := cell_at hi
      obtain ⟨Al, cl, rfl, g3, g4, _⟩ := row_open hO
      have HO := Lib.hid hO
      have HF := Lib.hid hF
      have hsz := hF.size
      have hm1 : k + 1 ≤ maxLen := by unfold maxLen; omega
      have hm2 : (k + 1) * 120 ≤ 140737488355328 := by omega
      clear hi hO hF
      go_wp2_with (at_builtin; refine wpl_app rfl el_EntryL (.tmp 15) (.tmp 20) rfl (B := w.heap.size) (e2 := 42) (fr := (0, 0)) (m := 1) (arr := (cellsE x.1).toArray) rfl rfl (Frm.row (S := fun _ => False) (by (repeat' (first | (with_reducible exact Frm.refl _ _) | (with_reducible assumption) | (with_reducible refine Frm.alloc ?_ _) | (with_reducible refine Frm.drew ?_) | (with_reducible refine Frm.drewN ?_ _) | (with_reducible refine Frm.set1 ?_ _) | (with_reducible refine Frm.setCell ?_ ?_ _) | (exact fun h => absurd h (Nat.lt_irrefl _)) | (intro hlt; simp [World.size_alloc, One] at hlt ⊢; omega)))) HO.out (fun _ _ h => h)) (heap_new_at (by simp)) rfl (by simp [cellsE, Value.oneCell']) (by decide) hm1 hm2 (by simp; omega) ?_; intro g5 cap5 w5 hown5 hfr5 hat5 hlt5)
      have hF5 : Frm (fun _ => False) w w5 := HF.out.trans (Frm.trans (b := _) (by (repeat' (first | (with_reducible exact Frm.refl _ _) | (with_reducible assumption) | (with_reducible refine Frm.alloc ?_ _) | (with_reducible refine Frm.drew ?_) | (with_reducible refine Frm.drewN ?_ _) | (with_reducible refine Frm.set1 ?_ _) | (with_reducible refine Frm.setCell ?_ ?_ _) | (exact fun h => absurd h (Nat.lt_irrefl _)) | (intro hlt; simp [World.size_alloc, One] at hlt ⊢; omega)))) hfr5 (fun _ _ h => h)) (fun i hi hs => absurd (row_block HO.out hs).1 (by omega))
      go_roundw
      case rel => exact ⟨k + 1, by omega, by go_num, by rw [HEK.out]; exact hown5, hF5⟩
      case measure => simp [intOf]; omega
    · have hkn : k = l.length := by omega
      subst hkn
      rw [List.take_length] at hO
      go_wp2_with fail
      go_ret
      exact ⟨_, rfl, by simpa [im, List.map_map, Function.comp_def] using hO, hF⟩
end Go.Proofs.Ytemjdmgfilbfaaa
