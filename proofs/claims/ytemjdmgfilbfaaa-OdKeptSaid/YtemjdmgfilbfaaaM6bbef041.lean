/-
  Begins: a dictionary by the program and by the document. What the document's May tells, against the code's: plain. The document's May. The document's Write. read32: four bytes as a number. Saved values, plain; parts of bytes in memory.
-/
import Derived.Test.YtemjdmgfilbfaaaProg
import Derived.Deep.QuietTactic
import Derived.BigQuiet
import Derived.Laws.Bits64b
import Derived.Laws.BitsAllLaws
import Derived.Test.YtemjdmgfilbfaaaMc069bbb5
import Derived.Test.YtemjdmgfilbfaaaM1d64679b
import Derived.Test.YtemjdmgfilbfaaaM4c8e25fb
import Derived.Test.YtemjdmgfilbfaaaMcc0c86f2
import Derived.Test.YtemjdmgfilbfaaaM38f6fa6d
set_option linter.unusedVariables false
set_option linter.unusedSimpArgs false
namespace Go.Proofs.Ytemjdmgfilbfaaa
open Go.RowKit
set_option linter.unusedVariables false
set_option linter.unusedSimpArgs false

theorem odCheck_any (v : Value) (xs : List En) (w : World) (h : SlAt cellsE 14 w v xs) (hx : ∀ x ∈ xs, x.ok) : Calls Try.prog 50 #[v] w fun e w' => e = .returned (.int .i64 (checkE xs)) ∧ Frm (fun _ => False) w w' := by
  have HCHK := Lib.hid (odChk_any v xs w h hx)
  go_enter Try.func50, Try.ntmps50
  go_wp2_with (go_at_call 36; refine HCHK.out.mono ?_; rintro e w3 ⟨rfl, hF3⟩)
  go_ret
  exact ⟨rfl, hF3⟩

def BeginP (xs : List En) (W : World) (e : Ending) (w' : World) : Prop :=
  Frm (fun _ => False) W w' ∧ ((checkE xs ≠ 0 ∧ e = .returned (.tuple #[.pointer none, .bool true])) ∨
    (checkE xs = 0 ∧ ∃ a b p l B, e = .returned (.tuple #[ptr a, .bool true]) ∧ w'.heap[a]? = some (.cells #[ptr b, ptr p] 52 (0, 0)) ∧ DAt w' b l ∧ im l = newD xs ∧ DR w' p B (newD xs) ∧ W.heap.size ≤ b ∧ b < B ∧ (∀ q ∈ l, q.1 < B) ∧ B ≤ p ∧ B ≤ a))

set_option maxRecDepth 100000 in
set_option maxHeartbeats 4000000 in
theorem begins_any (v0 : Value) (xs : List En) (W : World) (h0 : SlAt cellsE 14 W v0 xs) (hx : ∀ x ∈ xs, x.ok) (hby : xs.length * 120 ≤ 140737488351232) :
    Calls Try.prog 19 #[v0] W (BeginP xs W) := by
  have H0 := Lib.hid h0
  obtain ⟨A, cap, rfl, hc1, hc2, hnews, hlen⟩ := news_entries h0
  have HNW := Lib.hid hnews
  have HLEN := Lib.hid hlen
  have HONE := Lib.hid (oneE xs)
  have hm1 : 0 + xs.length ≤ maxLen := by omega
  have hm2 : (0 + xs.length) * 120 ≤ 140737488355328 := by omega
  have HNEW := Lib.hid (fun v W h => odNew_any v xs W h hx)
  have HRN := Lib.hid (fun W h => rDNew_any (.slice A xs.length cap) xs W h hx)
  have HCHK := Lib.hid (fun W h => odCheck_any (.slice A xs.length cap) xs W h hx)
  unfold BeginP
  unfold ONewP at HNEW
  unfold RNewP at HRN
  clear h0 hnews hlen hby hx
  by_cases hz : checkE xs = 0
  case neg =>
    have HZ := Lib.hid hz
    clear hz
    go_enter Try.func19, Try.ntmps19
    go_upto_region 3 with (first | (at_builtin; refine wpl_app_src rfl el_Entry (.tmp 9) (.tmp 10) rfl (B := W.heap.size) (xs := []) (news := cellsOf cellsE xs) rfl rfl (row_new (by simp) rfl rfl (by decide) (by simp)) HLEN.out (fun h => (HNW.out h).grow (by (repeat' (first | (with_reducible exact Frm.refl _ _) | (with_reducible assumption) | (with_reducible refine Frm.alloc ?_ _) | (with_reducible refine Frm.drew ?_) | (with_reducible refine Frm.drewN ?_ _) | (with_reducible refine Frm.set1 ?_ _) | (with_reducible refine Frm.setCell ?_ ?_ _) | (exact fun h => absurd h (Nat.lt_irrefl _)) | (intro hlt; simp [World.size_alloc, One] at hlt ⊢; omega))))) HONE.out hm1 hm2 (by simp) ?_; intro A2 cap2 w1 hown1 hfr1) | (go_at_call 12; have hsl1 : SlAt cellsE 14 w1 (.slice A2 xs.length cap2) xs := SlAt.of_row cellsE_len (by simpa using hown1); have hF1 : Frm (fun _ => False) W w1 := (Frm.trans (b := _) (T := fun k => (Value.slice (some ⟨W.heap.size, 0, none⟩) 0 0).ownBlock = some k) (by (repeat' (first | (with_reducible exact Frm.refl _ _) | (with_reducible assumption) | (with_reducible refine Frm.alloc ?_ _) | (with_reducible refine Frm.drew ?_) | (with_reducible refine Frm.drewN ?_ _) | (with_reducible refine Frm.set1 ?_ _) | (with_reducible refine Frm.setCell ?_ ?_ _) | (exact fun h => absurd h (Nat.lt_irrefl _)) | (intro hlt; simp [World.size_alloc, One] at hlt ⊢; omega)))) hfr1 (fun i hi e => absurd hi (by cases e; exact Nat.lt_irrefl _))); refine (HNEW.out _ _ hsl1).mono ?_; rintro e w2 ⟨hF2, ⟨hne, rfl⟩ | h⟩; rotate_left; exact absurd h.1 HZ.out; have HF2 := Lib.hid (hF1.trans' hF2)) | (go_at_call 49; refine (HRN.out _ (SlAt.frm cellsE_len H0.out HF2.out)).mono ?_; rintro e w4 ⟨hF4, ⟨hne4, rfl⟩ | h⟩; rotate_left; exact absurd h.1 HZ.out; have HF4 := Lib.hid (HF2.out.trans' hF4)))
    clear hfr1 hown1 hsl1 hF2 hF4 hF1 HNEW HNW HLEN HONE hm1 hm2 hne hne4
    go_wp2_with (go_at_call 50; refine (HCHK.out _ (SlAt.frm cellsE_len H0.out HF4.out)).mono ?_; rintro e w5 ⟨rfl, hF5⟩)
    go_ret2
    exact ⟨HF4.out.trans' hF5, .inl ⟨HZ.out, rfl⟩⟩
  case pos =>
    have HZ := Lib.hid hz
    clear hz
    go_enter Try.func19, Try.ntmps19
    go_upto_region 3 with (first | (at_builtin; refine wpl_app_src rfl el_Entry (.tmp 9) (.tmp 10) rfl (B := W.heap.size) (xs := []) (news := cellsOf cellsE xs) rfl rfl (row_new (by simp) rfl rfl (by decide) (by simp)) HLEN.out (fun h => (HNW.out h).grow (by (repeat' (first | (with_reducible exact Frm.refl _ _) | (with_reducible assumption) | (with_reducible refine Frm.alloc ?_ _) | (with_reducible refine Frm.drew ?_) | (with_reducible refine Frm.drewN ?_ _) | (with_reducible refine Frm.set1 ?_ _) | (with_reducible refine Frm.setCell ?_ ?_ _) | (exact fun h => absurd h (Nat.lt_irrefl _)) | (intro hlt; simp [World.size_alloc, One] at hlt ⊢; omega))))) HONE.out hm1 hm2 (by simp) ?_; intro A2 cap2 w1 hown1 hfr1) | (go_at_call 12; have hsl1 : SlAt cellsE 14 w1 (.slice A2 xs.length cap2) xs := SlAt.of_row cellsE_len (by simpa using hown1); have hF1 : Frm (fun _ => False) W w1 := (Frm.trans (b := _) (T := fun k => (Value.slice (some ⟨W.heap.size, 0, none⟩) 0 0).ownBlock = some k) (by (repeat' (first | (with_reducible exact Frm.refl _ _) | (with_reducible assumption) | (with_reducible refine Frm.alloc ?_ _) | (with_reducible refine Frm.drew ?_) | (with_reducible refine Frm.drewN ?_ _) | (with_reducible refine Frm.set1 ?_ _) | (with_reducible refine Frm.setCell ?_ ?_ _) | (exact fun h => absurd h (Nat.lt_irrefl _)) | (intro hlt; simp [World.size_alloc, One] at hlt ⊢; omega)))) hfr1 (fun i hi e => absurd hi (by cases e; exact Nat.lt_irrefl _))); refine (HNEW.out _ _ hsl1).mono ?_; rintro e w2 ⟨hF2, h | ⟨-, b, l, rfl, hD, hl, hb⟩⟩; exact absurd HZ.out h.1; have HF2 := Lib.hid (hF1.trans' hF2); have HD := Lib.hid hD; have HL := Lib.hid hl; have HB0 : Hid (W.heap.size ≤ b) := Nat.le_trans hF1.size hb) | (go_at_call 49; refine (HRN.out _ (SlAt.frm cellsE_len H0.out HF2.out)).mono ?_; rintro e w4 ⟨hF4, h | ⟨-, p, rfl, hDR, hp⟩⟩; exact absurd HZ.out h.1; have HF4 := Lib.hid (HF2.out.trans' hF4); have HD4 := Lib.hid (HD.out.grow hF4); have HDR := Lib.hid hDR; have HP := Lib.hid hp; have HS4 := Lib.hid hF4.size))
    clear hfr1 hown1 hsl1 hF2 hF4 hF1 HNEW HNW HLEN HONE hm1 hm2 hD hl hb hDR hp
    rw [HZ.out] at HCHK
    unfold ptr
    go_wp2_with (go_at_call 50; refine (HCHK.out _ (SlAt.frm cellsE_len H0.out HF4.out)).mono ?_; rintro e w5 ⟨rfl, hF5⟩)
    go_ret2
    have hF6 : Frm (fun _ => False) w4 (w5.alloc (.cells #[ptr b, ptr p] 52)) := hF5.alloc _
    refine ⟨HF4.out.trans' hF6, .inr ⟨HZ.out, _, b, p, l, w2.heap.size, rfl, heap_new _ _, HD4.out.grow hF6, HL.out, HDR.out.grow hF6, HB0.out, HD.out.blt, HD.out.lt, HP.out, ?_⟩⟩
    have := hF5.size
    have := HS4.out
    omega
end Go.Proofs.Ytemjdmgfilbfaaa
namespace Go.Proofs.Ytemjdmgfilbfaaa
set_option linter.unusedVariables false

/-- Of two values of one kind that can be, the order is told. -/
theorem order_ok {a b : Va} (ha : checkV a = 0) (hb : checkV b = 0) (ht : a.ty = b.ty) : (orderV a b).2 = 0 := by
  unfold orderV
  rw [if_neg (by simpa using ha), if_neg (by simpa using hb), if_neg (by simpa using ht)]
  split
  · rfl
  · split <;> rfl
theorem order_inv {a b : Va} (h : (orderV a b).2 = 0) : checkV a = 0 ∧ checkV b = 0 ∧ a.ty = b.ty := by
  unfold orderV at h
  by_cases h1 : checkV a = 0
  · by_cases h2 : checkV b = 0
    · by_cases h3 : a.ty = b.ty
      · exact ⟨h1, h2, h3⟩
      · rw [if_neg (by simpa using h1), if_neg (by simpa using h2), if_pos h3] at h
        exact absurd h (by decide)
    · rw [if_neg (by simpa using h1), if_pos h2] at h
      exact absurd h h2
  · rw [if_pos h1] at h
    exact absurd h h1
theorem within_inv {x : En} {v : Va} (h : (withinE x v).2 = true) : (orderV v x.mn).2 = 0 ∧ (orderV v x.mx).2 = 0 := by
  unfold withinE at h
  by_cases h1 : (orderV v x.mn).2 ≠ 0 ∨ (orderV v x.mx).2 ≠ 0
  · rw [if_pos h1] at h; exact absurd h (by decide)
  · omega
theorem within_can {x : En} {v : Va} (h1 : (orderV v x.mn).2 = 0) (h2 : (orderV v x.mx).2 = 0) : (withinE x v).2 = true := by
  unfold withinE
  rw [if_neg (by omega)]
  split
  · rfl
  · split <;> rfl
/-- The limits of an entry that was taken can be told against any value of its kind. -/
theorem lim_can {x : En} (h : entryE x = 0) (hl : x.lim = true) {v : Va} (hv : checkV v = 0) (ht : v.ty = x.df.ty) : (withinE x v).2 = true := by
  obtain ⟨_, e⟩ := entry_lim h hl
  obtain ⟨h1, h2⟩ := within_inv (x := x) (v := x.df) (by rw [e])
  obtain ⟨_, b1, c1⟩ := order_inv h1
  obtain ⟨_, b2, c2⟩ := order_inv h2
  exact within_can (order_ok hv b1 (by rw [ht, c1])) (order_ok hv b2 (by rw [ht, c2]))
theorem entry_isT {x : En} (h : entryE x = 0) : checkV x.df = 0 ∧ isT x.df.ty = true := by
  have h0 : checkV x.df = 0 := by
    unfold entryE at h
    by_cases h0 : checkV x.df = 0
    · exact h0
    · rw [if_pos h0] at h; exact h
  refine ⟨h0, ?_⟩
  unfold checkV at h0
  cases hi : isT x.df.ty
  · rw [if_pos hi] at h0; exact absurd h0 (by decide)
  · rfl
theorem dec_code {t : Int} (h : isT t = true) (b : List UInt8) : (decV t b).2 = 0 ∧ checkV (decV t b).1 = 0 ∧ (decV t b).1.ty = t ∨ (decV t b).2 = 2 ∨ (decV t b).2 = 3 ∨ (decV t b).2 = 8 := by
  unfold decV
  rw [if_neg (by rw [h]; decide)]
  split
  · exact .inr (.inr (.inl rfl))
  · split
    · exact .inr (.inl rfl)
    · split
      · exact .inr (.inr (.inr rfl))
      · rename_i h3
        refine .inl ⟨rfl, Decidable.not_not.1 h3, ?_⟩
        show (rawV t b).ty = t
        unfold rawV
        split <;> rfl
/-- The document's code for bytes. -/
def takeR (x : En) (b : List UInt8) : Int :=
  if x.acc ≠ 1 ∧ x.acc ≠ 2 then codeNoWrite
  else if (decV x.df.ty b).2 = 3 then codeShort
  else if (decV x.df.ty b).2 = 2 then codeLong
  else if (decV x.df.ty b).2 = 8 then codeBad
  else if x.lim = true then (withinE x (decV x.df.ty b).1).1
  else 0
theorem takeR_eq {x : En} (h : entryE x = 0) (b : List UInt8) : takeR x b = (takeE x b).1 := by
  obtain ⟨h0, h1⟩ := entry_isT h
  unfold takeR takeE
  by_cases a : x.acc ≠ 1 ∧ x.acc ≠ 2
  · rw [if_pos a, if_pos a]
  · rw [if_neg a, if_neg a]
    rcases dec_code h1 b with ⟨d0, d1, d2⟩ | d | d | d
    · have n3 : ¬ (decV x.df.ty b).2 = 3 := by omega
      have n2 : ¬ (decV x.df.ty b).2 = 2 := by omega
      have n8 : ¬ (decV x.df.ty b).2 = 8 := by omega
      have n0 : ¬ (decV x.df.ty b).2 ≠ 0 := by omega
      rw [if_neg n3, if_neg n3, if_neg n2, if_neg n2, if_neg n8, if_neg n0]
      cases hl : x.lim
      · rfl
      · have := lim_can h hl d1 d2
        show (withinE x (decV x.df.ty b).1).1 = withinC x (decV x.df.ty b).1
        unfold withinC
        rw [if_neg (by rw [this]; decide)]
    · have n3 : ¬ (decV x.df.ty b).2 = 3 := by omega
      rw [if_neg n3, if_neg n3, if_pos d, if_pos d]
    · rw [if_pos d, if_pos d]
    · have n3 : ¬ (decV x.df.ty b).2 = 3 := by omega
      have n2 : ¬ (decV x.df.ty b).2 = 2 := by omega
      have n0 : (decV x.df.ty b).2 ≠ 0 := by omega
      rw [if_neg n3, if_neg n3, if_neg n2, if_neg n2, if_pos d, if_pos n0]
end Go.Proofs.Ytemjdmgfilbfaaa
namespace Go.Proofs.Ytemjdmgfilbfaaa
open Go.RowKit
set_option linter.unusedVariables false

def mayR (d : List Im) (i s : Int) (b : List UInt8) : Int :=
  match findD d i s with
  | none => findC d i s
  | some k => match d[k]? with
    | none => 0
    | some x => takeR x.1 b

set_option maxRecDepth 100000 in
set_option maxHeartbeats 1000000 in
theorem rDMay_any (p B : Nat) (d : List Im) (i s : Int) (v : Value) (bs : List UInt8) (w : World) (h : DR w p B d) (hl : d.length ≤ 1024) (hok : ∀ x ∈ d, x.1.ok) (hv : BytesAt w v bs) (hb : bs.length ≤ 140737488351232) :
    Calls Try.prog 55 #[ptr p, .int .u16 i, .int .u8 s, v] w fun e w' => e = .returned (.int .u32 (mayR d i s bs)) ∧ Frm (fun _ => False) w w' := by
  have HFD := Lib.hid (rDFind_any p B d i s w h hl)
  have HD := Lib.hid h
  have HOK := Lib.hid hok
  have HBS := Lib.hid hv
  obtain ⟨A, cap, rfl, _⟩ := hv
  clear h hok
  unfold ptr at HFD
  unfold ptr
  cases hf : findD d i s with
  | none =>
    have hn : findC d i s ≠ 0 := by
      unfold findC
      rw [hf]
      simp only [Option.isSome_none, Bool.false_eq_true, if_false]
      split <;> decide
    have E : Hid (mayR d i s bs = findC d i s) := by unfold Hid mayR; rw [hf]
    rw [hf] at HFD
    have hb : (findC d i s != 0) = true := by simpa using hn
    generalize findC d i s = c at *
    clear hf hn
    go_enter Try.func55, Try.ntmps55
    go_wp2_with (go_at_call 57; refine HFD.out.mono ?_; rintro e w1 ⟨rfl, hF1⟩)
    go_ret
    exact ⟨by rw [E.out]; rfl, hF1⟩
  | some k =>
    have hk := find_lt hf
    have hc0 : findC d i s = 0 := by unfold findC; rw [hf]; rfl
    have E : Hid (mayR d i s bs = takeR d[k].1 bs) := by unfold Hid mayR; rw [hf]; simp [hk]
    rw [hf, hc0] at HFD
    simp only [Option.getD_some] at HFD
    have hxo := HOK.out _ (List.getElem_mem hk)
    have hat := HD.out.at_ hk
    clear hf hc0
    generalize d[k] = x at *
    have HDE := Lib.hid (fun W hF => rDec_any x.1.df.ty (.slice A bs.length cap) bs W (HBS.out.grow hF) hb)
    have HWI := Lib.hid (fun v W hv => rWithin_any x.1 v W hxo hv)
    have HDV : Hid ((decV x.1.df.ty bs).1.ok) := decV_ok _ bs
    have HTK : Hid (takeR x.1 bs = if x.1.acc ≠ 1 ∧ x.1.acc ≠ 2 then codeNoWrite else if (decV x.1.df.ty bs).2 = 3 then codeShort else if (decV x.1.df.ty bs).2 = 2 then codeLong else if (decV x.1.df.ty bs).2 = 8 then codeBad
      else if x.1.lim = true then (withinE x.1 (decV x.1.df.ty bs).1).1 else 0) := rfl
    obtain ⟨gl, gv, cl, cv, h1, l1, l2, cL, cV⟩ := hat
    have hc : ∀ W, Frm (fun _ => False) w W → (W.cell? ⟨p, 0, none⟩ = some (.slice (some ⟨gl, 0, none⟩) d.length cl) ∧ gl < W.heap.size) ∧ W.cell? ⟨gl, k * 14, none⟩ = some (.int .u16 x.1.idx) ∧ W.cell? ⟨gl, k * 14 + 1, none⟩ = some (.int .u8 x.1.sub) ∧ W.cell? ⟨gl, k * 14 + 2, none⟩ = some (.int .i64 x.1.acc) ∧ W.cell? ⟨gl, k * 14 + 3, none⟩ = some (.bool x.1.mp) ∧ W.cell? ⟨gl, k * 14 + 4, none⟩ = some (.bool x.1.lim) ∧ W.cell? ⟨gl, k * 14 + 5, none⟩ = some (.int .i64 x.1.mn.ty) ∧ W.cell? ⟨gl, k * 14 + 6, none⟩ = some (.int .u64 x.1.mn.n) ∧ W.cell? ⟨gl, k * 14 + 7, none⟩ = some (.string (strB2 x.1.mn.b)) ∧ W.cell? ⟨gl, k * 14 + 8, none⟩ = some (.int .i64 x.1.mx.ty) ∧ W.cell? ⟨gl, k * 14 + 9, none⟩ = some (.int .u64 x.1.mx.n) ∧ W.cell? ⟨gl, k * 14 + 10, none⟩ = some (.string (strB2 x.1.mx.b)) ∧ W.cell? ⟨gl, k * 14 + 11, none⟩ = some (.int .i64 x.1.df.ty) ∧ W.cell? ⟨gl, k * 14 + 12, none⟩ = some (.int .u64 x.1.df.n) ∧ W.cell? ⟨gl, k * 14 + 13, none⟩ = some (.string (strB2 x.1.df.b)) := fun W hF => by
      have k1 := hF.heap h1 (fun h => h)
      exact ⟨⟨cell_at k1, Nat.lt_of_lt_of_le l1 hF.size⟩, hF.cell (cL 0 (by decide)) (fun h => h), hF.cell (cL 1 (by decide)) (fun h => h), hF.cell (cL 2 (by decide)) (fun h => h), hF.cell (cL 3 (by decide)) (fun h => h), hF.cell (cL 4 (by decide)) (fun h => h), hF.cell (cL 5 (by decide)) (fun h => h), hF.cell (cL 6 (by decide)) (fun h => h), hF.cell (cL 7 (by decide)) (fun h => h), hF.cell (cL 8 (by decide)) (fun h => h), hF.cell (cL 9 (by decide)) (fun h => h), hF.cell (cL 10 (by decide)) (fun h => h), hF.cell (cL 11 (by decide)) (fun h => h), hF.cell (cL 12 (by decide)) (fun h => h), hF.cell (cL 13 (by decide)) (fun h => h)⟩
    have HCC := Lib.hid hc
    clear hc h1 cL cV hxo
    rw [E.out]
    clear E
    generalize takeR x.1 bs = tk at *
    generalize decV x.1.df.ty bs = dv at *
    obtain ⟨dv, de⟩ := dv
    unfold DecP valV at HDE
    unfold valE valV at HWI
    simp only at *
    generalize x.1.lim = lm at *
    by_cases ha : x.1.acc ≠ 1 ∧ x.1.acc ≠ 2
    · obtain ⟨a1, a2⟩ := ha
      have T : Hid (tk = codeNoWrite) := by unfold Hid; rw [HTK.out, if_pos ⟨a1, a2⟩]
      have b1 : (x.1.acc != 1) = true := by simpa using a1
      have b2 : (x.1.acc != 2) = true := by simpa using a2
      clear HTK a1 a2
      go_enter Try.func55, Try.ntmps55
      go_wp2_with (go_at_call 57; refine HFD.out.mono ?_; rintro e w1 ⟨rfl, hF1⟩; obtain ⟨⟨u0, um⟩, a0, a1, a2, a3, a4, a5, a6, a7, a8, a9, a10, a11, a12, a13⟩ := HCC.out w1 hF1; have HF1 := Lib.hid hF1; clear hF1)
      go_ret
      exact ⟨by rw [T.out]; rfl, by have hf := HF1.out; (repeat' (first | (with_reducible exact Frm.refl _ _) | (with_reducible assumption) | (with_reducible refine Frm.alloc ?_ _) | (with_reducible refine Frm.drew ?_) | (with_reducible refine Frm.drewN ?_ _) | (with_reducible refine Frm.set1 ?_ _) | (with_reducible refine Frm.setCell ?_ ?_ _) | (exact fun h => absurd h (Nat.lt_irrefl _)) | (intro hlt; simp [World.size_alloc, One] at hlt ⊢; omega)))⟩
    · rw [if_neg ha] at HTK
      go_enter Try.func55, Try.ntmps55
      go_upto_region 5 with (go_at_call 57; refine HFD.out.mono ?_; rintro e w1 ⟨rfl, hF1⟩; obtain ⟨⟨u0, um⟩, a0, a1, a2, a3, a4, a5, a6, a7, a8, a9, a10, a11, a12, a13⟩ := HCC.out w1 hF1; have HF1 := Lib.hid hF1; clear hF1)
      go_cut [38] (fun v wz => v = .bool false ∧ wz = w1.alloc (.cells #[.int .u16 x.1.idx, .int .u8 x.1.sub, .int .i64 x.1.acc, .bool x.1.mp, .bool lm, .int .i64 x.1.mn.ty, .int .u64 x.1.mn.n, .string (strB2 x.1.mn.b), .int .i64 x.1.mx.ty, .int .u64 x.1.mx.n, .string (strB2 x.1.mx.b), .int .i64 x.1.df.ty, .int .u64 x.1.df.n, .string (strB2 x.1.df.b)] 42))
      case first =>
        by_cases a1 : x.1.acc = 1
        · have b1 : (x.1.acc != 1) = false := by simpa using a1
          clear ha a1
          go_wp2_with fail
          go_meet
          exact ⟨rfl, rfl⟩
        · have a2 : x.1.acc = 2 := by omega
          have b1 : (x.1.acc != 1) = true := by simpa using a1
          have b2 : (x.1.acc != 2) = false := by simpa using a2
          clear ha a1 a2
          go_wp2_with fail
          go_meet
          exact ⟨rfl, rfl⟩
      case rest =>
        obtain ⟨rfl, rfl⟩ := hcut
        clear ha
        by_cases d3 : de = 3
        · subst d3
          have T : Hid (tk = codeShort) := by unfold Hid; rw [HTK.out, if_pos rfl]
          clear HTK
          go_wp2_with (first | (go_at_call 91; refine (HDE.out _ (HF1.out.trans' (by (repeat' (first | (with_reducible exact Frm.refl _ _) | (with_reducible assumption) | (with_reducible refine Frm.alloc ?_ _) | (with_reducible refine Frm.drew ?_) | (with_reducible refine Frm.drewN ?_ _) | (with_reducible refine Frm.set1 ?_ _) | (with_reducible refine Frm.setCell ?_ ?_ _) | (exact fun h => absurd h (Nat.lt_irrefl _)) | (intro hlt; simp [World.size_alloc, One] at hlt ⊢; omega)))))).mono ?_; rintro e w2 ⟨rfl, hF2⟩; have kE := hF2.heap (heap_new w1 _) (fun h => h); have e0 : w2.cell? ⟨w1.heap.size, 0, none⟩ = some (.int .u16 x.1.idx) := cell_at kE; have e1 : w2.cell? ⟨w1.heap.size, 1, none⟩ = some (.int .u8 x.1.sub) := cell_at kE; have e2 : w2.cell? ⟨w1.heap.size, 2, none⟩ = some (.int .i64 x.1.acc) := cell_at kE; have e3 : w2.cell? ⟨w1.heap.size, 3, none⟩ = some (.bool x.1.mp) := cell_at kE; have e4 : w2.cell? ⟨w1.heap.size, 4, none⟩ = some (.bool lm) := cell_at kE; have e5 : w2.cell? ⟨w1.heap.size, 5, none⟩ = some (.int .i64 x.1.mn.ty) := cell_at kE; have e6 : w2.cell? ⟨w1.heap.size, 6, none⟩ = some (.int .u64 x.1.mn.n) := cell_at kE; have e7 : w2.cell? ⟨w1.heap.size, 7, none⟩ = some (.string (strB2 x.1.mn.b)) := cell_at kE; have e8 : w2.cell? ⟨w1.heap.size, 8, none⟩ = some (.int .i64 x.1.mx.ty) := cell_at kE; have e9 : w2.cell? ⟨w1.heap.size, 9, none⟩ = some (.int .u64 x.1.mx.n) := cell_at kE; have e10 : w2.cell? ⟨w1.heap.size, 10, none⟩ = some (.string (strB2 x.1.mx.b)) := cell_at kE; have e11 : w2.cell? ⟨w1.heap.size, 11, none⟩ = some (.int .i64 x.1.df.ty) := cell_at kE; have e12 : w2.cell? ⟨w1.heap.size, 12, none⟩ = some (.int .u64 x.1.df.n) := cell_at kE; have e13 : w2.cell? ⟨w1.heap.size, 13, none⟩ = some (.string (strB2 x.1.df.b)) := cell_at kE; have lE := lt_of_block kE; have HF2 : Hid (Frm (fun _ => False) w w2) := HF1.out.trans' (Frm.trans' (b := _) (by (repeat' (first | (with_reducible exact Frm.refl _ _) | (with_reducible assumption) | (with_reducible refine Frm.alloc ?_ _) | (with_reducible refine Frm.drew ?_) | (with_reducible refine Frm.drewN ?_ _) | (with_reducible refine Frm.set1 ?_ _) | (with_reducible refine Frm.setCell ?_ ?_ _) | (exact fun h => absurd h (Nat.lt_irrefl _)) | (intro hlt; simp [World.size_alloc, One] at hlt ⊢; omega)))) hF2); clear hF2 kE u0 um a0 a1 a2 a3 a4 a5 a6 a7 a8 a9 a10 a11 a12 a13) | (go_at_call 17; refine (HWI.out dv _ HDV.out).mono ?_; rintro e w3 ⟨rfl, hF3⟩))
          go_ret
          exact ⟨by rw [T.out]; rfl, by have hf := HF2.out; (repeat' (first | (with_reducible exact Frm.refl _ _) | (with_reducible assumption) | (with_reducible refine Frm.alloc ?_ _) | (with_reducible refine Frm.drew ?_) | (with_reducible refine Frm.drewN ?_ _) | (with_reducible refine Frm.set1 ?_ _) | (with_reducible refine Frm.setCell ?_ ?_ _) | (exact fun h => absurd h (Nat.lt_irrefl _)) | (intro hlt; simp [World.size_alloc, One] at hlt ⊢; omega)))⟩
        · rw [if_neg d3] at HTK
          have e3 : (de == 3) = false := by simpa using d3
          by_cases d2 : de = 2
          · subst d2
            have T : Hid (tk = codeLong) := by unfold Hid; rw [HTK.out, if_pos rfl]
            clear HTK d3
            go_wp2_with (first | (go_at_call 91; refine (HDE.out _ (HF1.out.trans' (by (repeat' (first | (with_reducible exact Frm.refl _ _) | (with_reducible assumption) | (with_reducible refine Frm.alloc ?_ _) | (with_reducible refine Frm.drew ?_) | (with_reducible refine Frm.drewN ?_ _) | (with_reducible refine Frm.set1 ?_ _) | (with_reducible refine Frm.setCell ?_ ?_ _) | (exact fun h => absurd h (Nat.lt_irrefl _)) | (intro hlt; simp [World.size_alloc, One] at hlt ⊢; omega)))))).mono ?_; rintro e w2 ⟨rfl, hF2⟩; have kE := hF2.heap (heap_new w1 _) (fun h => h); have e0 : w2.cell? ⟨w1.heap.size, 0, none⟩ = some (.int .u16 x.1.idx) := cell_at kE; have e1 : w2.cell? ⟨w1.heap.size, 1, none⟩ = some (.int .u8 x.1.sub) := cell_at kE; have e2 : w2.cell? ⟨w1.heap.size, 2, none⟩ = some (.int .i64 x.1.acc) := cell_at kE; have e3 : w2.cell? ⟨w1.heap.size, 3, none⟩ = some (.bool x.1.mp) := cell_at kE; have e4 : w2.cell? ⟨w1.heap.size, 4, none⟩ = some (.bool lm) := cell_at kE; have e5 : w2.cell? ⟨w1.heap.size, 5, none⟩ = some (.int .i64 x.1.mn.ty) := cell_at kE; have e6 : w2.cell? ⟨w1.heap.size, 6, none⟩ = some (.int .u64 x.1.mn.n) := cell_at kE; have e7 : w2.cell? ⟨w1.heap.size, 7, none⟩ = some (.string (strB2 x.1.mn.b)) := cell_at kE; have e8 : w2.cell? ⟨w1.heap.size, 8, none⟩ = some (.int .i64 x.1.mx.ty) := cell_at kE; have e9 : w2.cell? ⟨w1.heap.size, 9, none⟩ = some (.int .u64 x.1.mx.n) := cell_at kE; have e10 : w2.cell? ⟨w1.heap.size, 10, none⟩ = some (.string (strB2 x.1.mx.b)) := cell_at kE; have e11 : w2.cell? ⟨w1.heap.size, 11, none⟩ = some (.int .i64 x.1.df.ty) := cell_at kE; have e12 : w2.cell? ⟨w1.heap.size, 12, none⟩ = some (.int .u64 x.1.df.n) := cell_at kE; have e13 : w2.cell? ⟨w1.heap.size, 13, none⟩ = some (.string (strB2 x.1.df.b)) := cell_at kE; have lE := lt_of_block kE; have HF2 : Hid (Frm (fun _ => False) w w2) := HF1.out.trans' (Frm.trans' (b := _) (by (repeat' (first | (with_reducible exact Frm.refl _ _) | (with_reducible assumption) | (with_reducible refine Frm.alloc ?_ _) | (with_reducible refine Frm.drew ?_) | (with_reducible refine Frm.drewN ?_ _) | (with_reducible refine Frm.set1 ?_ _) | (with_reducible refine Frm.setCell ?_ ?_ _) | (exact fun h => absurd h (Nat.lt_irrefl _)) | (intro hlt; simp [World.size_alloc, One] at hlt ⊢; omega)))) hF2); clear hF2 kE u0 um a0 a1 a2 a3 a4 a5 a6 a7 a8 a9 a10 a11 a12 a13) | (go_at_call 17; refine (HWI.out dv _ HDV.out).mono ?_; rintro e w3 ⟨rfl, hF3⟩))
            go_ret
            exact ⟨by rw [T.out]; rfl, by have hf := HF2.out; (repeat' (first | (with_reducible exact Frm.refl _ _) | (with_reducible assumption) | (with_reducible refine Frm.alloc ?_ _) | (with_reducible refine Frm.drew ?_) | (with_reducible refine Frm.drewN ?_ _) | (with_reducible refine Frm.set1 ?_ _) | (with_reducible refine Frm.setCell ?_ ?_ _) | (exact fun h => absurd h (Nat.lt_irrefl _)) | (intro hlt; simp [World.size_alloc, One] at hlt ⊢; omega)))⟩
          · rw [if_neg d2] at HTK
            have e2 : (de == 2) = false := by simpa using d2
            by_cases d8 : de = 8
            · subst d8
              have T : Hid (tk = codeBad) := by unfold Hid; rw [HTK.out, if_pos rfl]
              clear HTK d3 d2
              go_wp2_with (first | (go_at_call 91; refine (HDE.out _ (HF1.out.trans' (by (repeat' (first | (with_reducible exact Frm.refl _ _) | (with_reducible assumption) | (with_reducible refine Frm.alloc ?_ _) | (with_reducible refine Frm.drew ?_) | (with_reducible refine Frm.drewN ?_ _) | (with_reducible refine Frm.set1 ?_ _) | (with_reducible refine Frm.setCell ?_ ?_ _) | (exact fun h => absurd h (Nat.lt_irrefl _)) | (intro hlt; simp [World.size_alloc, One] at hlt ⊢; omega)))))).mono ?_; rintro e w2 ⟨rfl, hF2⟩; have kE := hF2.heap (heap_new w1 _) (fun h => h); have e0 : w2.cell? ⟨w1.heap.size, 0, none⟩ = some (.int .u16 x.1.idx) := cell_at kE; have e1 : w2.cell? ⟨w1.heap.size, 1, none⟩ = some (.int .u8 x.1.sub) := cell_at kE; have e2 : w2.cell? ⟨w1.heap.size, 2, none⟩ = some (.int .i64 x.1.acc) := cell_at kE; have e3 : w2.cell? ⟨w1.heap.size, 3, none⟩ = some (.bool x.1.mp) := cell_at kE; have e4 : w2.cell? ⟨w1.heap.size, 4, none⟩ = some (.bool lm) := cell_at kE; have e5 : w2.cell? ⟨w1.heap.size, 5, none⟩ = some (.int .i64 x.1.mn.ty) := cell_at kE; have e6 : w2.cell? ⟨w1.heap.size, 6, none⟩ = some (.int .u64 x.1.mn.n) := cell_at kE; have e7 : w2.cell? ⟨w1.heap.size, 7, none⟩ = some (.string (strB2 x.1.mn.b)) := cell_at kE; have e8 : w2.cell? ⟨w1.heap.size, 8, none⟩ = some (.int .i64 x.1.mx.ty) := cell_at kE; have e9 : w2.cell? ⟨w1.heap.size, 9, none⟩ = some (.int .u64 x.1.mx.n) := cell_at kE; have e10 : w2.cell? ⟨w1.heap.size, 10, none⟩ = some (.string (strB2 x.1.mx.b)) := cell_at kE; have e11 : w2.cell? ⟨w1.heap.size, 11, none⟩ = some (.int .i64 x.1.df.ty) := cell_at kE; have e12 : w2.cell? ⟨w1.heap.size, 12, none⟩ = some (.int .u64 x.1.df.n) := cell_at kE; have e13 : w2.cell? ⟨w1.heap.size, 13, none⟩ = some (.string (strB2 x.1.df.b)) := cell_at kE; have lE := lt_of_block kE; have HF2 : Hid (Frm (fun _ => False) w w2) := HF1.out.trans' (Frm.trans' (b := _) (by (repeat' (first | (with_reducible exact Frm.refl _ _) | (with_reducible assumption) | (with_reducible refine Frm.alloc ?_ _) | (with_reducible refine Frm.drew ?_) | (with_reducible refine Frm.drewN ?_ _) | (with_reducible refine Frm.set1 ?_ _) | (with_reducible refine Frm.setCell ?_ ?_ _) | (exact fun h => absurd h (Nat.lt_irrefl _)) | (intro hlt; simp [World.size_alloc, One] at hlt ⊢; omega)))) hF2); clear hF2 kE u0 um a0 a1 a2 a3 a4 a5 a6 a7 a8 a9 a10 a11 a12 a13) | (go_at_call 17; refine (HWI.out dv _ HDV.out).mono ?_; rintro e w3 ⟨rfl, hF3⟩))
              go_ret
              exact ⟨by rw [T.out]; rfl, by have hf := HF2.out; (repeat' (first | (with_reducible exact Frm.refl _ _) | (with_reducible assumption) | (with_reducible refine Frm.alloc ?_ _) | (with_reducible refine Frm.drew ?_) | (with_reducible refine Frm.drewN ?_ _) | (with_reducible refine Frm.set1 ?_ _) | (with_reducible refine Frm.setCell ?_ ?_ _) | (exact fun h => absurd h (Nat.lt_irrefl _)) | (intro hlt; simp [World.size_alloc, One] at hlt ⊢; omega)))⟩
            · rw [if_neg d8] at HTK
              have e8 : (de == 8) = false := by simpa using d8
              clear d3 d2 d8
              cases lm
              · have T : Hid (tk = 0) := by unfold Hid; rw [HTK.out]; rfl
                clear HTK
                go_wp2_with (first | (go_at_call 91; refine (HDE.out _ (HF1.out.trans' (by (repeat' (first | (with_reducible exact Frm.refl _ _) | (with_reducible assumption) | (with_reducible refine Frm.alloc ?_ _) | (with_reducible refine Frm.drew ?_) | (with_reducible refine Frm.drewN ?_ _) | (with_reducible refine Frm.set1 ?_ _) | (with_reducible refine Frm.setCell ?_ ?_ _) | (exact fun h => absurd h (Nat.lt_irrefl _)) | (intro hlt; simp [World.size_alloc, One] at hlt ⊢; omega)))))).mono ?_; rintro e w2 ⟨rfl, hF2⟩; have kE := hF2.heap (heap_new w1 _) (fun h => h); have e0 : w2.cell? ⟨w1.heap.size, 0, none⟩ = some (.int .u16 x.1.idx) := cell_at kE; have e1 : w2.cell? ⟨w1.heap.size, 1, none⟩ = some (.int .u8 x.1.sub) := cell_at kE; have e2 : w2.cell? ⟨w1.heap.size, 2, none⟩ = some (.int .i64 x.1.acc) := cell_at kE; have e3 : w2.cell? ⟨w1.heap.size, 3, none⟩ = some (.bool x.1.mp) := cell_at kE; have e4 : w2.cell? ⟨w1.heap.size, 4, none⟩ = some (.bool false) := cell_at kE; have e5 : w2.cell? ⟨w1.heap.size, 5, none⟩ = some (.int .i64 x.1.mn.ty) := cell_at kE; have e6 : w2.cell? ⟨w1.heap.size, 6, none⟩ = some (.int .u64 x.1.mn.n) := cell_at kE; have e7 : w2.cell? ⟨w1.heap.size, 7, none⟩ = some (.string (strB2 x.1.mn.b)) := cell_at kE; have e8 : w2.cell? ⟨w1.heap.size, 8, none⟩ = some (.int .i64 x.1.mx.ty) := cell_at kE; have e9 : w2.cell? ⟨w1.heap.size, 9, none⟩ = some (.int .u64 x.1.mx.n) := cell_at kE; have e10 : w2.cell? ⟨w1.heap.size, 10, none⟩ = some (.string (strB2 x.1.mx.b)) := cell_at kE; have e11 : w2.cell? ⟨w1.heap.size, 11, none⟩ = some (.int .i64 x.1.df.ty) := cell_at kE; have e12 : w2.cell? ⟨w1.heap.size, 12, none⟩ = some (.int .u64 x.1.df.n) := cell_at kE; have e13 : w2.cell? ⟨w1.heap.size, 13, none⟩ = some (.string (strB2 x.1.df.b)) := cell_at kE; have lE := lt_of_block kE; have HF2 : Hid (Frm (fun _ => False) w w2) := HF1.out.trans' (Frm.trans' (b := _) (by (repeat' (first | (with_reducible exact Frm.refl _ _) | (with_reducible assumption) | (with_reducible refine Frm.alloc ?_ _) | (with_reducible refine Frm.drew ?_) | (with_reducible refine Frm.drewN ?_ _) | (with_reducible refine Frm.set1 ?_ _) | (with_reducible refine Frm.setCell ?_ ?_ _) | (exact fun h => absurd h (Nat.lt_irrefl _)) | (intro hlt; simp [World.size_alloc, One] at hlt ⊢; omega)))) hF2); clear hF2 kE u0 um a0 a1 a2 a3 a4 a5 a6 a7 a8 a9 a10 a11 a12 a13) | (go_at_call 17; refine (HWI.out dv _ HDV.out).mono ?_; rintro e w3 ⟨rfl, hF3⟩))
                go_ret
                exact ⟨by rw [T.out]; rfl, by have hf := HF2.out; (repeat' (first | (with_reducible exact Frm.refl _ _) | (with_reducible assumption) | (with_reducible refine Frm.alloc ?_ _) | (with_reducible refine Frm.drew ?_) | (with_reducible refine Frm.drewN ?_ _) | (with_reducible refine Frm.set1 ?_ _) | (with_reducible refine Frm.setCell ?_ ?_ _) | (exact fun h => absurd h (Nat.lt_irrefl _)) | (intro hlt; simp [World.size_alloc, One] at hlt ⊢; omega)))⟩
              · have T : Hid (tk = (withinE x.1 dv).1) := by unfold Hid; rw [HTK.out]; rfl
                clear HTK
                go_wp2_with (first | (go_at_call 91; refine (HDE.out _ (HF1.out.trans' (by (repeat' (first | (with_reducible exact Frm.refl _ _) | (with_reducible assumption) | (with_reducible refine Frm.alloc ?_ _) | (with_reducible refine Frm.drew ?_) | (with_reducible refine Frm.drewN ?_ _) | (with_reducible refine Frm.set1 ?_ _) | (with_reducible refine Frm.setCell ?_ ?_ _) | (exact fun h => absurd h (Nat.lt_irrefl _)) | (intro hlt; simp [World.size_alloc, One] at hlt ⊢; omega)))))).mono ?_; rintro e w2 ⟨rfl, hF2⟩; have kE := hF2.heap (heap_new w1 _) (fun h => h); have e0 : w2.cell? ⟨w1.heap.size, 0, none⟩ = some (.int .u16 x.1.idx) := cell_at kE; have e1 : w2.cell? ⟨w1.heap.size, 1, none⟩ = some (.int .u8 x.1.sub) := cell_at kE; have e2 : w2.cell? ⟨w1.heap.size, 2, none⟩ = some (.int .i64 x.1.acc) := cell_at kE; have e3 : w2.cell? ⟨w1.heap.size, 3, none⟩ = some (.bool x.1.mp) := cell_at kE; have e4 : w2.cell? ⟨w1.heap.size, 4, none⟩ = some (.bool true) := cell_at kE; have e5 : w2.cell? ⟨w1.heap.size, 5, none⟩ = some (.int .i64 x.1.mn.ty) := cell_at kE; have e6 : w2.cell? ⟨w1.heap.size, 6, none⟩ = some (.int .u64 x.1.mn.n) := cell_at kE; have e7 : w2.cell? ⟨w1.heap.size, 7, none⟩ = some (.string (strB2 x.1.mn.b)) := cell_at kE; have e8 : w2.cell? ⟨w1.heap.size, 8, none⟩ = some (.int .i64 x.1.mx.ty) := cell_at kE; have e9 : w2.cell? ⟨w1.heap.size, 9, none⟩ = some (.int .u64 x.1.mx.n) := cell_at kE; have e10 : w2.cell? ⟨w1.heap.size, 10, none⟩ = some (.string (strB2 x.1.mx.b)) := cell_at kE; have e11 : w2.cell? ⟨w1.heap.size, 11, none⟩ = some (.int .i64 x.1.df.ty) := cell_at kE; have e12 : w2.cell? ⟨w1.heap.size, 12, none⟩ = some (.int .u64 x.1.df.n) := cell_at kE; have e13 : w2.cell? ⟨w1.heap.size, 13, none⟩ = some (.string (strB2 x.1.df.b)) := cell_at kE; have lE := lt_of_block kE; have HF2 : Hid (Frm (fun _ => False) w w2) := HF1.out.trans' (Frm.trans' (b := _) (by (repeat' (first | (with_reducible exact Frm.refl _ _) | (with_reducible assumption) | (with_reducible refine Frm.alloc ?_ _) | (with_reducible refine Frm.drew ?_) | (with_reducible refine Frm.drewN ?_ _) | (with_reducible refine Frm.set1 ?_ _) | (with_reducible refine Frm.setCell ?_ ?_ _) | (exact fun h => absurd h (Nat.lt_irrefl _)) | (intro hlt; simp [World.size_alloc, One] at hlt ⊢; omega)))) hF2); clear hF2 kE u0 um a0 a1 a2 a3 a4 a5 a6 a7 a8 a9 a10 a11 a12 a13) | (go_at_call 17; refine (HWI.out dv _ HDV.out).mono ?_; rintro e w3 ⟨rfl, hF3⟩))
                go_ret
                exact ⟨by rw [T.out]; rfl, by have hf := HF2.out.trans' (Frm.trans' (b := _) (by (repeat' (first | (with_reducible exact Frm.refl _ _) | (with_reducible assumption) | (with_reducible refine Frm.alloc ?_ _) | (with_reducible refine Frm.drew ?_) | (with_reducible refine Frm.drewN ?_ _) | (with_reducible refine Frm.set1 ?_ _) | (with_reducible refine Frm.setCell ?_ ?_ _) | (exact fun h => absurd h (Nat.lt_irrefl _)) | (intro hlt; simp [World.size_alloc, One] at hlt ⊢; omega)))) hF3); (repeat' (first | (with_reducible exact Frm.refl _ _) | (with_reducible assumption) | (with_reducible refine Frm.alloc ?_ _) | (with_reducible refine Frm.drew ?_) | (with_reducible refine Frm.drewN ?_ _) | (with_reducible refine Frm.set1 ?_ _) | (with_reducible refine Frm.setCell ?_ ?_ _) | (exact fun h => absurd h (Nat.lt_irrefl _)) | (intro hlt; simp [World.size_alloc, One] at hlt ⊢; omega)))⟩
end Go.Proofs.Ytemjdmgfilbfaaa
namespace Go.Proofs.Ytemjdmgfilbfaaa
open Go.RowKit
open List (getElem_toArray getElem_cons_zero getElem_cons_succ setIfInBounds_toArray set_cons_zero set_cons_succ)
set_option linter.unusedVariables false
set_option linter.unusedSimpArgs false

theorem cellsV_set (vs : List Va) (k : Nat) (hk : k < vs.length) (v : Va) : (((cellsOf cellsV vs).set (k * 3) (.int .i64 v.ty)).set (k * 3 + 1) (.int .u64 v.n)).set (k * 3 + 2) (.string (strB2 v.b)) = cellsOf cellsV (vs.set k v) := by
  induction vs generalizing k with
  | nil => exact absurd hk (by simp)
  | cons x r ih =>
    cases k with
    | zero => simp [cellsOf, cellsV]
    | succ k =>
      have h := ih k (by simpa using hk)
      have e0 : (k + 1) * 3 = k * 3 + 1 + 1 + 1 := by omega
      have e : cellsOf cellsV (x :: r) = .int .i64 x.ty :: .int .u64 x.n :: .string (strB2 x.b) :: cellsOf cellsV r := rfl
      have e2 : cellsOf cellsV ((x :: r).set (k + 1) v) = .int .i64 x.ty :: .int .u64 x.n :: .string (strB2 x.b) :: cellsOf cellsV (r.set k v) := rfl
      rw [e, e2, e0, ← h]
      rfl
/-- A value is put into a row of values. -/
theorem row_set3 {w : World} {B g n c k : Nat} {vs : List Va} (h : w.ownsRow B 36 3 (.slice (some ⟨g, 0, none⟩) n c) n (cellsOf cellsV vs)) (hn : vs.length = n) (hk : k < n) (v : Va) :
    (((w.setCell ⟨g, k * 3, none⟩ (.int .i64 v.ty)).setCell ⟨g, k * 3 + 1, none⟩ (.int .u64 v.n)).setCell ⟨g, k * 3 + 2, none⟩ (.string (strB2 v.b))).ownsRow B 36 3 (.slice (some ⟨g, 0, none⟩) n c) n (cellsOf cellsV (vs.set k v)) := by
  obtain ⟨h1, h2⟩ := h
  rcases h2 with ⟨h2, _⟩ | ⟨g', cap, cur, e, hB, hg, q1, q2, q3, q4⟩
  · cases h2
  · simp only [Value.slice.injEq, Option.some.injEq, Addr.mk.injEq, true_and, and_true] at e
    obtain ⟨rfl, rfl⟩ := e
    refine ⟨by rw [cellsOf_length (sz := 3) (fun v => rfl)]; simp [hn], .inr ⟨g, c, _, rfl, hB, heap_set_same (heap_set_same (heap_set_same hg _) _) _, q1, q2, by simpa using q3, ?_⟩⟩
    rw [← cellsV_set vs k (by omega) v, ← q4]
    simp only [Array.toList_setIfInBounds, List.take_set]
/-- The document's Write. -/
def writeR (d : List Im) (i s : Int) (b : List UInt8) : List Im :=
  match findD d i s with
  | none => d
  | some k => match d[k]? with
    | none => d
    | some x => if takeR x.1 b = 0 then d.set k (x.1, (decV x.1.df.ty b).1) else d

set_option maxRecDepth 100000 in
set_option maxHeartbeats 2000000 in
theorem rDWrite_any (p B : Nat) (d : List Im) (i s : Int) (v : Value) (bs : List UInt8) (w : World) (h : DR w p B d) (hl : d.length ≤ 1024) (hok : ∀ x ∈ d, x.1.ok) (hv : BytesAt w v bs) (hb : bs.length ≤ 140737488351232) (hB : B ≤ w.heap.size) :
    Calls Try.prog 56 #[ptr p, .int .u16 i, .int .u8 s, v] w fun e w' => e = .returned (.int .u32 (mayR d i s bs)) ∧ DR w' p B (writeR d i s bs) ∧ Frm (One p) w w' := by
  have HMY := Lib.hid (rDMay_any p B d i s v bs w h hl hok hv hb)
  have HFD := Lib.hid (fun W hW => rDFind_any p B d i s W hW hl)
  have HD := Lib.hid h
  have HBS := Lib.hid hv
  have HBB := Lib.hid hB
  obtain ⟨A, cap, rfl, _⟩ := hv
  clear h hok hB
  by_cases hm : mayR d i s bs = 0
  case neg =>
    have E : Hid (writeR d i s bs = d) := by
      unfold Hid writeR
      unfold mayR at hm
      cases hf : findD d i s with
      | none => rfl
      | some k =>
        rw [hf] at hm
        simp only at hm ⊢
        cases hk : d[k]? with
        | none => rfl
        | some x =>
          rw [hk] at hm
          simp only at hm ⊢
          rw [if_neg hm]
    have b1 : (mayR d i s bs == 0) = false := by simpa using hm
    generalize mayR d i s bs = c at *
    unfold ptr at HMY
    unfold ptr
    go_enter Try.func56, Try.ntmps56
    go_wp2_with (go_at_call 55; refine HMY.out.mono ?_; rintro e w1 ⟨rfl, hF1⟩; have HF1 := Lib.hid hF1; clear hF1)
    go_ret
    exact ⟨rfl, by rw [E.out]; exact HD.out.grow HF1.out, HF1.out.mono (fun _ _ h => h.elim)⟩
  case pos =>
    obtain ⟨k, hf⟩ : ∃ k, findD d i s = some k := by
      cases hf : findD d i s with
      | none =>
        unfold mayR at hm
        rw [hf] at hm
        unfold findC at hm
        rw [hf] at hm
        simp only [Option.isSome_none, Bool.false_eq_true, if_false] at hm
        split at hm <;> exact absurd hm (by decide)
      | some k => exact ⟨k, rfl⟩
    have hk := find_lt hf
    have hc0 : findC d i s = 0 := by unfold findC; rw [hf]; rfl
    have E : Hid (writeR d i s bs = d.set k (d[k].1, (decV d[k].1.df.ty bs).1)) := by
      unfold Hid writeR
      unfold mayR at hm
      rw [hf] at hm ⊢
      simp only [List.getElem?_eq_getElem hk] at hm ⊢
      rw [if_pos hm]
    rw [hm] at HMY ⊢
    rw [hf, hc0] at HFD
    simp only [Option.getD_some] at HFD
    rw [E.out]
    obtain ⟨gl, gv, cl, cv, h1, l1, l2, cL, cV⟩ := HD.out.at_ hk
    obtain ⟨sL, sV, g1, g2, g3⟩ := HD.out.ex
    rw [h1] at g1
    simp only [Option.some.injEq, Obj.cells.injEq, Array.mk.injEq, List.cons.injEq, and_true, true_and] at g1
    obtain ⟨rfl, rfl⟩ := g1
    have HLR := Lib.hid g2
    have HVR := Lib.hid g3
    have HP := Lib.hid h1
    have hdt : w.cell? ⟨gl, k * 14 + 11, none⟩ = some (.int .i64 d[k].1.df.ty) := cL 11 (by decide)
    have HDE := Lib.hid (fun W hF => rDec_any d[k].1.df.ty (.slice A bs.length cap) bs W (HBS.out.grow hF) hb)
    have HNV : Hid (NewsOf w (some ⟨gv, 0, none⟩) (cellsOf cellsV (d.map (·.2)))) := by
      obtain ⟨A', c', e, _, _, q3⟩ := row_open g3
      obtain ⟨g', e2, _, _, _, hcc⟩ := q3 (by omega)
      simp only [Value.slice.injEq] at e
      rw [← e.1] at e2
      simp only [Option.some.injEq, Addr.mk.injEq, true_and, and_true] at e2
      subst e2
      refine ⟨gv, 0, rfl, fun j u hj => ?_⟩
      have hlt := (List.getElem?_eq_some_iff.1 hj).1
      rw [cellsOf_length (sz := 3) (fun v => rfl), List.length_map] at hlt
      rw [Nat.zero_add, hcc j hlt]
      exact hj
    have HVL : Hid ((cellsOf cellsV (d.map (·.2))).length = d.length * 3) := by unfold Hid; rw [cellsOf_length (sz := 3) (fun v => rfl), List.length_map]
    have HONE : Hid (∀ u ∈ cellsOf cellsV (d.map (·.2)), u.oneCell' = true) := fun u hu => by
      unfold cellsOf at hu
      obtain ⟨x, _, hx⟩ := List.mem_flatMap.1 hu
      simp only [cellsV, List.mem_cons, List.not_mem_nil, or_false] at hx
      rcases hx with rfl | rfl | rfl <;> rfl
    have HSET : Hid (∀ (vs : List Va), vs = d.map (·.2) → ∀ u : Va, vs.set k u = (d.set k (d[k].1, u)).map (·.2) ∧ (d.set k (d[k].1, u)).map (·.1) = d.map (·.1)) := fun vs e u => by
      refine ⟨by rw [e, List.map_set], ?_⟩
      rw [List.map_set]
      have h9 : (d.map (·.1))[k]'(by simpa using hk) = d[k].1 := by simp
      conv => lhs; rw [← h9]
      exact List.set_getElem_self _
    have hm1 : 0 + d.length ≤ maxLen := by unfold maxLen; omega
    have hm2 : (0 + d.length) * 32 ≤ 140737488355328 := by omega
    have HKD := Lib.hid hk
    generalize d[k].1.df.ty = ty at *
    generalize hdv : decV ty bs = dv at *
    obtain ⟨dv, de⟩ := dv
    unfold DecP valV at HDE
    simp only at HDE ⊢
    have hcc : ∀ W, Frm (fun _ => False) w W → W.cell? ⟨p, 0, none⟩ = some (.slice (some ⟨gl, 0, none⟩) d.length cl) ∧ W.cell? ⟨p, 1, none⟩ = some (.slice (some ⟨gv, 0, none⟩) d.length cv) ∧ W.cell? ⟨gl, k * 14 + 11, none⟩ = some (.int .i64 ty) ∧ p < W.heap.size ∧ gl < W.heap.size ∧ (∀ o, W.frozen? ⟨p, o, none⟩ = false) := fun W hF => by
      have kk := hF.heap h1 (fun h => h)
      exact ⟨cell_at kk, cell_at kk, hF.cell hdt (fun h => h), lt_of_block kk, Nat.lt_of_lt_of_le l1 hF.size, frees kk⟩
    have HCC := Lib.hid hcc
    unfold ptr at HMY HFD
    unfold ptr
    clear hf hc0 hm h1 l1 l2 cL cV g2 g3 hdt hdv hcc
    go_enter Try.func56, Try.ntmps56
    go_upto_region 6 with (first | (go_at_call 55; refine HMY.out.mono ?_; rintro e w1 ⟨rfl, hF1⟩; have HF1 := Lib.hid hF1; clear hF1) | (go_at_call 57; refine (HFD.out _ (HD.out.grow HF1.out)).mono ?_; rintro e w2 ⟨rfl, hF2⟩; have HF2 := Lib.hid (HF1.out.trans' hF2); obtain ⟨a0, a1, a2, a3, a4, a5⟩ := HCC.out w2 HF2.out; clear hF2) | (go_at_call 91; refine (HDE.out _ HF2.out).mono ?_; rintro e w3 ⟨rfl, hF3⟩; clear a0 a1 a2 a3 a4 a5; have HF3 := Lib.hid (HF2.out.trans' hF3); obtain ⟨a0, a1, a2, a3, a4, a5⟩ := HCC.out w3 HF3.out; clear hF3) | (at_builtin; go_loud (refine wpl_app_src rfl el_Value (.tmp 43) (.tmp 47) rfl (B := w3.heap.size + 1) (xs := []) (news := cellsOf cellsV (d.map fun (x : Im) => x.2)) rfl rfl (row_new (by simp) rfl rfl (by decide) (by simp)) HVL.out (fun h => HNV.out.grow (Frm.trans' HF3.out (by (repeat' (first | (with_reducible exact Frm.refl _ _) | (with_reducible assumption) | (with_reducible refine Frm.alloc ?_ _) | (with_reducible refine Frm.drew ?_) | (with_reducible refine Frm.drewN ?_ _) | (with_reducible refine Frm.set1 ?_ _) | (with_reducible refine Frm.setCell ?_ ?_ _) | (exact fun h => absurd h (Nat.lt_irrefl _)) | (intro hlt; simp [World.size_alloc, One] at hlt ⊢; omega)))))) HONE.out hm1 hm2 (by simp) ?_; intro A5 c5 w5 hown5 hfr5; have hF35 : Frm (fun _ => False) w3 w5 := Frm.trans (b := _) (T := fun j => (Value.slice (some ⟨w3.heap.size + 1, 0, none⟩) 0 0).ownBlock = some j) (by (repeat' (first | (with_reducible exact Frm.refl _ _) | (with_reducible assumption) | (with_reducible refine Frm.alloc ?_ _) | (with_reducible refine Frm.drew ?_) | (with_reducible refine Frm.drewN ?_ _) | (with_reducible refine Frm.set1 ?_ _) | (with_reducible refine Frm.setCell ?_ ?_ _) | (exact fun h => absurd h (Nat.lt_irrefl _)) | (intro hlt; simp [World.size_alloc, One] at hlt ⊢; omega)))) hfr5 (fun i hi e => absurd hi (by cases e; simp)); have HF35 := Lib.hid hF35; clear a0 a1 a2 a3 a4 a5; obtain ⟨a0, a1, a2, a3, a4, a5⟩ := HCC.out w5 (HF3.out.trans' hF35); have HR5 := Lib.hid hown5; have KB5 : Hid (w5.heap[w3.heap.size]? = some (.cells #[.int .i64 dv.ty, .int .u64 dv.n, .string (strB2 dv.b)] 36 (0, 0))) := hfr5.heap (heap_alloc_old (heap_new w3 _)) (fun e => by have e : some (w3.heap.size + 1) = some w3.heap.size := e; simp at e); clear hown5 hfr5 hF35)))
    clear a0 a1 a2 a3 a4 a5
    have hr5 := HR5.out
    rw [Nat.zero_add, List.nil_append] at hr5
    obtain ⟨A6, c6, e6, _, _, q6⟩ := row_open hr5
    simp only [Value.slice.injEq] at e6
    obtain ⟨rfl, -, rfl⟩ := e6
    obtain ⟨g5, rfl, hg5b, ⟨cur5, hc5⟩, _, hcc5⟩ := q6 (by have := HKD.out; omega)
    have hFw5 := HF3.out.trans' HF35.out
    have hp5 := hFw5.heap HP.out (fun h => h)
    have hne : g5 ≠ p := block_ne hc5 hp5 (by decide)
    have hyp : (w5.setCell ⟨p, 1, none⟩ (.slice (some ⟨g5, 0, none⟩) d.length c5)).heap[p]? = some (.cells #[.slice (some ⟨gl, 0, none⟩) d.length cl, .slice (some ⟨g5, 0, none⟩) d.length c5] 108 (0, 0)) := heap_set_at hp5 rfl
    have hyr : (w5.setCell ⟨p, 1, none⟩ (.slice (some ⟨g5, 0, none⟩) d.length c5)).ownsRow (w3.heap.size + 1) 36 3 (.slice (some ⟨g5, 0, none⟩) d.length c5) d.length (cellsOf cellsV (d.map (·.2))) := Frm.row (S := One p) ((Frm.refl _ _).set1 _) hr5 (fun j hj e => by cases hj; exact hne e)
    have hyF : Frm (One p) w (w5.setCell ⟨p, 1, none⟩ (.slice (some ⟨g5, 0, none⟩) d.length c5)) := (hFw5.mono (fun _ _ h => h.elim)).set1 _
    have hyB : (w5.setCell ⟨p, 1, none⟩ (.slice (some ⟨g5, 0, none⟩) d.length c5)).heap[w3.heap.size]? = some (.cells #[.int .i64 dv.ty, .int .u64 dv.n, .string (strB2 dv.b)] 36 (0, 0)) := heap_set_other KB5.out (block_ne KB5.out hp5 (by decide))
    generalize w5.setCell ⟨p, 1, none⟩ (.slice (some ⟨g5, 0, none⟩) d.length c5) = wy at *
    have hy5 : ∃ cur, wy.heap[g5]? = some (.cells cur 36 (0, 0)) := (row_block hyr rfl).2
    obtain ⟨cury, hcy⟩ := hy5
    have hgb5 : w3.heap.size ≠ g5 := by omega
    have HY := Lib.hid hyp
    have HYR := Lib.hid hyr
    have HYF := Lib.hid hyF
    have hcc : ∀ Wx, Frm (fun j => j = g5) wy Wx → Wx.cell? ⟨p, 1, none⟩ = some (.slice (some ⟨g5, 0, none⟩) d.length c5) ∧ Wx.cell? ⟨w3.heap.size, 0, none⟩ = some (.int .i64 dv.ty) ∧ Wx.cell? ⟨w3.heap.size, 1, none⟩ = some (.int .u64 dv.n) ∧ Wx.cell? ⟨w3.heap.size, 2, none⟩ = some (.string (strB2 dv.b)) := fun Wx h => ⟨h.cell (cell_at hyp) hne.symm, h.cell (cell_at hyB) hgb5, h.cell (cell_at hyB) hgb5, h.cell (cell_at hyB) hgb5⟩
    have HC6 := Lib.hid hcc
    have hpl := lt_of_block hyp
    have hBl := lt_of_block hyB
    have hgl5 := lt_of_block hcy
    have hkd := HKD.out
    obtain ⟨z0, z1, z2, n0, n1, n2⟩ : ∃ z0 z1 z2, wy.cell? ⟨g5, k * 3, none⟩ = some z0 ∧ wy.cell? ⟨g5, k * 3 + 1, none⟩ = some z1 ∧ wy.cell? ⟨g5, k * 3 + 2, none⟩ = some z2 := by
      obtain ⟨A7, c7, e7, _, _, q7⟩ := row_open hyr
      obtain ⟨g7, e8, _, _, _, hc7⟩ := q7 (by omega)
      simp only [Value.slice.injEq] at e7
      rw [← e7.1] at e8
      simp only [Option.some.injEq, Addr.mk.injEq, true_and, and_true] at e8
      subst e8
      have hl7 : (cellsOf cellsV (d.map (·.2))).length = d.length * 3 := HVL.out
      have f : ∀ o, o < 3 → ∃ z, wy.cell? ⟨g5, k * 3 + o, none⟩ = some z := fun o ho => ⟨_, (hc7 _ (by omega)).trans (List.getElem?_eq_getElem (by omega))⟩
      obtain ⟨z0, h0⟩ := f 0 (by omega)
      obtain ⟨z1, h1⟩ := f 1 (by omega)
      obtain ⟨z2, h2⟩ := f 2 (by omega)
      exact ⟨z0, z1, z2, h0, h1, h2⟩
    have nf := frees hcy
    clear hcc hyp hyr hyF hyB hcy hr5 hc5 hp5 hFw5 hcc5 q6 HR5 HF35 KB5
    refine wp_region_held_drew (S := (fun Wx => Frm (fun j => j = g5) wy Wx)) (by kernel_rfl) ((Frm.refl _ _).drew) (fun hHeld => ?_)
    refine wpAnyH_take (i := 0) (v := ?_) rfl (by kernel_rfl) (by kernel_rfl) (by kernel_rfl) (fun _ _ _ h => h) (Or.inl ⟨by rfl, ?_⟩) (by assumption) ?_; rotate_left; · (intro wq hSq; have hq := HC6.out wq hSq; go_split_ands; go_simp; (try with_reducible rfl))
    try simp only [Act.put, getElem_toArray, getElem_cons_zero, getElem_cons_succ, setIfInBounds_toArray, set_cons_zero, set_cons_succ]
    refine wpAnyH_take (i := 1) (v := ?_) rfl (by kernel_rfl) (by kernel_rfl) (by kernel_rfl) (fun _ _ _ h => h) (Or.inl ⟨by rfl, ?_⟩) (by assumption) ?_; rotate_left; · (intro wq hSq; have hq := HC6.out wq hSq; go_split_ands; go_simp; (try with_reducible rfl))
    try simp only [Act.put, getElem_toArray, getElem_cons_zero, getElem_cons_succ, setIfInBounds_toArray, set_cons_zero, set_cons_succ]
    refine wpAnyH_take (i := 2) (v := ?_) rfl (by kernel_rfl) (by kernel_rfl) (by kernel_rfl) (fun _ _ _ h => h) (Or.inl ⟨by rfl, ?_⟩) (by assumption) ?_; rotate_left; · (intro wq hSq; have hq := HC6.out wq hSq; go_split_ands; go_simp; (try with_reducible rfl))
    try simp only [Act.put, getElem_toArray, getElem_cons_zero, getElem_cons_succ, setIfInBounds_toArray, set_cons_zero, set_cons_succ]
    refine wpAnyH_take (i := 3) (v := ?_) rfl (by kernel_rfl) (by kernel_rfl) (by kernel_rfl) (fun _ _ _ h => h) (Or.inl ⟨by rfl, ?_⟩) (by assumption) ?_; rotate_left; · (intro wq hSq; have hq := HC6.out wq hSq; go_split_ands; go_simp; (try with_reducible rfl))
    try simp only [Act.put, getElem_toArray, getElem_cons_zero, getElem_cons_succ, setIfInBounds_toArray, set_cons_zero, set_cons_succ]
    refine wpAnyH_take (i := 4) (v := ?_) rfl (by kernel_rfl) (by kernel_rfl) (by kernel_rfl) (fun _ _ _ h => h) (Or.inl ⟨by rfl, ?_⟩) (by assumption) ?_; rotate_left; · (intro wq hSq; have hq := HC6.out wq hSq; go_split_ands; go_simp; (try with_reducible rfl))
    try simp only [Act.put, getElem_toArray, getElem_cons_zero, getElem_cons_succ, setIfInBounds_toArray, set_cons_zero, set_cons_succ]
    refine wpAnyH_take (i := 5) (v := ?_) rfl (by kernel_rfl) (by kernel_rfl) (by kernel_rfl) (fun _ _ _ h => h) (Or.inl ⟨by rfl, ?_⟩) (by assumption) ?_; rotate_left; · (intro wq hSq; have hq := HC6.out wq hSq; go_split_ands; go_simp; (try with_reducible rfl))
    try simp only [Act.put, getElem_toArray, getElem_cons_zero, getElem_cons_succ, setIfInBounds_toArray, set_cons_zero, set_cons_succ]
    refine wpAnyH_take (i := 6) (v := ?_) rfl (by kernel_rfl) (by kernel_rfl) (by kernel_rfl) (fun _ _ _ h => h) (Or.inl ⟨by rfl, ?_⟩) (by assumption) ?_; rotate_left; · (intro wq hSq; have hq := HC6.out wq hSq; go_split_ands; go_simp; (try with_reducible rfl))
    try simp only [Act.put, getElem_toArray, getElem_cons_zero, getElem_cons_succ, setIfInBounds_toArray, set_cons_zero, set_cons_succ]
    refine wpAnyH_ready (rs := [7]) (by kernel_rfl) (by simp) ?_
    refine AllReadyH.cons rfl (fun K hK => ?_) AllReadyH.nil
    try simp only [getElem_toArray, getElem_cons_zero, getElem_cons_succ]
    go_simp
    refine hK.out _ _ (((hHeld.setCell (p := ⟨g5, k * 3, none⟩) (fun _ => rfl) _).setCell (p := ⟨g5, k * 3 + 1, none⟩) (fun _ => rfl) _).setCell (p := ⟨g5, k * 3 + 2, none⟩) (fun _ => rfl) _) (fun hHeld => ?_)
    clear hK K
    try simp only [Act.put, setIfInBounds_toArray, set_cons_zero, set_cons_succ]
    refine wpAnyH_done (by kernel_rfl) ?_ _
    have HRZ := Lib.hid (row_set3 (w := wy.drew) (k := k) (Frm.row (S := fun _ => False) ((Frm.refl _ _).drew) HYR.out (fun _ _ h => h)) (by simp) hkd dv)
    have HH := Lib.hid hHeld
    clear hHeld n0 n1 n2 nf
    go_wp2_with fail
    go_ret
    obtain ⟨s1, s2⟩ := HSET.out _ rfl dv
    refine ⟨rfl, ⟨_, _, HH.out.heap HY.out hne.symm, ?_, ?_⟩, HYF.out.trans HH.out (fun i hi e => by have e : i = g5 := e; have := HF3.out.size; omega)⟩
    · rw [s2, List.length_set]
      have hL1 := HYF.out.row HLR.out (fun j hj e => by
        have e : j = p := e
        subst e
        obtain ⟨_, cur, hc⟩ := row_block HLR.out hj
        exact block_ne hc HP.out (by decide) rfl)
      exact HH.out.row hL1 (fun j hj e => by
        have e : j = g5 := e
        subst e
        obtain ⟨_, cur, hc⟩ := row_block hL1 hj
        obtain ⟨_, cur2, hc2⟩ := row_block HYR.out rfl
        exact block_ne hc hc2 (by decide) rfl)
    · rw [← s1, List.length_set]
      exact row_base HRZ.out (by have := HF3.out.size; have := HBB.out; omega)
end Go.Proofs.Ytemjdmgfilbfaaa
namespace Go.Proofs.Ytemjdmgfilbfaaa
open Go.RowKit
set_option linter.unusedVariables false

theorem or_mul (a b i m : Nat) (hm : m = 2 ^ i) (h : a < m) : a ||| (b * m) = a + b * m := by
  subst hm
  rw [Nat.or_comm, ← Nat.shiftLeft_eq, ← Nat.shiftLeft_add_eq_or_of_lt h, Nat.add_comm]
theorem le32_sum (n0 n1 n2 n3 : Nat) (b0 : n0 < 256) (b1 : n1 < 256) (b2 : n2 < 256) (b3 : n3 < 256) :
    bits BinOp.or IntKind.u64 (bits BinOp.or IntKind.u64 (bits BinOp.or IntKind.u64 (n0 : Int) ((n1 : Int) * 256)) ((n2 : Int) * 65536)) ((n3 : Int) * 16777216) = (n0 : Int) + 256 * ((n1 : Int) + 256 * ((n2 : Int) + 256 * (n3 : Int))) := by
  have e1 : ((n1 : Int) * 256) = ((n1 * 256 : Nat) : Int) := by omega
  have e2 : ((n2 : Int) * 65536) = ((n2 * 65536 : Nat) : Int) := by omega
  have e3 : ((n3 : Int) * 16777216) = ((n3 * 16777216 : Nat) : Int) := by omega
  rw [e1, e2, e3, bits_or_u64_nat n0 (n1 * 256) (by omega) (by omega), or_mul n0 n1 8 256 (by decide) (by omega), bits_or_u64_nat _ (n2 * 65536) (by omega) (by omega), or_mul _ n2 16 65536 (by decide) (by omega), bits_or_u64_nat _ (n3 * 16777216) (by omega) (by omega), or_mul _ n3 24 16777216 (by decide) (by omega)]
  omega
theorem le16_sum (n0 n1 : Nat) (b0 : n0 < 256) (b1 : n1 < 256) : bits BinOp.or IntKind.u16 (n0 : Int) ((n1 : Int) * 256) = (n0 : Int) + 256 * (n1 : Int) := by
  have e1 : ((n1 : Int) * 256) = ((n1 * 256 : Nat) : Int) := by omega
  rw [e1, u16_or_nat n0 (n1 * 256) (by omega) (by omega), or_mul n0 n1 8 256 (by decide) (by omega)]
  omega

set_option maxHeartbeats 1000000 in
theorem read32_any (v : Value) (bs : List UInt8) (w : World) (h : BytesAt w v bs) (h4 : 4 ≤ bs.length) :
    Calls Try.prog 97 #[v] w fun e w' => e = .returned (.int .u64 (numOf (bs.take 4))) ∧ ∃ m, w' = w.drewN m := by
  obtain ⟨A, cap, rfl, h1, h2, hc⟩ := bytes_cell h
  obtain ⟨g, off, rfl, hc2⟩ := hc (by omega)
  have hm : bs.length ≤ 9223372036854775807 := Nat.le_trans h1 h2
  match bs, h4 with
  | c0 :: c1 :: c2 :: c3 :: r, _ =>
    have d0 : w.cell? ⟨g, off, none⟩ = some (.int .u8 c0.toNat) := hc2 0 (by simp)
    have d1 : w.cell? ⟨g, off + 1, none⟩ = some (.int .u8 c1.toNat) := hc2 1 (by simp)
    have d2 : w.cell? ⟨g, off + 2, none⟩ = some (.int .u8 c2.toNat) := hc2 2 (by simp)
    have d3 : w.cell? ⟨g, off + 3, none⟩ = some (.int .u8 c3.toNat) := hc2 3 (by simp)
    have b0 := c0.toNat_lt
    have b1 := c1.toNat_lt
    have b2 := c2.toNat_lt
    have b3 := c3.toNat_lt
    clear hc hc2 h h1 h2
    simp only [List.length_cons] at hm ⊢
    go_enter Try.func97, Try.ntmps97
    go_wp2
    go_quiet (fail)
    go_wp2
    go_ret
    refine ⟨?_, nq, rfl⟩
    have E := le32_sum c0.toNat c1.toNat c2.toNat c3.toNat b0 b1 b2 b3
    show Ending.returned (.int .u64 (bits BinOp.or IntKind.u64 (bits BinOp.or IntKind.u64 (bits BinOp.or IntKind.u64 (c0.toNat : Int) ((c1.toNat : Int) * 256)) ((c2.toNat : Int) * 65536)) ((c3.toNat : Int) * 16777216))) = _
    rw [E]
    simp [numOf]
end Go.Proofs.Ytemjdmgfilbfaaa
namespace Go.Proofs.Ytemjdmgfilbfaaa
open Go.RowKit
set_option linter.unusedVariables false
set_option linter.unusedSimpArgs false

/-- The place of a saved value. -/
def plP (x : It) : Int := x.1 * 256 + x.2.1
def lastP (l : List It) : Int := match l.getLast? with | none => -1 | some x => plP x
/-- The first saved value of some bytes. -/
def headP (b : List UInt8) : It := (numOf (b.take 2), ((b.getD 2 0).toNat : Int), (b.drop 7).take (numOf ((b.drop 3).take 4)).toNat)
/-- Saved values, in order; none: these are no such. -/
def prtF : Nat → Int → List UInt8 → Option (List It)
  | 0, _, b => if b.length = 0 then some [] else none
  | f + 1, last, b => if b.length = 0 then some [] else if b.length < 7 then none else if ((b.length - 7 : Nat) : Int) < numOf ((b.drop 3).take 4) ∨ plP (headP b) ≤ last then none
      else (prtF f (plP (headP b)) ((b.drop 7).drop (numOf ((b.drop 3).take 4)).toNat)).map (headP b :: ·)
def partsD (b : List UInt8) : Option (List It) := prtF b.length (-1) b
theorem prtF_more (f : Nat) (last : Int) (b : List UInt8) (hf : b.length ≤ f) : prtF f last b = prtF b.length last b := by
  induction f using Nat.strongRecOn generalizing last b with
  | ind f ih =>
    by_cases h0 : b.length = 0
    · cases f <;> simp [prtF, h0]
    · obtain ⟨f', rfl⟩ : ∃ f', f = f' + 1 := ⟨f - 1, by omega⟩
      obtain ⟨m, hm⟩ : ∃ m, b.length = m + 1 := ⟨b.length - 1, by omega⟩
      rw [hm]
      unfold prtF
      rw [if_neg h0, if_neg h0]
      split
      · rfl
      · split
        · rfl
        · have hl : ((b.drop 7).drop (numOf ((b.drop 3).take 4)).toNat).length ≤ m := by simp; omega
          rw [ih f' (by omega) _ _ (by omega)]
          by_cases hmm : m = f'
          · subst hmm
            rw [ih m (by omega) _ _ hl]
          · rw [ih m (by omega) _ _ hl]
theorem prt_done (last : Int) (b : List UInt8) (h : b.length = 0) : prtF b.length last b = some [] := by
  rw [h]
  simp [prtF, h]
theorem prt_bad {last : Int} {b : List UInt8} (h0 : 0 < b.length) (h : b.length < 7 ∨ (7 ≤ b.length ∧ (((b.length - 7 : Nat) : Int) < numOf ((b.drop 3).take 4) ∨ plP (headP b) ≤ last))) : prtF b.length last b = none := by
  obtain ⟨m, hm⟩ : ∃ m, b.length = m + 1 := ⟨b.length - 1, by omega⟩
  rw [hm]
  unfold prtF
  rw [if_neg (by omega)]
  rcases h with h | ⟨h1, h2⟩
  · rw [if_pos h]
  · rw [if_neg (by omega), if_pos h2]
theorem prt_next {last : Int} {b : List UInt8} {n : Nat} (h7 : 7 ≤ b.length) (hn : numOf ((b.drop 3).take 4) = (n : Int)) (h1 : n ≤ b.length - 7) (h2 : last < plP (headP b)) :
    prtF b.length last b = (prtF ((b.drop 7).drop n).length (plP (headP b)) ((b.drop 7).drop n)).map (headP b :: ·) := by
  obtain ⟨m, hm⟩ : ∃ m, b.length = m + 1 := ⟨b.length - 1, by omega⟩
  rw [hm]
  conv => lhs; unfold prtF
  rw [if_neg (by omega), if_neg (by omega), if_neg (by rw [hn]; omega), hn]
  simp only [Int.toNat_natCast]
  rw [prtF_more m _ _ (by simp; omega)]
theorem lastP_snoc (l : List It) (x : It) : lastP (l ++ [x]) = plP x := by
  unfold lastP
  simp
theorem size_u8p (w : World) : (Go.sizeOf 5).run Try.prog w = .ok 1 w := size_u8 w
theorem bytes_back {W0 : World} {A : Option Addr} {bs : List UInt8} {cap : Nat} (q : IntKind) (h : BytesAt W0 (.slice A bs.length cap) bs) (j : Nat) (hj : j ≤ bs.length) :
    ∃ A1, (∀ W, (Instr.slice 33 (.slice A bs.length cap) (some (.int q (j : Int))) none none).run Try.prog W = .ok (.slice A1 (bs.length - j) (cap - j)) W) ∧ BytesAt W0 (.slice A1 (bs.length - j) (cap - j)) (bs.drop j) := by
  have ht : Try.prog.underlying 33 = some (.slice (Try.prog.elem 33)) := by kernel_rfl
  have he : Try.prog.elem 33 = 5 := by kernel_rfl
  obtain ⟨A', cap', e, h1, h2, h3⟩ := h
  simp only [Value.slice.injEq] at e
  obtain ⟨rfl, -, rfl⟩ := e
  refine ⟨if cap = j then A else A.map (·.add (j * 1)), fun W => ?_, ⟨_, cap - j, by rw [List.length_drop], by rw [List.length_drop]; omega, by omega, fun h0 => ?_⟩⟩
  · rw [run_slice_l W 33 _ _ _ ht q _ (by omega) (by omega), he, size_u8]
    simp [Result.andThen, sliced]
  · rw [List.length_drop] at h0
    obtain ⟨g, off, rfl, hc⟩ := h3 (by omega)
    rw [if_neg (by omega)]
    refine ⟨g, off + j, ?_, fun i hi => ?_⟩
    · simp only [Option.map_some, Addr.add]
      by_cases h1 : j = 0
      · simp [h1]
      · simp [h1]
    · rw [List.length_drop] at hi
      have := hc (j + i) (by omega)
      rw [Nat.add_assoc, this]
      simp [List.getD_eq_getElem?_getD]
theorem bytes_front {W0 : World} {A : Option Addr} {bs : List UInt8} {cap : Nat} (q : IntKind) (h : BytesAt W0 (.slice A bs.length cap) bs) (j : Nat) (hj : j ≤ bs.length) :
    ∃ A1, (∀ W, (Instr.slice 33 (.slice A bs.length cap) none (some (.int q (j : Int))) none).run Try.prog W = .ok (.slice A1 j cap) W) ∧ BytesAt W0 (.slice A1 j cap) (bs.take j) := by
  have ht : Try.prog.underlying 33 = some (.slice (Try.prog.elem 33)) := by kernel_rfl
  have he : Try.prog.elem 33 = 5 := by kernel_rfl
  obtain ⟨A', cap', e, h1, h2, h3⟩ := h
  simp only [Value.slice.injEq] at e
  obtain ⟨rfl, -, rfl⟩ := e
  refine ⟨if cap = 0 then A else A.map (·.add (0 * 1)), fun W => ?_, ⟨_, cap, by rw [List.length_take, Nat.min_eq_left hj], by rw [List.length_take, Nat.min_eq_left hj]; omega, h2, fun h0 => ?_⟩⟩
  · rw [run_slice_h W 33 _ _ _ ht q _ (by omega) (by omega), he, size_u8]
    simp [Result.andThen, sliced]
  · rw [List.length_take, Nat.min_eq_left hj] at h0
    obtain ⟨g, off, rfl, hc⟩ := h3 (by omega)
    rw [if_neg (by omega)]
    refine ⟨g, off, by simp [Addr.add], fun i hi => ?_⟩
    rw [List.length_take, Nat.min_eq_left hj] at hi
    rw [hc i (by omega)]
    simp [List.getD_eq_getElem?_getD, hi]
end Go.Proofs.Ytemjdmgfilbfaaa
