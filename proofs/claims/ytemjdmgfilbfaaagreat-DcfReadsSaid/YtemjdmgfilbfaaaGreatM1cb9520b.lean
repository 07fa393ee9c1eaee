/-
  Begins: a dictionary by the program and by the document. Save. Items written: low32, Encode. Encode's walk. Encode's walk: the whole. Items that are written to a dictionary, one behind the other. slices.Backward over items: its contract, for whatever loop body.
-/
import Derived.Deep.RegionLaw
import Derived.Deep.DeepCutAuto
import Derived.RangeFuncNested
import Derived.RangeFuncBound
import Derived.RangeFuncCalls
import Derived.RangeFuncLeaves
import Derived.Shelf.Abstract
import Derived.Shelf.RegionOpen
import Derived.OwnWalkIn
import Derived.TacticsInMore
import Derived.LoopNIn
import Derived.LoopIn
import Derived.Maps.AppendAt
import Derived.Test.YtemjdmgfilbfaaaGreatM37a28ca7
import Derived.Test.YtemjdmgfilbfaaaGreatMddbe9747
import Derived.Test.YtemjdmgfilbfaaaGreatMc6bffdeb
set_option linter.unusedVariables false
set_option linter.unusedSimpArgs false
namespace Go.Proofs.YtemjdmgfilbfaaaGreat
open Go.RowKit
set_option linter.unusedVariables false
set_option linter.unusedSimpArgs false

theorem odCheck_any (v : Value) (xs : List En) (w : World) (h : SlAt cellsE 14 w v xs) (hx : ∀ x ∈ xs, x.ok) : Calls Tryz.prog 30 #[v] w fun e w' => e = .returned (.int .i64 (checkE xs)) ∧ Frm (fun _ => False) w w' := by
  have HCHK := Lib.hid (odChk_any v xs w h hx)
  go_enter Tryz.func30, Tryz.ntmps30
  go_wp2_with (go_at_call 53; refine HCHK.out.mono ?_; rintro e w3 ⟨rfl, hF3⟩)
  go_ret
  exact ⟨rfl, hF3⟩

def BeginP (xs : List En) (W : World) (e : Ending) (w' : World) : Prop :=
  Frm (fun _ => False) W w' ∧ ((checkE xs ≠ 0 ∧ e = .returned (.tuple #[.pointer none, .bool true])) ∨
    (checkE xs = 0 ∧ ∃ a b p l B, e = .returned (.tuple #[ptr a, .bool true]) ∧ w'.heap[a]? = some (.cells #[ptr b, ptr p] 36 (0, 0)) ∧ DAt w' b l ∧ im l = newD xs ∧ DR w' p B (newD xs) ∧ W.heap.size ≤ b ∧ b < B ∧ (∀ q ∈ l, q.1 < B) ∧ B ≤ p ∧ B ≤ a))

set_option maxRecDepth 100000 in
set_option maxHeartbeats 4000000 in
theorem begins_any (v0 : Value) (xs : List En) (W : World) (h0 : SlAt cellsE 14 W v0 xs) (hx : ∀ x ∈ xs, x.ok) (hby : xs.length * 120 ≤ 140737488351232) :
    Calls Tryz.prog 6 #[v0] W (BeginP xs W) := by
  have H0 := Lib.hid h0
  obtain ⟨A, cap, rfl, hc1, hc2, hnews, hlen⟩ := news_entries h0
  have HNW := Lib.hid hnews
  have HLEN := Lib.hid hlen
  have HONE := Lib.hid (oneE xs)
  have hm1 : 0 + xs.length ≤ maxLen := by omega
  have hm2 : (0 + xs.length) * 120 ≤ 140737488355328 := by omega
  have HNEW := Lib.hid (fun v W h => odNew_any v xs W h hx)
  have HRN := Lib.hid (fun W h => rDNew_any (.slice A xs.length cap) xs W h hx)
  have HCHK := Lib.hid (fun W h => odCheck_any (.slice A xs.length cap) xs W h hx)
  unfold BeginP
  unfold ONewP at HNEW
  unfold RNewP at HRN
  clear h0 hnews hlen hby hx
  by_cases hz : checkE xs = 0
  case neg =>
    have HZ := Lib.hid hz
    clear hz
    go_enter Tryz.func6, Tryz.ntmps6
    go_upto_region 3 with (first | (at_builtin; refine wpl_app_src rfl el_Entry (.tmp 9) (.tmp 10) rfl (B := W.heap.size) (xs := []) (news := cellsOf cellsE xs) rfl rfl (row_new (by simp) rfl rfl (by decide) (by simp)) HLEN.out (fun h => (HNW.out h).grow (by (repeat' (first | (with_reducible exact Frm.refl _ _) | (with_reducible assumption) | (with_reducible refine Frm.alloc ?_ _) | (with_reducible refine Frm.drew ?_) | (with_reducible refine Frm.drewN ?_ _) | (with_reducible refine Frm.set1 ?_ _) | (with_reducible refine Frm.setCell ?_ ?_ _) | (exact fun h => absurd h (Nat.lt_irrefl _)) | (intro hlt; simp [World.size_alloc, One] at hlt ⊢; omega))))) HONE.out hm1 hm2 (by simp) ?_; intro A2 cap2 w1 hown1 hfr1) | (go_at_call 28; have hsl1 : SlAt cellsE 14 w1 (.slice A2 xs.length cap2) xs := SlAt.of_row cellsE_len (by simpa using hown1); have hF1 : Frm (fun _ => False) W w1 := (Frm.trans (b := _) (T := fun k => (Value.slice (some ⟨W.heap.size, 0, none⟩) 0 0).ownBlock = some k) (by (repeat' (first | (with_reducible exact Frm.refl _ _) | (with_reducible assumption) | (with_reducible refine Frm.alloc ?_ _) | (with_reducible refine Frm.drew ?_) | (with_reducible refine Frm.drewN ?_ _) | (with_reducible refine Frm.set1 ?_ _) | (with_reducible refine Frm.setCell ?_ ?_ _) | (exact fun h => absurd h (Nat.lt_irrefl _)) | (intro hlt; simp [World.size_alloc, One] at hlt ⊢; omega)))) hfr1 (fun i hi e => absurd hi (by cases e; exact Nat.lt_irrefl _))); refine (HNEW.out _ _ hsl1).mono ?_; rintro e w2 ⟨hF2, ⟨hne, rfl⟩ | h⟩; rotate_left; exact absurd h.1 HZ.out; have HF2 := Lib.hid (hF1.trans' hF2)) | (go_at_call 29; refine (HRN.out _ (SlAt.frm cellsE_len H0.out HF2.out)).mono ?_; rintro e w4 ⟨hF4, ⟨hne4, rfl⟩ | h⟩; rotate_left; exact absurd h.1 HZ.out; have HF4 := Lib.hid (HF2.out.trans' hF4)))
    clear hfr1 hown1 hsl1 hF2 hF4 hF1 HNEW HNW HLEN HONE hm1 hm2 hne hne4
    go_wp2_with (go_at_call 30; refine (HCHK.out _ (SlAt.frm cellsE_len H0.out HF4.out)).mono ?_; rintro e w5 ⟨rfl, hF5⟩)
    go_ret2
    exact ⟨HF4.out.trans' hF5, .inl ⟨HZ.out, rfl⟩⟩
  case pos =>
    have HZ := Lib.hid hz
    clear hz
    go_enter Tryz.func6, Tryz.ntmps6
    go_upto_region 3 with (first | (at_builtin; refine wpl_app_src rfl el_Entry (.tmp 9) (.tmp 10) rfl (B := W.heap.size) (xs := []) (news := cellsOf cellsE xs) rfl rfl (row_new (by simp) rfl rfl (by decide) (by simp)) HLEN.out (fun h => (HNW.out h).grow (by (repeat' (first | (with_reducible exact Frm.refl _ _) | (with_reducible assumption) | (with_reducible refine Frm.alloc ?_ _) | (with_reducible refine Frm.drew ?_) | (with_reducible refine Frm.drewN ?_ _) | (with_reducible refine Frm.set1 ?_ _) | (with_reducible refine Frm.setCell ?_ ?_ _) | (exact fun h => absurd h (Nat.lt_irrefl _)) | (intro hlt; simp [World.size_alloc, One] at hlt ⊢; omega))))) HONE.out hm1 hm2 (by simp) ?_; intro A2 cap2 w1 hown1 hfr1) | (go_at_call 28; have hsl1 : SlAt cellsE 14 w1 (.slice A2 xs.length cap2) xs := SlAt.of_row cellsE_len (by simpa using hown1); have hF1 : Frm (fun _ => False) W w1 := (Frm.trans (b := _) (T := fun k => (Value.slice (some ⟨W.heap.size, 0, none⟩) 0 0).ownBlock = some k) (by (repeat' (first | (with_reducible exact Frm.refl _ _) | (with_reducible assumption) | (with_reducible refine Frm.alloc ?_ _) | (with_reducible refine Frm.drew ?_) | (with_reducible refine Frm.drewN ?_ _) | (with_reducible refine Frm.set1 ?_ _) | (with_reducible refine Frm.setCell ?_ ?_ _) | (exact fun h => absurd h (Nat.lt_irrefl _)) | (intro hlt; simp [World.size_alloc, One] at hlt ⊢; omega)))) hfr1 (fun i hi e => absurd hi (by cases e; exact Nat.lt_irrefl _))); refine (HNEW.out _ _ hsl1).mono ?_; rintro e w2 ⟨hF2, h | ⟨-, b, l, rfl, hD, hl, hb⟩⟩; exact absurd HZ.out h.1; have HF2 := Lib.hid (hF1.trans' hF2); have HD := Lib.hid hD; have HL := Lib.hid hl; have HB0 : Hid (W.heap.size ≤ b) := Nat.le_trans hF1.size hb) | (go_at_call 29; refine (HRN.out _ (SlAt.frm cellsE_len H0.out HF2.out)).mono ?_; rintro e w4 ⟨hF4, h | ⟨-, p, rfl, hDR, hp⟩⟩; exact absurd HZ.out h.1; have HF4 := Lib.hid (HF2.out.trans' hF4); have HD4 := Lib.hid (HD.out.grow hF4); have HDR := Lib.hid hDR; have HP := Lib.hid hp; have HS4 := Lib.hid hF4.size))
    clear hfr1 hown1 hsl1 hF2 hF4 hF1 HNEW HNW HLEN HONE hm1 hm2 hD hl hb hDR hp
    rw [HZ.out] at HCHK
    unfold ptr
    go_wp2_with (go_at_call 30; refine (HCHK.out _ (SlAt.frm cellsE_len H0.out HF4.out)).mono ?_; rintro e w5 ⟨rfl, hF5⟩)
    go_ret2
    have hF6 : Frm (fun _ => False) w4 (w5.alloc (.cells #[ptr b, ptr p] 36)) := hF5.alloc _
    refine ⟨HF4.out.trans' hF6, .inr ⟨HZ.out, _, b, p, l, w2.heap.size, rfl, heap_new _ _, HD4.out.grow hF6, HL.out, HDR.out.grow hF6, HB0.out, HD.out.blt, HD.out.lt, HP.out, ?_⟩⟩
    have := hF5.size
    have := HS4.out
    omega
end Go.Proofs.YtemjdmgfilbfaaaGreat
namespace Go.Proofs.YtemjdmgfilbfaaaGreat
open Go.RowKit
set_option linter.unusedVariables false

theorem encV_len (v : Va) : (encV v).1.length ≤ 65536 := by
  unfold encV
  split
  · simp
  · rename_i h
    split
    · rw [leOf_length]
      rcases sizeT_vals v.ty with h | h | h | h | h <;> rw [h] <;> decide
    · rename_i h0
      show v.b.length ≤ 65536
      unfold checkV at h
      by_cases h1 : isT v.ty = false
      · rw [if_pos h1] at h; exact absurd (by decide) h
      · rw [if_neg h1, if_neg h0] at h
        by_cases h2 : 65536 < v.b.length
        · rw [if_pos h2] at h; exact absurd (by decide) h
        · omega
theorem saveI_len (x : Im) : (saveI x).length ≤ 65543 := by
  have := encV_len x.2
  unfold saveI
  split
  · simp [leOf_length]; omega
  · simp
theorem saveD_len (d : List Im) : (saveD d).length ≤ d.length * 65543 := by
  induction d with
  | nil => simp [saveD]
  | cons x r ih =>
    have := saveI_len x
    unfold saveD at *
    rw [List.flatMap_cons, List.length_append, List.length_cons]
    omega
theorem encB_of (n : Int) (h0 : 0 ≤ n) (h1 : n ≤ 255) : encB (UInt8.ofNat n.toNat) = .int .u8 n := by
  have := encB_mod n
  rwa [Int.emod_eq_of_lt h0 (by omega)] at this
theorem saveI_yes (x : Im) (h : x.1.acc = 2) : saveI x = (leOf x.1.idx 2 ++ leOf x.1.sub 1 ++ leOf (encV x.2).1.length 4) ++ (encV x.2).1 := by
  unfold saveI
  rw [if_pos h]
theorem saveI_no (x : Im) (h : x.1.acc ≠ 2) : saveI x = [] := by
  unfold saveI
  rw [if_neg h]

theorem leOf_succ (n : Int) (k : Nat) : leOf n (k + 1) = UInt8.ofNat (n % 256).toNat :: leOf (n / 256) k := rfl
theorem u8w (n : Int) : IntKind.u8.wrap n = n % 256 := by simp [IntKind.wrap, IntKind.bits, IntKind.signed]
theorem head7 (i s n : Int) (hs : 0 ≤ s ∧ s ≤ 255) : (leOf i 2 ++ leOf s 1 ++ leOf n 4).map encB =
    [.int .u8 (IntKind.u8.wrap i), .int .u8 (IntKind.u8.wrap (i / 256)), .int .u8 s, .int .u8 (IntKind.u8.wrap n), .int .u8 (IntKind.u8.wrap (n / 256)), .int .u8 (IntKind.u8.wrap (n / 65536)), .int .u8 (IntKind.u8.wrap (n / 16777216))] := by
  have e1 : n / 256 / 256 = n / 65536 := by omega
  have e2 : n / 65536 / 256 = n / 16777216 := by omega
  have e3 : s % 256 = s := Int.emod_eq_of_lt hs.1 (by omega)
  simp only [leOf_succ, leOf, u8w, List.map_append, List.map_cons, List.map_nil, encB_mod, e1, e2, e3, encB_of s hs.1 hs.2, List.cons_append, List.nil_append, List.append_nil]

def SaveP (d : List Im) (w : World) (e : Ending) (w' : World) : Prop := ∃ v, e = .returned v ∧ w'.ownsRow w.heap.size 5 1 v (saveD d).length ((saveD d).map encB) ∧ Frm (fun _ => False) w w'

set_option maxRecDepth 100000 in
set_option maxHeartbeats 2000000 in
theorem odSave_any (b : Nat) (l : List (Nat × Im)) (w : World) (h : DAt w b l) (hd : DOk (im l)) : Calls Tryz.prog 24 #[ptr b] w (SaveP (im l) w) := by
  obtain ⟨v, hO, hr⟩ := h.row
  have hlen : l.length ≤ 1024 := by have := hd.len; simpa using this
  have HEL := Lib.hid h.el
  have HOK := Lib.hid hd.ok
  obtain ⟨A, cap, rfl, h1, h2, h3⟩ := row_open hr
  have c0 : w.cell? ⟨b, 0, none⟩ = some (.slice A l.length cap) := cell_at hO
  have hcell : ∀ (k : Nat) (hk : k < l.length), ∃ g, A = some ⟨g, 0, none⟩ ∧ w.cell? ⟨g, k, none⟩ = some (ptr l[k].1) ∧ g < w.heap.size := fun k hk => by
    obtain ⟨g, e, _, ⟨cur, hc⟩, _, hcc⟩ := h3 (by omega)
    exact ⟨g, e, by rw [hcc k (by omega)]; simp [hk], lt_of_block hc⟩
  have HCE := Lib.hid hcell
  clear h hd hO hr h1 h2 h3 hcell
  unfold ptr at HCE
  unfold ptr SaveP
  go_enter Tryz.func24, Tryz.ntmps24
  go_wp2_with fail
  clear c0
  go_loopw [3, 5, 6, 7, 8, 14] (fun bv _ _ _ _ i wr => ∃ k : Nat, k ≤ l.length ∧ i = .int .i64 k ∧ wr.ownsRow w.heap.size 5 1 bv (saveD (im (l.take k))).length ((saveD (im (l.take k))).map encB) ∧ Frm (fun _ => False) w wr) (fun _ _ _ _ _ i _ => l.length - (intOf i).toNat)
  case atStart => exact ⟨0, Nat.zero_le _, rfl, World.ownsRow_nil _ _ _ _, Frm.refl _ _⟩
  case round =>
    obtain ⟨k, hk, rfl, hO, hF⟩ := hrel
    by_cases hlt : k < l.length
    · obtain ⟨g, rfl, cg, hg⟩ := HCE.out k hlt
      have hm := List.getElem_mem hlt
      have hek : saveD (im (l.take (k + 1))) = saveD (im (l.take k)) ++ saveI l[k].2 := by
        unfold saveD im
        rw [List.take_succ_eq_append_getElem hlt, List.map_append, List.flatMap_append]
        simp
      have hsl : (saveD (im (l.take k))).length ≤ 67116032 := by
        have := saveD_len (im (l.take k))
        have h2 : (im (l.take k)).length ≤ 1024 := by simp [im]; omega
        have := Nat.mul_le_mul_right 65543 h2
        omega
      obtain ⟨rb, hrb⟩ : ∃ rb, rb = saveD (im (l.take k)) := ⟨_, rfl⟩
      rw [← hrb] at hO hsl hek
      clear hrb
      have hi := hF.heap (HEL.out _ hm) (fun h => h)
      have hxo := HOK.out _ (List.mem_map.2 ⟨_, hm, rfl⟩)
      have HEK := Lib.hid hek
      have HEN := Lib.hid (fun W => tyEnc_any l[k].2.2 W hxo.2)
      have hel := encV_len l[k].2.2
      have hyes := saveI_yes l[k].2
      have hno := saveI_no l[k].2
      have HYES := Lib.hid hyes
      have HNO := Lib.hid hno
      have cg' := hF.cell cg (fun h => h)
      have hg' := Nat.lt_of_lt_of_le hg hF.size
      obtain ⟨r0, r1, r2, r3, _⟩ := hxo.1
      clear hek hm hyes hno cg hg
      generalize l[k].1 = p at *
      generalize l[k].2 = x at *
      have HRG : Hid (0 ≤ x.1.idx ∧ x.1.idx ≤ 65535 ∧ 0 ≤ x.1.sub ∧ x.1.sub ≤ 255) := ⟨r0, r1, r2, r3⟩
      unfold EncP valV at HEN
      have i0 : wr.cell? ⟨p, 0, none⟩ = some (.int .u16 x.1.idx) := cell_at hi
      have i1 : wr.cell? ⟨p, 1, none⟩ = some (.int .u8 x.1.sub) := cell_at hi
      have i2 : wr.cell? ⟨p, 2, none⟩ = some (.int .i64 x.1.acc) := cell_at hi
      have i14 : wr.cell? ⟨p, 14, none⟩ = some (.int .i64 x.2.ty) := cell_at hi
      have i15 : wr.cell? ⟨p, 15, none⟩ = some (.int .u64 x.2.n) := cell_at hi
      have i16 : wr.cell? ⟨p, 16, none⟩ = some (.string (strB2 x.2.b)) := cell_at hi
      have HI := Lib.hid hi
      have HF := Lib.hid hF
      have HO := Lib.hid hO
      clear hi hF hO hxo
      by_cases ha : x.1.acc = 2
      case neg =>
        have hb : (x.1.acc != 2) = true := by simpa using ha
        have HN := Lib.hid (HNO.out ha)
        clear ha HNO HYES
        go_wp2_with fail
        go_roundw
        case rel => exact ⟨k + 1, by omega, by go_num, by rw [HEK.out, HN.out, List.append_nil]; exact HO.out, HF.out⟩
        case measure => simp [intOf]; omega
      case pos =>
        have hb : (x.1.acc != 2) = false := by simpa using ha
        have HY := Lib.hid (HYES.out ha)
        clear ha HNO HYES
        generalize (encV x.2).2 = ec at *
        generalize (encV x.2).1 = eb at *
        obtain ⟨Al, cl, rfl, g3, g4, _⟩ := row_open HO.out
        go_upto_region 8 with (go_at_call 50; refine (HEN.out _).mono ?_; rintro e w2 ⟨sv, rfl, ⟨hbs, hown⟩, hF2⟩; obtain ⟨Ab, cb, rfl, hbl, hbm, hnews⟩ := hbs.open_)
        have j0 := hF2.cell i0 (fun h => h)
        have j1 := hF2.cell i1 (fun h => h)
        have HF2 := Lib.hid (HF.out.trans' hF2)
        have HR2 : Hid (w2.ownsRow w.heap.size 5 1 (.slice Al rb.length cl) rb.length (rb.map encB)) := hF2.row HO.out (fun _ _ h => h)
        have HNEW : Hid (0 < eb.length → NewsOf w2 Ab (eb.map encB)) := hnews
        have HFRE : Hid (∀ g o, Ab = some ⟨g, o, none⟩ → wr.heap.size ≤ g) := fun g o e => hown g (by rw [e]; rfl)
        have HOLD : Hid (∀ j, (Value.slice Al rb.length cl).ownBlock = some j → j < wr.heap.size ∧ w.heap.size ≤ j) := fun j hj => by
          obtain ⟨hb0, cur, hc⟩ := row_block HO.out hj
          exact ⟨lt_of_block hc, hb0⟩
        have hws := HF2.out.size
        have hrs := HF.out.size
        have hm3 : rb.length + 7 ≤ maxLen := by unfold maxLen; omega
        have hm4 : (rb.length + 7) * 1 ≤ 140737488355328 := by omega
        have hm7 : rb.length + 7 + eb.length ≤ maxLen := by unfold maxLen; omega
        have hm8 : (rb.length + 7 + eb.length) * 1 ≤ 140737488355328 := by omega
        have HLEN : Hid ((eb.map encB).length = eb.length * 1) := by unfold Hid; simp
        have HONEB := Lib.hid (oneB eb)
        clear hF2 hnews hown i0 i1 i2 i14 i15 i16 cg' hg' HEN HO hbs
        go_region_law (refine step_app (by rfl) el_u8 (.tmp 34) (.tmp 64) (by rfl) (by rfl) (by rfl) (B := w.heap.size) (e2 := 5) (fr := (0, 0)) (m := 7) (Frm.row (S := fun _ => False) (by (repeat' (first | (with_reducible exact Frm.refl _ _) | (with_reducible assumption) | (with_reducible refine Frm.alloc ?_ _) | (with_reducible refine Frm.drew ?_) | (with_reducible refine Frm.drewN ?_ _) | (with_reducible refine Frm.set1 ?_ _) | (with_reducible refine Frm.setCell ?_ ?_ _) | (exact fun h => absurd h (Nat.lt_irrefl _)) | (intro hlt; simp [World.size_alloc, One] at hlt ⊢; omega)))) HR2.out (fun _ _ h => h)) (heap_new_at (by simp)) (by rfl) (by simp [Value.oneCell']) (by decide) hm3 hm4 (by simp; omega) ?_; intro g5 cap5 w5 hown5 hfr5 hat5 hlt5)
        all_goals
          have hF25 : Frm (fun j => (Value.slice Al rb.length cl).ownBlock = some j) w2 w5 := Frm.trans (b := _) (by (repeat' (first | (with_reducible exact Frm.refl _ _) | (with_reducible assumption) | (with_reducible refine Frm.alloc ?_ _) | (with_reducible refine Frm.drew ?_) | (with_reducible refine Frm.drewN ?_ _) | (with_reducible refine Frm.set1 ?_ _) | (with_reducible refine Frm.setCell ?_ ?_ _) | (exact fun h => absurd h (Nat.lt_irrefl _)) | (intro hlt; simp [World.size_alloc, One] at hlt ⊢; omega)))) hfr5 (fun _ _ h => h)
          have hnews5 : 0 < eb.length → NewsOf w5 Ab (eb.map encB) := fun h0 => (HNEW.out h0).frm hF25 (fun g o e h2 => by have := HFRE.out g o e; have := (HOLD.out g h2).1; omega)
          have hF5 : Frm (fun _ => False) w w5 := HF2.out.trans hF25 (fun i hi hs => by have := (HOLD.out i hs).2; omega)
          have H5 := Lib.hid hown5
          have HF5 := Lib.hid hF5
          have HN5 := Lib.hid hnews5
          have hs5 := hF5.size
          obtain ⟨hg5, cur5, hc5⟩ := row_block hown5 rfl
          have HG5 := Lib.hid hg5
          clear hown5 hfr5 hat5 hF25 hnews5 hF5 hg5 hc5 j0 j1
          go_wp2_with (at_builtin; refine wpl_app_src rfl el_u8 (.tmp 66) (.tmp 67) rfl (B := w.heap.size) (news := eb.map encB) rfl rfl H5.out HLEN.out HN5.out HONEB.out hm7 hm8 (by omega) ?_; intro A7 cap7 w7 hown7 hfr7)
          go_roundw
          case rel =>
            refine ⟨k + 1, by omega, by go_num, ?_, HF5.out.trans hfr7 (fun i hi hs => ?_)⟩
            · rw [HEK.out, HY.out, List.length_append, List.length_append, List.map_append, List.map_append, head7 _ _ _ HRG.out.2.2]
              have e7 : (leOf x.1.idx 2 ++ leOf x.1.sub 1 ++ leOf eb.length 4).length = 7 := by simp [leOf_length]
              rw [e7, show rb.length + (7 + eb.length) = rb.length + 7 + eb.length by omega]
              simpa only [List.append_assoc] using hown7
            · have := HG5.out
              cases hs
              omega
          case measure => simp [intOf]; omega
    · have hkn : k = l.length := by omega
      subst hkn
      rw [List.take_length] at hO
      go_wp2_with fail
      go_ret
      exact ⟨_, rfl, hO, hF⟩
end Go.Proofs.YtemjdmgfilbfaaaGreat
namespace Go.Proofs.YtemjdmgfilbfaaaGreat
open Go.RowKit
set_option linter.unusedVariables false

set_option maxHeartbeats 1000000 in
theorem low32_any (n : Int) (w : World) (h0 : 0 ≤ n) (h1 : n ≤ 140737488351232) :
    Calls Tryz.prog 71 #[.int .i64 n] w fun e w' => e = .returned (.slice (some ⟨w.heap.size, 0, none⟩) 4 4) ∧ w' = w.alloc (.cells ((leOf n 4).map encB).toArray 5) := by
  go_enter Tryz.func71, Tryz.ntmps71
  go_wp2
  go_ret
  refine ⟨rfl, ?_⟩
  have e2 : n / 256 / 256 = n / 65536 := by omega
  have e3 : n / 65536 / 256 = n / 16777216 := by omega
  simp only [leOf, List.map_cons, List.map_nil, encB_mod, e2, e3]
end Go.Proofs.YtemjdmgfilbfaaaGreat
namespace Go.Proofs.YtemjdmgfilbfaaaGreat
open Go.RowKit
set_option linter.unusedVariables false

set_option maxHeartbeats 1000000 in
theorem enc1_any (i s : Int) (A : Option Addr) (n c : Nat) (w : World) (hn : n ≤ maxLen) :
    Calls Tryz.prog 70 #[.agg #[.int .u16 i, .int .u8 s, .slice A n c]] w fun e w' => e = .returned (.bool (decide (65536 < (n : Int)))) ∧ Frm (fun _ => False) w w' := by
  unfold maxLen at hn
  go_enter Tryz.func70, Tryz.ntmps70
  go_wp2_with fail
  go_ret
  exact ⟨rfl, by (repeat' (first | (with_reducible exact Frm.refl _ _) | (with_reducible assumption) | (with_reducible refine Frm.alloc ?_ _) | (with_reducible refine Frm.drew ?_) | (with_reducible refine Frm.drewN ?_ _) | (with_reducible refine Frm.set1 ?_ _) | (with_reducible refine Frm.setCell ?_ ?_ _) | (exact fun h => absurd h (Nat.lt_irrefl _)) | (intro hlt; simp [World.size_alloc, One] at hlt ⊢; omega)))⟩

def IdxNo (w : World) (e : Ending) (w' : World) : Prop := e = .returned (.int .i64 (-1)) ∧ Frm (fun _ => False) w w'
def IdxYes (w : World) (e : Ending) (w' : World) : Prop := (∃ k : Nat, k ≤ 9223372036854775807 ∧ e = .returned (.int .i64 k)) ∧ Frm (fun _ => False) w w'

set_option maxRecDepth 100000 in
set_option maxHeartbeats 1000000 in
theorem idxI_no (v : Value) (xs : List Itm) (w : World) (h : ItemsAt w v xs) (hb : ∀ x ∈ xs, x.2.2.2.length ≤ 65536) :
    Calls Tryz.prog 97 #[v, .func (.func 70) #[] #[]] w (IdxNo w) := by
  obtain ⟨A, cap, rfl, hm, ho⟩ := h.open_
  have HO := Lib.hid ho
  have HB := Lib.hid hb
  unfold maxLen at hm
  clear h ho hb
  go_enter Tryz.func97, Tryz.ntmps97
  go_wp2
  go_loopw [5, 8] (fun _ i wr => ∃ k : Nat, k ≤ xs.length ∧ i = .int .i64 k ∧ Frm (fun _ => False) w wr) (fun _ i _ => xs.length - (intOf i).toNat)
  case atStart => exact ⟨0, Nat.zero_le _, rfl, Frm.refl _ _⟩
  case round =>
    obtain ⟨k, hk, rfl, hF⟩ := hrel
    by_cases hlt : k < xs.length
    · obtain ⟨g, off, Ab, cb, rfl, _, hml, c0, c1, c2⟩ := HO.out k hlt
      have d0 := hF.cell c0 (fun h => h)
      have d1 := hF.cell c1 (fun h => h)
      have d2 := hF.cell c2 (fun h => h)
      have hbk := HB.out _ (List.getElem_mem hlt)
      clear c0 c1 c2
      generalize xs[k] = x at *
      obtain ⟨x0, x1, xv, xb⟩ := x
      simp only at d0 d1 d2 hml hbk
      have HF := Lib.hid hF
      have hdec : decide (65536 < (xb.length : Int)) = false := by simp; omega
      have H1 := Lib.hid (fun W => enc1_any x0 x1 Ab xb.length cb W hml)
      rw [hdec] at H1
      clear hF hdec
      go_wp2_with (go_at_call 70; refine (H1.out _).mono ?_; rintro e w' ⟨rfl, hF'⟩)
      go_roundw
      case rel => exact ⟨k + 1, by omega, by go_num, HF.out.trans' hF'⟩
      case measure => simp [intOf]; omega
    · go_wp2
      go_ret
      exact ⟨rfl, hF⟩
set_option maxRecDepth 100000 in
set_option maxHeartbeats 1000000 in
theorem idxI_yes (v : Value) (xs : List Itm) (w : World) (h : ItemsAt w v xs) (hb : ∃ x ∈ xs, 65536 < x.2.2.2.length) :
    Calls Tryz.prog 97 #[v, .func (.func 70) #[] #[]] w (IdxYes w) := by
  obtain ⟨A, cap, rfl, hm, ho⟩ := h.open_
  obtain ⟨x, hx, hx2⟩ := hb
  obtain ⟨q, hq, rfl⟩ := List.getElem_of_mem hx
  have HO := Lib.hid ho
  have HX := Lib.hid hx2
  unfold maxLen at hm
  clear h ho hx hx2
  go_enter Tryz.func97, Tryz.ntmps97
  go_wp2
  go_loopw [5, 8] (fun _ i wr => ∃ k : Nat, k ≤ q ∧ i = .int .i64 k ∧ Frm (fun _ => False) w wr) (fun _ i _ => xs.length - (intOf i).toNat)
  case atStart => exact ⟨0, Nat.zero_le _, rfl, Frm.refl _ _⟩
  case round =>
    obtain ⟨k, hk, rfl, hF⟩ := hrel
    have hlt : k < xs.length := by omega
    obtain ⟨g, off, Ab, cb, rfl, _, hml, c0, c1, c2⟩ := HO.out k hlt
    have d0 := hF.cell c0 (fun h => h)
    have d1 := hF.cell c1 (fun h => h)
    have d2 := hF.cell c2 (fun h => h)
    have hkq : k < q ∨ 65536 < xs[k].2.2.2.length := by
      rcases Nat.lt_or_ge k q with h | h
      · exact .inl h
      · obtain rfl : k = q := by omega
        exact .inr HX.out
    clear c0 c1 c2
    generalize xs[k] = x at *
    obtain ⟨x0, x1, xv, xb⟩ := x
    simp only at d0 d1 d2 hml hkq
    have HF := Lib.hid hF
    have H1 := Lib.hid (fun W => enc1_any x0 x1 Ab xb.length cb W hml)
    clear hF
    by_cases hl : 65536 < xb.length
    · have hdec : decide (65536 < (xb.length : Int)) = true := by simp; omega
      rw [hdec] at H1
      clear hdec hkq
      go_wp2_with (go_at_call 70; refine (H1.out _).mono ?_; rintro e w' ⟨rfl, hF'⟩)
      go_ret
      exact ⟨⟨k, by omega, rfl⟩, HF.out.trans' hF'⟩
    · have hdec : decide (65536 < (xb.length : Int)) = false := by simp; omega
      rw [hdec] at H1
      clear hdec
      have hkq' : k < q := by omega
      clear hkq
      go_wp2_with (go_at_call 70; refine (H1.out _).mono ?_; rintro e w' ⟨rfl, hF'⟩)
      go_roundw
      case rel => exact ⟨k + 1, by omega, by go_num, HF.out.trans' hF'⟩
      case measure => simp [intOf]; omega

set_option maxHeartbeats 1000000 in
theorem contI_no (v : Value) (xs : List Itm) (w : World) (h : ItemsAt w v xs) (hb : ∀ x ∈ xs, x.2.2.2.length ≤ 65536) :
    Calls Tryz.prog 69 #[v, .func (.func 70) #[] #[]] w fun e w' => e = .returned (.bool false) ∧ Frm (fun _ => False) w w' := by
  have H := Lib.hid (idxI_no v xs w h hb)
  obtain ⟨A, cap, rfl, _⟩ := h.open_
  clear h hb
  go_enter Tryz.func69, Tryz.ntmps69
  go_wp2_with (go_at_call 97; refine H.out.mono ?_; rintro e w' ⟨rfl, hF'⟩)
  go_ret
  exact ⟨rfl, hF'⟩
set_option maxHeartbeats 1000000 in
theorem contI_yes (v : Value) (xs : List Itm) (w : World) (h : ItemsAt w v xs) (hb : ∃ x ∈ xs, 65536 < x.2.2.2.length) :
    Calls Tryz.prog 69 #[v, .func (.func 70) #[] #[]] w fun e w' => e = .returned (.bool true) ∧ Frm (fun _ => False) w w' := by
  have H := Lib.hid (idxI_yes v xs w h hb)
  obtain ⟨A, cap, rfl, _⟩ := h.open_
  clear h hb
  go_enter Tryz.func69, Tryz.ntmps69
  go_wp2_with (go_at_call 97; refine H.out.mono ?_; rintro e w' ⟨⟨k, hk, rfl⟩, hF'⟩)
  go_ret
  exact ⟨rfl, hF'⟩

end Go.Proofs.YtemjdmgfilbfaaaGreat
namespace Go.Proofs.YtemjdmgfilbfaaaGreat
open Go.RowKit
set_option linter.unusedVariables false

/-- A place that can be. -/
def Rng (x : It) : Prop := 0 ≤ x.1 ∧ x.1 ≤ 65535 ∧ 0 ≤ x.2.1 ∧ x.2.1 ≤ 255
theorem leOf_succD (n : Int) (k : Nat) : leOf n (k + 1) = UInt8.ofNat (n % 256).toNat :: leOf (n / 256) k := rfl
theorem enc8_length (x : It) : (encIt8 x).length = 7 + x.2.2.length := by simp [encIt8, leOf_length]; omega
theorem enc8s_length (l : List It) (h : ∀ x ∈ l, x.2.2.length ≤ 65536) : (l.flatMap encIt8).length ≤ l.length * 65543 := by
  induction l with
  | nil => simp
  | cons x r ih =>
    have h1 := ih (fun y hy => h y (List.mem_cons_of_mem _ hy))
    have h2 := h x (by simp)
    rw [List.flatMap_cons, List.length_append, enc8_length, List.length_cons]
    omega
theorem encB_ofD (n : Int) (h0 : 0 ≤ n) (h1 : n ≤ 255) : encB (UInt8.ofNat n.toNat) = .int .u8 n := by
  have := encB_mod n
  rwa [Int.emod_eq_of_lt h0 (by omega)] at this
theorem enc8_cells (x : It) (h : Rng x) : (encIt8 x).map encB = #[.int .u8 (x.1 % 256), .int .u8 (x.1 / 256), .int .u8 x.2.1].toList ++ (((leOf x.2.2.length 4).map encB).toArray.toList ++ x.2.2.map encB) := by
  obtain ⟨h0, h1, h2, h3⟩ := h
  have e : x.1 / 256 % 256 = x.1 / 256 := by omega
  simp [e, encIt8, leOf_succD, encB_mod, encB_ofD _ h2 h3, leOf]
  exact encB_ofD _ (by omega) (by omega)

def EncOk (bs : List UInt8) (w : World) (e : Ending) (w' : World) : Prop := Frm (fun _ => False) w w' ∧ ∃ v, e = .returned (.tuple #[v, .int .i64 0]) ∧ Own8 w.heap.size w' v bs
def EncBad (w : World) (e : Ending) (w' : World) : Prop := Frm (fun _ => False) w w' ∧ e = .returned (.tuple #[.slice none 0 0, .int .i64 2])

set_option maxHeartbeats 1000000 in
theorem encode_long (v : Value) (xs : List Itm) (w : World) (h : ItemsAt w v xs) (hb : 1024 < xs.length ∨ ∃ x ∈ xs, 65536 < x.2.2.2.length) : Calls Tryz.prog 45 #[v] w (EncBad w) := by
  by_cases h1 : 1024 < xs.length
  · obtain ⟨A, cap, rfl, _⟩ := h.open_
    clear h hb
    go_enter Tryz.func45, Tryz.ntmps45
    go_wp2_with fail
    go_ret2
    exact ⟨Frm.refl _ _, rfl⟩
  · have H := Lib.hid (contI_yes v xs w h (hb.resolve_left h1))
    have h1' : xs.length ≤ 1024 := by omega
    obtain ⟨A, cap, rfl, _⟩ := h.open_
    clear h hb h1
    go_enter Tryz.func45, Tryz.ntmps45
    go_wp2_with (go_at_call 69; refine H.out.mono ?_; rintro e w' ⟨rfl, hF'⟩)
    go_ret2
    exact ⟨hF', rfl⟩

def EncRow (xs : List Itm) (k : Nat) : List UInt8 := leOf xs.length 4 ++ ((xs.take k).map bare).flatMap encIt8

set_option maxRecDepth 100000 in
set_option maxHeartbeats 2000000 in
theorem encode_any (v : Value) (xs : List Itm) (w : World) (h : ItemsAt w v xs) (hn : xs.length ≤ 1024) (hb : ∀ x ∈ xs, x.2.2.2.length ≤ 65536) (hr : ∀ x ∈ xs, Rng (bare x)) :
    Calls Tryz.prog 45 #[v] w (EncOk (encOf (xs.map bare)) w) := by
  have H := Lib.hid (contI_no v xs w h hb)
  have HI := Lib.hid h
  obtain ⟨A, cap, rfl, _, ho⟩ := h.open_
  have HO := Lib.hid ho
  have HB := Lib.hid hb
  have HR := Lib.hid hr
  have HL := Lib.hid (fun W => low32_any (xs.length : Int) W (by omega) (by omega))
  clear h ho hb hr
  go_enter Tryz.func45, Tryz.ntmps45
  go_wp2_with (first | (go_at_call 69; refine H.out.mono ?_; rintro e w1 ⟨rfl, hF1⟩) | (go_at_call 71; refine (HL.out _).mono ?_; rintro e w2 ⟨rfl, hw2⟩; subst w2))
  go_loopw [4, 19] (fun bv i wr => ∃ k : Nat, k ≤ xs.length ∧ i = .int .i64 k ∧ Own8 w.heap.size wr bv (EncRow xs k) ∧ Frm (fun _ => False) w wr) (fun _ i _ => xs.length - (intOf i).toNat)
  case atStart =>
    refine ⟨0, Nat.zero_le _, rfl, ?_, hF1.trans' (by (repeat' (first | (with_reducible exact Frm.refl _ _) | (with_reducible assumption) | (with_reducible refine Frm.alloc ?_ _) | (with_reducible refine Frm.drew ?_) | (with_reducible refine Frm.drewN ?_ _) | (with_reducible refine Frm.set1 ?_ _) | (with_reducible refine Frm.setCell ?_ ?_ _) | (exact fun h => absurd h (Nat.lt_irrefl _)) | (intro hlt; simp [World.size_alloc, One] at hlt ⊢; omega))))⟩
    have hl : EncRow xs 0 = leOf xs.length 4 := by simp [EncRow]
    rw [hl]
    unfold Own8
    rw [leOf_length]
    exact row_new rfl (by simp [leOf_length]) rfl (by decide) hF1.size
  case round =>
    clear hF1
    obtain ⟨k, hk, rfl, hO, hF⟩ := hrel
    by_cases hlt : k < xs.length
    · obtain ⟨g, off, Ab, cb, rfl, hxv, hml, c0, c1, c2⟩ := HO.out k hlt
      have d0 := hF.cell c0 (fun h => h)
      have d1 := hF.cell c1 (fun h => h)
      have d2 := hF.cell c2 (fun h => h)
      have hbk := HB.out _ (List.getElem_mem hlt)
      have hrk := HR.out _ (List.getElem_mem hlt)
      have hBA := HI.out.2 _ (List.getElem_mem hlt)
      rw [hxv] at hBA
      have hek : EncRow xs (k + 1) = EncRow xs k ++ encIt8 (bare xs[k]) := by
        unfold EncRow
        rw [List.take_succ_eq_append_getElem hlt, List.map_append, List.flatMap_append]
        simp
      have hel : (EncRow xs k).length ≤ 67117060 := by
        unfold EncRow
        rw [List.length_append, leOf_length]
        have := enc8s_length ((xs.take k).map bare) (fun y hy => by
          obtain ⟨z, hz, rfl⟩ := List.mem_map.1 hy
          exact HB.out z (List.mem_of_mem_take hz))
        rw [List.length_map, List.length_take] at this
        omega
      have HEK := Lib.hid hek
      clear c0 c1 c2 hxv hek
      generalize xs[k] = x at *
      obtain ⟨x0, x1, xv, xb⟩ := x
      simp only at d0 d1 d2 hml hbk hBA
      obtain ⟨A9, c9, e9, _, _, hnews⟩ := hBA.open_
      simp only [Value.slice.injEq] at e9
      obtain ⟨rfl, _, rfl⟩ := e9
      have HNEWS := Lib.hid hnews
      have hrk' := hrk
      obtain ⟨r0, r1, r2, r3⟩ := hrk'
      simp only [bare] at r0 r1 r2 r3
      have HRK := Lib.hid hrk
      obtain ⟨Al, cl, rfl, g3, g4, _⟩ := row_open hO
      have HROW := Lib.hid hO
      have HF := Lib.hid hF
      have hsz := hF.size
      have HL4 := Lib.hid (fun W => low32_any (xb.length : Int) W (by omega) (by omega))
      obtain ⟨m, hm⟩ : ∃ m, (EncRow xs k).length = m := ⟨_, rfl⟩
      unfold Own8 at HROW
      rw [hm] at HROW hel g3
      simp only [hm]
      have HM := Lib.hid hm
      have hm3 : m + 3 ≤ maxLen := by unfold maxLen; omega
      have hm4 : (m + 3) * 1 ≤ 140737488355328 := by omega
      have hm5 : m + 3 + 4 ≤ maxLen := by unfold maxLen; omega
      have hm6 : (m + 3 + 4) * 1 ≤ 140737488355328 := by omega
      have hm7 : m + 3 + 4 + xb.length ≤ maxLen := by unfold maxLen; omega
      have hm8 : (m + 3 + 4 + xb.length) * 1 ≤ 140737488355328 := by omega
      have HLEN : Hid ((xb.map encB).length = xb.length * 1) := by unfold Hid; simp
      have HONEB := Lib.hid (oneB xb)
      clear hF hO hBA hnews hm hrk hml
      go_upto_region 8 with (at_builtin; refine wpl_app rfl el_u8 (.tmp 23) (.tmp 33) rfl (B := w.heap.size) (e2 := 5) (fr := (0, 0)) (arr := #[.int .u8 (x0 % 256), .int .u8 (x0 / 256), .int .u8 x1]) rfl rfl (Frm.row (S := fun _ => False) (by (repeat' (first | (with_reducible exact Frm.refl _ _) | (with_reducible assumption) | (with_reducible refine Frm.alloc ?_ _) | (with_reducible refine Frm.drew ?_) | (with_reducible refine Frm.drewN ?_ _) | (with_reducible refine Frm.set1 ?_ _) | (with_reducible refine Frm.setCell ?_ ?_ _) | (exact fun h => absurd h (Nat.lt_irrefl _)) | (intro hlt; simp [World.size_alloc, One] at hlt ⊢; omega)))) HROW.out (fun _ _ h => h)) (heap_new_at (by simp)) rfl (by simp [Value.oneCell']) (by decide) hm3 hm4 (by simp; omega) ?_; intro g5 cap5 w5 hown5 hfr5 hat5 hlt5)
      have ht6 : w5.heap[wr.heap.size]? = some (.cells #[.int .u16 x0, .int .u8 x1, .slice Ab xb.length cb] 63 (0, 0)) := hfr5.heap (heap_alloc_old (heap_new _ _)) (fun hs => by
        obtain ⟨_, cur, hc⟩ := row_block HROW.out hs
        exact absurd (lt_of_block hc) (Nat.lt_irrefl _))
      have hF5 : Frm (fun j => (Value.slice Al m cl).ownBlock = some j) wr w5 := Frm.trans (b := _) (by (repeat' (first | (with_reducible exact Frm.refl _ _) | (with_reducible assumption) | (with_reducible refine Frm.alloc ?_ _) | (with_reducible refine Frm.drew ?_) | (with_reducible refine Frm.drewN ?_ _) | (with_reducible refine Frm.set1 ?_ _) | (with_reducible refine Frm.setCell ?_ ?_ _) | (exact fun h => absurd h (Nat.lt_irrefl _)) | (intro hlt; simp [World.size_alloc, One] at hlt ⊢; omega)))) hfr5 (fun _ _ h => h)
      have hF05 : Frm (fun _ => False) w w5 := HF.out.trans hF5 (fun i hi hs => absurd (row_block HROW.out hs).1 (by omega))
      have e2 : w5.cell? ⟨wr.heap.size, 2, none⟩ = some (.slice Ab xb.length cb) := cell_at ht6
      obtain ⟨hg5, cur5, hc5⟩ := row_block hown5 rfl
      have hne5 : g5 ≠ wr.heap.size := block_ne hc5 ht6 (by decide)
      have hsz5 := hF05.size
      have hlt6 := lt_of_block ht6
      have HT6 := Lib.hid ht6
      have HO5 := Lib.hid hown5
      have HF05 := Lib.hid hF05
      have HNE5 := Lib.hid hne5
      have HG5 := Lib.hid hg5
      clear ht6 hF5 hF05 hfr5 hown5 hc5 hne5 hat5 hg5
      go_region_law (first | (refine step_call 71 (by rfl) (by rfl) Tryz.func71 (by rfl) (by rfl) (by rfl) ((HL4.out _).mono ?_); rintro e w6 ⟨rfl, hw6⟩; subst w6; refine CallK.ret ?_) | (refine step_app (by rfl) el_u8 (.tmp 35) (.tmp 39) (by rfl) (by rfl) (by rfl) (B := w.heap.size) (arr := ((leOf (xb.length : Int) 4).map encB).toArray) (e2 := 5) (fr := (0, 0)) (Frm.row (S := fun _ => False) (w := w5) (by (repeat' (first | (with_reducible exact Frm.refl _ _) | (with_reducible assumption) | (with_reducible refine Frm.alloc ?_ _) | (with_reducible refine Frm.drew ?_) | (with_reducible refine Frm.drewN ?_ _) | (with_reducible refine Frm.set1 ?_ _) | (with_reducible refine Frm.setCell ?_ ?_ _) | (exact fun h => absurd h (Nat.lt_irrefl _)) | (intro hlt; simp [World.size_alloc, One] at hlt ⊢; omega)))) HO5.out (fun _ _ h => h)) (heap_new_at (by simp)) (by simp [leOf_length]) (by simpa using oneB _) (by decide) hm5 hm6 (by simp; omega) ?_; intro g6 cap6 w6 hown6 hfr6 hat6 hlt6; have HT66 := Lib.hid (hfr6.heap (heap_alloc_old HT6.out) (fun hs => HNE5.out (by cases hs; rfl))); have hlt66 := lt_of_block HT66.out; have e62 : w6.cell? ⟨wr.heap.size, 2, none⟩ = some (.slice Ab xb.length cb) := cell_at HT66.out; have HF06 : Hid (Frm (fun _ => False) w w6) := HF05.out.trans (Frm.trans (b := _) (by (repeat' (first | (with_reducible exact Frm.refl _ _) | (with_reducible assumption) | (with_reducible refine Frm.alloc ?_ _) | (with_reducible refine Frm.drew ?_) | (with_reducible refine Frm.drewN ?_ _) | (with_reducible refine Frm.set1 ?_ _) | (with_reducible refine Frm.setCell ?_ ?_ _) | (exact fun h => absurd h (Nat.lt_irrefl _)) | (intro hlt; simp [World.size_alloc, One] at hlt ⊢; omega)))) hfr6 (fun _ _ h => h)) (fun i hi hs => absurd HG5.out (by cases hs; omega)); have HO6 := Lib.hid hown6; have hsz6 := HF06.out.size; clear hown6 hfr6 hat6) | (refine step_app_src (by rfl) el_u8 (.tmp 40) (.tmp 42) (by rfl) (by rfl) (by rfl) (B := w.heap.size) (news := xb.map encB) HO6.out HLEN.out (fun h0 => (HNEWS.out h0).grow HF06.out) HONEB.out hm7 hm8 (by omega) ?_; intro A7 cap7 w7 hown7 hfr7))
      all_goals
        go_wp2_with fail
        go_roundw
        case rel =>
          refine ⟨k + 1, by omega, by go_num, ?_, HF06.out.trans hfr7 (fun i hi hs => ?_)⟩
          · unfold Own8
            rw [HEK.out, List.length_append, HM.out, enc8_length, List.map_append, enc8_cells _ HRK.out]
            simp only [bare]
            rw [show m + (7 + xb.length) = m + 3 + 4 + xb.length by omega]
            simpa only [List.append_assoc] using hown7
          · have := (row_block HO6.out hs).1
            omega
        case measure => simp [intOf]; omega
    · go_wp2_with fail
      go_ret2
      refine ⟨hF, _, rfl, ?_⟩
      obtain rfl : k = xs.length := by omega
      have : EncRow xs xs.length = encOf (xs.map bare) := by simp [EncRow, encOf]
      rw [← this]
      exact hO
end Go.Proofs.YtemjdmgfilbfaaaGreat
namespace Go.Proofs.YtemjdmgfilbfaaaGreat
open Go.RowKit
set_option linter.unusedVariables false
set_option linter.unusedSimpArgs false

/-- The dictionary, how many are written, and the code of the one that is refused. -/
def appD (d : List Im) : List It → List Im × Nat × Int
  | [] => (d, 0, 0)
  | x :: r => if mayD d x.1 x.2.1 x.2.2 ≠ 0 then (d, 0, mayD d x.1 x.2.1 x.2.2) else ((appD (writeD d x.1 x.2.1 x.2.2) r).1, (appD (writeD d x.1 x.2.1 x.2.2) r).2.1 + 1, (appD (writeD d x.1 x.2.1 x.2.2) r).2.2)
theorem appD_no {d : List Im} {x : It} {r : List It} (h : mayD d x.1 x.2.1 x.2.2 ≠ 0) : appD d (x :: r) = (d, 0, mayD d x.1 x.2.1 x.2.2) := by
  unfold appD
  rw [if_pos h]
theorem appD_yes {d : List Im} {x : It} {r : List It} (h : mayD d x.1 x.2.1 x.2.2 = 0) : appD d (x :: r) = ((appD (writeD d x.1 x.2.1 x.2.2) r).1, (appD (writeD d x.1 x.2.1 x.2.2) r).2.1 + 1, (appD (writeD d x.1 x.2.1 x.2.2) r).2.2) := by
  conv => lhs; unfold appD
  rw [if_neg (by simp [h])]
theorem appD_join (d : List Im) (a b : List It) : appD d (a ++ b) = if (appD d a).2.2 ≠ 0 then appD d a else ((appD (appD d a).1 b).1, (appD d a).2.1 + (appD (appD d a).1 b).2.1, (appD (appD d a).1 b).2.2) := by
  induction a generalizing d with
  | nil => simp [appD]
  | cons x r ih =>
    by_cases h : mayD d x.1 x.2.1 x.2.2 = 0
    · rw [List.cons_append, appD_yes h, appD_yes h, ih]
      simp only
      split
      · rfl
      · simp only [Prod.mk.injEq, true_and, and_true]
        omega
    · rw [List.cons_append, appD_no h, appD_no h]
      simp [h]
theorem appD_all (d : List Im) (a : List It) (h : (appD d a).2.2 = 0) : (appD d a).2.1 = a.length := by
  induction a generalizing d with
  | nil => rfl
  | cons x r ih =>
    by_cases h1 : mayD d x.1 x.2.1 x.2.2 = 0
    · rw [appD_yes h1] at h ⊢
      simp only at h ⊢
      rw [ih _ h]
      rfl
    · rw [appD_no h1] at h
      exact absurd h h1
theorem appD_le (d : List Im) (a : List It) : (appD d a).2.1 ≤ a.length := by
  induction a generalizing d with
  | nil => exact Nat.le_refl _
  | cons x r ih =>
    by_cases h1 : mayD d x.1 x.2.1 x.2.2 = 0
    · rw [appD_yes h1]
      have := ih (writeD d x.1 x.2.1 x.2.2)
      simp only [List.length_cons]
      omega
    · rw [appD_no h1]
      exact Nat.zero_le _
def ApplyP (b : Nat) (l : List (Nat × Im)) (xs : List It) (w : World) (e : Ending) (w' : World) : Prop :=
  e = .returned (.tuple #[.int .i64 (((appD (im l) xs).2.1 : Nat) : Int), .int .u32 (appD (im l) xs).2.2]) ∧ ∃ l', DAt w' b l' ∧ im l' = (appD (im l) xs).1 ∧ l'.map (·.1) = l.map (·.1) ∧ Frm (fun j => ∃ q ∈ l, j = q.1) w w'
/-- One more is written. -/
theorem appD_step (d : List Im) (xs : List It) (k : Nat) (hk : k < xs.length) (h : (appD d (xs.take k)).2.2 = 0) : mayD (appD d (xs.take k)).1 xs[k].1 xs[k].2.1 xs[k].2.2 ≠ 0 → appD d xs = ((appD d (xs.take k)).1, k, mayD (appD d (xs.take k)).1 xs[k].1 xs[k].2.1 xs[k].2.2) := by
  intro hm
  have e : xs = xs.take k ++ xs[k] :: xs.drop (k + 1) := by rw [← List.drop_eq_getElem_cons hk, List.take_append_drop]
  conv => lhs; rw [e]
  rw [appD_join, if_neg (by simp [h]), appD_no hm]
  have hl := appD_all d (xs.take k) h
  rw [hl, List.length_take, Nat.min_eq_left (Nat.le_of_lt hk)]
  rfl
theorem appD_stop {d : List Im} {x : It} {b : List UInt8} (h : mayD d x.1 x.2.1 b ≠ 0) : writeD d x.1 x.2.1 b = d := by
  unfold mayD at h
  unfold writeD
  cases hf : findD d x.1 x.2.1 with
  | none => rfl
  | some k =>
    rw [hf] at h
    simp only at h ⊢
    cases hk : d[k]? with
    | none => rfl
    | some y =>
      rw [hk] at h
      simp only at h ⊢
      rw [if_neg h]
theorem appD_more (d : List Im) (xs : List It) (k : Nat) (hk : k < xs.length) (h : (appD d (xs.take k)).2.2 = 0) (hm : mayD (appD d (xs.take k)).1 xs[k].1 xs[k].2.1 xs[k].2.2 = 0) :
    (appD d (xs.take (k + 1))).2.2 = 0 ∧ (appD d (xs.take (k + 1))).1 = writeD (appD d (xs.take k)).1 xs[k].1 xs[k].2.1 xs[k].2.2 := by
  rw [List.take_succ_eq_append_getElem hk, appD_join, if_neg (by simp [h])]
  simp [appD, hm]
theorem appD_ok {d : List Im} (h : DOk d) (l : List It) : DOk (appD d l).1 := by
  induction l generalizing d with
  | nil => exact h
  | cons x r ih =>
    by_cases h1 : mayD d x.1 x.2.1 x.2.2 = 0
    · rw [appD_yes h1]
      exact ih (h.write _ _ _)
    · rw [appD_no h1]
      exact h
theorem ItemsRow.frm {S : Nat → Prop} {B : Nat} {w w' : World} {v : Value} {xs : List Itm} (h : ItemsRow B w v xs) (hF : Frm S w w') (hS : ∀ k, B ≤ k → ¬ S k) : ItemsRow B w' v xs :=
  ⟨hF.row h.1 fun k hk => hS k (row_block h.1 hk).1, fun x hx => hF.row (h.2 x hx) fun k hk => hS k (row_block (h.2 x hx) hk).1⟩

set_option maxRecDepth 100000 in
set_option maxHeartbeats 2000000 in
theorem each_any (b : Nat) (l : List (Nat × Im)) (v : Value) (xs : List Itm) (B : Nat) (w : World) (h : DAt w b l) (hd : DOk (im l)) (hI : ItemsRow B w v xs) (hB : ∀ q ∈ l, q.1 < B) (hr : ∀ x ∈ xs, Rng (bare x)) (hb : ∀ x ∈ xs, x.2.2.2.length ≤ 140737488351232) :
    Calls Tryz.prog 47 #[ptr b, v, .func (.func 39) #[] #[]] w (ApplyP b l (xs.map bare) w) := by
  have HD := Lib.hid h
  have HI := Lib.hid hI
  have HB := Lib.hid hB
  have HR := Lib.hid hr
  have HBL := Lib.hid hb
  obtain ⟨d, hde⟩ : ∃ d, d = im l := ⟨_, rfl⟩
  have HDE := Lib.hid hde
  rw [← hde] at hd
  have HOK := Lib.hid hd
  obtain ⟨A, cap, rfl, hn1, hn2, _⟩ := row_open hI.1
  have hm : xs.length ≤ 9223372036854775807 := Nat.le_trans hn1 hn2
  unfold ApplyP
  rw [← hde]
  obtain ⟨ys, hys⟩ : ∃ ys, ys = xs.map bare := ⟨_, rfl⟩
  have HYS := Lib.hid hys
  have HYL : Hid (ys.length = xs.length) := by unfold Hid; rw [hys]; simp
  rw [← hys]
  clear h hI hB hr hb hd hde hys hn1 hn2
  unfold ptr
  go_enter Tryz.func47, Tryz.ntmps47
  go_wp2_with fail
  go_loopw [15] (fun i wr => ∃ (k : Nat) (l' : List (Nat × Im)), k ≤ xs.length ∧ i = .int .i64 k ∧ DAt wr b l' ∧ im l' = (appD d (ys.take k)).1 ∧ (appD d (ys.take k)).2.2 = 0 ∧ l'.map (·.1) = l.map (·.1) ∧ Frm (fun j => ∃ q ∈ l, j = q.1) w wr) (fun i _ => xs.length - (intOf i).toNat)
  case atStart => exact ⟨0, l, Nat.zero_le _, rfl, HD.out, HDE.out.symm, rfl, rfl, Frm.refl _ _⟩
  case round =>
    obtain ⟨k, l', hk, rfl, hDr, hil, hcode, hfst, hF⟩ := hrel
    have hIr : ItemsRow B wr (.slice A xs.length cap) xs := HI.out.frm hF (fun j hj ⟨q, hq, e⟩ => by have := HB.out q hq; omega)
    by_cases hlt : k < xs.length
    · have HKL : Hid (k + 1 ≤ xs.length) := hlt
      have hky : k < ys.length := by rw [HYL.out]; exact hlt
      have hmem := List.getElem_mem hlt
      have hyk : ys[k] = bare xs[k] := by
        have : ys[k]? = some (bare xs[k]) := by rw [HYS.out, List.getElem?_map, List.getElem?_eq_getElem hlt]; rfl
        rw [List.getElem?_eq_getElem hky] at this
        exact Option.some.inj this
      have HSTEP := Lib.hid (appD_step d ys k hky hcode)
      have HMORE := Lib.hid (appD_more d ys k hky hcode)
      rw [hyk] at HSTEP HMORE
      obtain ⟨A', cap', eA, _, _, q3⟩ := row_open hIr.1
      simp only [Value.slice.injEq] at eA
      obtain ⟨rfl, -, rfl⟩ := eA
      obtain ⟨g, rfl, _, ⟨cur, hcu⟩, _, hcc⟩ := q3 (by omega)
      have hgl := lt_of_block hcu
      have hcell : ∀ o (ho : o < 3), wr.cell? ⟨g, k * 3 + o, none⟩ = some ((encIt xs[k])[o]'(by rw [encIt_len]; exact ho)) := fun o ho => by
        rw [hcc _ (by omega), cellsOf_get encIt_len xs k o hlt ho]
        exact List.getElem?_eq_getElem (by rw [encIt_len]; exact ho)
      have hown := hIr.2 _ hmem
      have hrg := HR.out _ hmem
      have hbl := HBL.out _ hmem
      generalize xs[k] = x at *
      obtain ⟨xi, xsb, xv, xb⟩ := x
      simp only [bare] at hrg hbl hown HSTEP HMORE
      obtain ⟨Ab, cb, rfl, _, _, _⟩ := row_open hown
      have u0 := hcell 0 (by decide)
      have u1 := hcell 1 (by decide)
      have u2 := hcell 2 (by decide)
      simp only [encIt, List.getElem_cons_succ, List.getElem_cons_zero, Nat.add_zero] at u0 u1 u2
      have HWR := Lib.hid (fun W (hW : Frm (fun _ => False) wr W) => odWrite_any b l' xi xsb (.slice Ab xb.length cb) xb W (hDr.grow hW) (by rw [hil]; exact appD_ok HOK.out _) ⟨hrg.2.2.1, hrg.2.2.2⟩ ((BytesAt.of_row hown).grow hW) hbl)
      unfold WriteP ptr at HWR
      rw [hil] at HWR
      have HFST := Lib.hid hfst
      have HF := Lib.hid hF
      have HIL := Lib.hid hil
      have HDR := Lib.hid hDr
      have hx : Frm (fun _ => False) wr (wr.alloc (.cells #[.int .u16 xi, .int .u8 xsb, .slice Ab xb.length cb] 63)) := (Frm.refl _ _).alloc _
      have HX := Lib.hid hx
      have HSZ : Hid (∀ q ∈ l', q.1 < wr.heap.size) := fun q hq => hDr.lt q hq
      have HSF : Hid (∀ j, (∃ q ∈ l', j = q.1) → ∃ q ∈ l, j = q.1) := fun j ⟨q, hq, e⟩ => by
        have : q.1 ∈ l.map (·.1) := by rw [← HFST.out]; exact List.mem_map_of_mem hq
        obtain ⟨q', hq', e'⟩ := List.mem_map.1 this
        exact ⟨q', hq', by rw [e, e']⟩
      clear hfst hF hil hDr hx hIr hcell hcc hcu hown hmem hyk hcode q3 hrg
      generalize hco : mayD (appD d (ys.take k)).1 xi xsb xb = code at *
      have HCO := Lib.hid hco
      clear hco
      by_cases hcd : code = 0
      · subst hcd
        have HM := Lib.hid (HMORE.out rfl)
        clear HSTEP HMORE
        go_wp2_with (go_at_call 39; refine (HWR.out _ HX.out).mono ?_; rintro e w6 ⟨rfl, l6, hD6, hl6, hf6, hF6⟩; have HD6 := Lib.hid hD6; have HL6 := Lib.hid hl6; have HF6 := Lib.hid hf6; have HFR6 := Lib.hid hF6; clear hD6 hl6 hf6 hF6)
        go_roundw
        case rel => exact ⟨k + 1, l6, HKL.out, by go_num, HD6.out, by rw [HL6.out, HM.out.2], HM.out.1, HF6.out.trans HFST.out, HF.out.trans (T := fun j => ∃ q ∈ l', j = q.1) ((HX.out.mono (fun _ _ h => h.elim)).trans HFR6.out (fun i _ h => h)) (fun i _ h => HSF.out i h)⟩
        case measure => have := HKL.out; simp [intOf]; omega
      · have HS := Lib.hid (HSTEP.out hcd)
        have HW9 := Lib.hid (appD_stop (d := (appD d (ys.take k)).1) (x := (xi, xsb, xb)) (b := xb) (HCO.out ▸ hcd))
        simp only at HW9
        rw [HW9.out] at HWR
        have b1 : (code != 0) = true := by simpa using hcd
        clear hcd HSTEP HMORE HW9
        go_wp2_with (go_at_call 39; refine (HWR.out _ HX.out).mono ?_; rintro e w6 ⟨rfl, l6, hD6, hl6, hf6, hF6⟩; have HD6 := Lib.hid hD6; have HL6 := Lib.hid hl6; have HF6 := Lib.hid hf6; have HFR6 := Lib.hid hF6; clear hD6 hl6 hf6 hF6)
        go_ret2
        rw [HS.out]
        exact ⟨rfl, l6, HD6.out, HL6.out, HF6.out.trans HFST.out, HF.out.trans (T := fun j => ∃ q ∈ l', j = q.1) ((HX.out.mono (fun _ _ h => h.elim)).trans HFR6.out (fun i _ h => h)) (fun i _ h => HSF.out i h)⟩
    · have hkn : k = xs.length := by omega
      subst hkn
      rw [← HYL.out, List.take_length] at hcode hil
      have hall := appD_all d ys hcode
      rw [HYL.out] at hall
      have HDR := Lib.hid hDr
      have HF := Lib.hid hF
      have HIL := Lib.hid hil
      have HFS := Lib.hid hfst
      have HCD := Lib.hid hcode
      have HAL := Lib.hid hall
      clear hDr hF hil hfst hcode hall hIr
      go_wp2_with fail
      go_ret2
      exact ⟨by rw [HAL.out, HCD.out]; rfl, l', HDR.out, HIL.out, HFS.out, by first | exact HF.out | exact HF.out.mono (fun _ _ ⟨q, hq, e⟩ => ⟨q.2.1, q.2.2, by subst e; exact hq⟩)⟩

theorem apply_any (b : Nat) (l : List (Nat × Im)) (v : Value) (xs : List Itm) (B : Nat) (w : World) (h : DAt w b l) (hd : DOk (im l)) (hI : ItemsRow B w v xs) (hB : ∀ q ∈ l, q.1 < B) (hr : ∀ x ∈ xs, Rng (bare x)) (hb : ∀ x ∈ xs, x.2.2.2.length ≤ 140737488351232) :
    Calls Tryz.prog 22 #[ptr b, v] w (ApplyP b l (xs.map bare) w) := by
  have HE := Lib.hid (each_any b l v xs B w h hd hI hB hr hb)
  obtain ⟨A, cap, rfl, _, _, _⟩ := row_open hI.1
  unfold ApplyP ptr at HE
  unfold ApplyP ptr
  clear h hd hI hB hr hb
  go_enter Tryz.func22, Tryz.ntmps22
  go_wp2_with (go_at_call 47; refine HE.out.mono ?_; rintro e w6 ⟨rfl, h6⟩; have H6 := Lib.hid h6; clear h6)
  go_ret2
  exact ⟨rfl, H6.out⟩
end Go.Proofs.YtemjdmgfilbfaaaGreat
namespace Go.Proofs.YtemjdmgfilbfaaaGreat
open Go.RowKit Go.Shelf
set_option linter.unusedVariables false
set_option linter.unusedSimpArgs false
attribute [local go_sem] Oper.semAt_some

/-- What an item's cells can be. -/
def RngS (x : Itm) : Prop := (0 ≤ x.1 ∧ x.1 ≤ 65535) ∧ (0 ≤ x.2.1 ∧ x.2.1 ≤ 255) ∧ ∃ A k c, x.2.2.1 = .slice A k c
/-- An item and its place in the list, as a round is handed it. -/
abbrev Bk := { x : Int × Itm // RngS x.2 }
def encsBk (x : Bk) : Array Value := #[.int .i64 x.1.1, .agg #[.int .u16 x.1.2.1, .int .u8 x.1.2.2.1, x.1.2.2.2.1]]
/-- Items from the last to the first, each with its place. -/
def backI (xs : List Itm) : List (Int × Itm) := (xs.zipIdx.map fun p => ((p.2 : Int), p.1)).reverse
theorem backI_len (xs : List Itm) : (backI xs).length = xs.length := by simp [backI]
theorem backI_get (xs : List Itm) (k : Nat) (hk : k < xs.length) (hm : xs.length - 1 - k < xs.length) : (backI xs)[k]? = some (((xs.length - 1 - k : Nat) : Int), xs[xs.length - 1 - k]) := by
  unfold backI
  rw [List.getElem?_reverse (by simpa using hk)]
  simp only [List.length_map, List.length_zipIdx, List.getElem?_map, List.getElem?_zipIdx, List.getElem?_eq_getElem hm, Option.map_some, Nat.zero_add]
/-- What a round leaves as it was: what lay below n, and the box. -/
def KbB (n B : Nat) (W W' : World) : Prop := Below n W W' ∧ W'.heap[B]? = W.heap[B]?
theorem KbB.trans {n B : Nat} {X Y Z : World} (h : KbB n B X Y) (k : KbB n B Y Z) : KbB n B X Z := ⟨h.1.trans k.1, k.2.trans h.2⟩

set_option maxRecDepth 100000 in
set_option maxHeartbeats 1000000 in
theorem bk1_in (F : Fence) (n : Nat) (hf : F.fn 98) (hro : F.round = none) (hn : 1 ≤ n) (l Bn n₀ : Nat) (v : Value) (xs : List Itm) (J Jx : List Bk → World → Prop)
    (hY : ∀ pre x W, J pre W → pre.length < xs.length → YieldAt F (n - 1) Tryz.prog l (encsBk x) W fun e W' =>
      (e = .returned (.bool true) ∧ J (pre ++ [x]) W' ∧ KbB n₀ Bn W W') ∨ (e = .returned (.bool false) ∧ Jx (pre ++ [x]) W'))
    (W : World) (hBn : Boxed W Bn 46 v) (hL : SlAt encIt 3 W v xs) (hlo : ∀ g o c, 0 < xs.length → v = .slice (some ⟨g, o, none⟩) xs.length c → g < n₀) (hr : ∀ x ∈ xs, RngS x) (h0 : J [] W) :
    CallsIn F n Tryz.prog 98 #[.func (.yield l) #[] #[], .pointer (some ⟨Bn, 0, none⟩)] W fun e W' => (∃ v, e = .returned v) ∧
      ((∃ ys : List Bk, ys.map (·.1) = backI xs ∧ J ys W') ∨ (∃ pre : List Bk, pre.map (·.1) <+: backI xs ∧ Jx pre W')) := by
  obtain ⟨A, cap, rfl, hc1, hc2, hcell⟩ := hL
  have hm : xs.length ≤ 9223372036854775807 := Nat.le_trans hc1 hc2
  have hB0 := hBn.cell
  have HR := Lib.hid hr
  have HY := Lib.hid hY
  have HLO := Lib.hid hlo
  have HC := Lib.hid hcell
  have HBN := Lib.hid hBn
  have H0 := Lib.hid h0
  clear hc1 hc2 hcell hr hY hlo h0 hBn
  refine callsIn_of_wp Tryz.func98 rfl hf ?_ hro
  simp only [Tryz.ntmps98, List.size_toArray, List.length_cons, List.length_nil, Nat.reduceAdd, Nat.reduceSub, Array.replicate_succ, Array.replicate_zero, List.push_toArray, List.append_toArray, List.nil_append, List.cons_append]
  gi_wp2
  gi_loopw [3] (fun p wr => ∃ (k : Nat) (pre : List Bk), k ≤ xs.length ∧ p = .int .i64 ((xs.length : Int) - 1 - k) ∧ pre.map (·.1) = (backI xs).take k ∧ J pre wr ∧ KbB n₀ Bn W wr)
    (fun p _ => (intOf p + 1).toNat)
  case atStart =>
    exact ⟨0, [], Nat.zero_le _, by go_num, rfl, H0.out, Below.refl _ _, rfl⟩
  case round =>
    obtain ⟨k, pre, hk, rfl, hpre, hJ, hKb⟩ := hrel
    have hbox : Boxed wr Bn 46 (.slice A xs.length cap) := hKb.2.trans HBN.out
    have hb := hbox.cell
    have HBX := Lib.hid hbox
    have HKB := Lib.hid hKb
    have HPRE := Lib.hid hpre
    have HJ := Lib.hid hJ
    have hpl : pre.length = k := by
      have := congrArg List.length hpre
      rw [List.length_map, List.length_take, backI_len] at this
      omega
    clear hbox hKb hpre hJ
    by_cases hlt : k < xs.length
    · have hm2 : xs.length - 1 - k < xs.length := by omega
      obtain ⟨i, hi⟩ : ∃ i : Nat, i = xs.length - 1 - k := ⟨_, rfl⟩
      have hge := backI_get xs k hlt hm2
      have hei : (xs.length : Int) - 1 - (k : Int) = (i : Int) := by omega
      have hil : i < xs.length := by omega
      obtain ⟨g, off, rfl, hgl, hcc⟩ := HC.out (by omega)
      have hgn : g < n₀ := HLO.out g off _ (by omega) rfl
      have q := fun j hj => (HKB.out.1.cell (p := ⟨g, off + i * 3 + j, none⟩) hgn).trans ((hcc i hil j hj).trans (List.getElem?_eq_getElem (by simpa [encIt] using hj)))
      have hxr := HR.out xs[i] (List.getElem_mem hil)
      have hge' : (backI xs)[k]? = some ((i : Int), xs[i]) := by subst hi; exact hge
      have HGE := Lib.hid hge'
      have hglw : g < wr.heap.size := Nat.lt_of_lt_of_le hgl HKB.out.1.size
      rw [hei]
      generalize xs[i] = x at *
      have q0 := q 0 (by decide)
      have q1 := q 1 (by decide)
      have q2 := q 2 (by decide)
      simp only [encIt, List.getElem_cons_succ, List.getElem_cons_zero, Nat.add_zero] at q0 q1 q2
      obtain ⟨fn, tmps, assign, body, hy, hR⟩ := HY.out pre ⟨((i : Int), x), hxr⟩ wr HJ.out (by omega)
      obtain ⟨Ab, kb, cb, hxe⟩ := hxr.2.2
      simp only [encsBk] at hy
      rw [hxe] at hy q2
      clear q hcc hge hge' hm2
      have hi0 : (0 : Int) ≤ (i : Int) := by omega
      have hil2 : (i : Int) < (xs.length : Int) := by omega
      clear hxe
      have HFIN : Hid ((pre ++ [(⟨((i : Int), x), hxr⟩ : Bk)]).map (·.1) = (backI xs).take (k + 1)) := by
        unfold Hid
        rw [List.map_append, HPRE.out, List.take_add_one, HGE.out]
        rfl
      have hk1 : k + 1 ≤ xs.length := hlt
      have hkr : ∃ s, backI xs = (backI xs).take (k + 1) ++ s := ⟨(backI xs).drop (k + 1), (List.take_append_drop _ _).symm⟩
      have HKR := Lib.hid hkr
      have HEI := Lib.hid hei
      clear hkr hi hei
      gi_wp2
      refine hR.mono ?_
      rintro e W3 (⟨rfl, hJ3, hk3⟩ | ⟨rfl, hJx3⟩)
      · have HJ3 := Lib.hid hJ3
        have HK3 := Lib.hid (HKB.out.trans hk3)
        clear hJ3 hk3 hR hy
        gi_wp2
        go_roundw
        case rel => exact ⟨k + 1, _, hk1, by have := HEI.out; go_num, HFIN.out, HJ3.out, HK3.out⟩
        case measure => have := HEI.out; simp [intOf] <;> omega
      · have HJ3 := Lib.hid hJx3
        clear hJx3 hR hy
        gi_wp2
        refine bodyPost_ret (results_none rfl _ _ _) rfl ?_
        refine ⟨⟨_, rfl⟩, .inr ⟨_, ?_, HJ3.out⟩⟩
        rw [HFIN.out]
        obtain ⟨s, hs⟩ := HKR.out
        exact ⟨s, hs.symm⟩
    · have hke : k = xs.length := by omega
      have HFIN : Hid (pre.map (·.1) = backI xs) := by
        unfold Hid
        rw [HPRE.out, hke, ← backI_len xs, List.take_length]
      have hneg : (xs.length : Int) - 1 - (k : Int) = -1 := by omega
      rw [hneg]
      gi_wp2
      go_end0
      exact ⟨⟨_, rfl⟩, .inl ⟨pre, HFIN.out, HJ.out⟩⟩

/-- slices.Backward: the slice is boxed, the function value captures the box. -/
theorem back_in (F : Fence) (n : Nat) (hf : F.fn 74) (hro : F.round = none) (v : Value) (w : World) (hv : ∃ A k c, v = .slice A k c) :
    CallsIn F n Tryz.prog 74 #[v] w fun e w' => e = .returned (.func (.func 98) #[] #[.pointer (some ⟨w.heap.size, 0, none⟩)]) ∧ w' = w.alloc (.cells #[v] 46) := by
  obtain ⟨A, k, c, rfl⟩ := hv
  refine callsIn_of_wp Tryz.func74 rfl hf ?_ hro
  simp only [Tryz.ntmps74, List.size_toArray, List.length_cons, List.length_nil, Nat.reduceAdd, Nat.reduceSub, Array.replicate_succ, Array.replicate_zero, List.push_toArray, List.append_toArray, List.nil_append, List.cons_append]
  gi_wp2
  go_ret
  exact ⟨rfl, rfl⟩
theorem SlAt.belowN {w W : World} {v : Value} {xs : List Itm} (h : SlAt encIt 3 w v xs) (hb : Below w.heap.size w W) : SlAt encIt 3 W v xs := by
  obtain ⟨A, cap, rfl, h1, h2, hc⟩ := h
  refine ⟨A, cap, rfl, h1, h2, fun h0 => ?_⟩
  obtain ⟨g, off, rfl, hg, hcc⟩ := hc h0
  refine ⟨g, off, rfl, Nat.lt_of_lt_of_le hg hb.size, fun i hi j hj => ?_⟩
  exact (hb.cell (p := ⟨g, off + i * 3 + j, none⟩) hg).trans (hcc i hi j hj)
/-- What Backward hands back. -/
theorem back_stops (F : Fence) (n : Nat) (hf : F.fn 98) (hro : F.round = none) (hn : 1 ≤ n) (Bn n₀ : Nat) (v : Value) (xs : List Itm) (w0 w : World) (hBn : Boxed w Bn 46 v) (h0 : SlAt encIt 3 w0 v xs) (hn₀ : n₀ = w0.heap.size) (hw : Below n₀ w0 w) (hr : ∀ x ∈ xs, RngS x) :
    SeqStopsK F n Tryz.prog 98 #[.pointer (some ⟨Bn, 0, none⟩)] encsBk (KbB n₀ Bn) (fun ys => ys.map (·.1) = backI xs) (fun pre => pre.map (·.1) <+: backI xs) xs.length w := by
  intro l J Jx W hW _ _ hY hJ0
  subst hn₀
  have hbl := hBn.lt
  have hwW : Below w0.heap.size w0 W := hw.trans (hW.mono hw.size)
  refine bk1_in F n hf hro hn l Bn w0.heap.size v xs J Jx hY W ((hW.block Bn hbl).trans hBn) (h0.belowN hwW) (fun g o c h9 e => ?_) hr hJ0
  obtain ⟨A, cap, rfl, _, _, hc⟩ := h0
  obtain ⟨g', off, rfl, hg, _⟩ := hc h9
  simp only [Value.slice.injEq, Option.some.injEq, Addr.mk.injEq, and_true] at e
  rw [← e.1.1]
  exact hg
end Go.Proofs.YtemjdmgfilbfaaaGreat
