/-
  Save.
-/
import Derived.Test.YtemjdmgfilbfaaaOdO
namespace Go.Proofs.Ytemjdmgfilbfaaa
open Go.RowKit
set_option linter.unusedVariables false

theorem encV_len (v : Va) : (encV v).1.length ≤ 65536 := by
  unfold encV
  split
  · simp
  · rename_i h
    split
    · rw [leOf_length]
      rcases sizeT_vals v.ty with h | h | h | h | h <;> rw [h] <;> decide
    · rename_i h0
      show v.b.length ≤ 65536
      unfold checkV at h
      by_cases h1 : isT v.ty = false
      · rw [if_pos h1] at h; exact absurd (by decide) h
      · rw [if_neg h1, if_neg h0] at h
        by_cases h2 : 65536 < v.b.length
        · rw [if_pos h2] at h; exact absurd (by decide) h
        · omega
theorem saveI_len (x : Im) : (saveI x).length ≤ 65543 := by
  have := encV_len x.2
  unfold saveI
  split
  · simp [leOf_length]; omega
  · simp
theorem saveD_len (d : List Im) : (saveD d).length ≤ d.length * 65543 := by
  induction d with
  | nil => simp [saveD]
  | cons x r ih =>
    have := saveI_len x
    unfold saveD at *
    rw [List.flatMap_cons, List.length_append, List.length_cons]
    omega
theorem encB_of (n : Int) (h0 : 0 ≤ n) (h1 : n ≤ 255) : encB (UInt8.ofNat n.toNat) = .int .u8 n := by
  have := encB_mod n
  rwa [Int.emod_eq_of_lt h0 (by omega)] at this
theorem saveI_yes (x : Im) (h : x.1.acc = 2) : saveI x = (leOf x.1.idx 2 ++ leOf x.1.sub 1 ++ leOf (encV x.2).1.length 4) ++ (encV x.2).1 := by
  unfold saveI
  rw [if_pos h]
theorem saveI_no (x : Im) (h : x.1.acc ≠ 2) : saveI x = [] := by
  unfold saveI
  rw [if_neg h]

theorem leOf_succ (n : Int) (k : Nat) : leOf n (k + 1) = UInt8.ofNat (n % 256).toNat :: leOf (n / 256) k := rfl
theorem u8w (n : Int) : IntKind.u8.wrap n = n % 256 := by simp [IntKind.wrap, IntKind.bits, IntKind.signed]
theorem head7 (i s n : Int) (hs : 0 ≤ s ∧ s ≤ 255) : (leOf i 2 ++ leOf s 1 ++ leOf n 4).map encB =
    [.int .u8 (IntKind.u8.wrap i), .int .u8 (IntKind.u8.wrap (i / 256)), .int .u8 s, .int .u8 (IntKind.u8.wrap n), .int .u8 (IntKind.u8.wrap (n / 256)), .int .u8 (IntKind.u8.wrap (n / 65536)), .int .u8 (IntKind.u8.wrap (n / 16777216))] := by
  have e1 : n / 256 / 256 = n / 65536 := by omega
  have e2 : n / 65536 / 256 = n / 16777216 := by omega
  have e3 : s % 256 = s := Int.emod_eq_of_lt hs.1 (by omega)
  simp only [leOf_succ, leOf, u8w, List.map_append, List.map_cons, List.map_nil, encB_mod, e1, e2, e3, encB_of s hs.1 hs.2, List.cons_append, List.nil_append, List.append_nil]

def SaveP (d : List Im) (w : World) (e : Ending) (w' : World) : Prop := ∃ v, e = .returned v ∧ w'.ownsRow w.heap.size 5 1 v (saveD d).length ((saveD d).map encB) ∧ Frm (fun _ => False) w w'

set_option maxRecDepth 100000 in
set_option maxHeartbeats 2000000 in
theorem odSave_any (b : Nat) (l : List (Nat × Im)) (w : World) (h : DAt w b l) (hd : DOk (im l)) : Calls Try.prog 21 #[ptr b] w (SaveP (im l) w) := by
  obtain ⟨v, hO, hr⟩ := h.row
  have hlen : l.length ≤ 1024 := by have := hd.len; simpa using this
  have HEL := Lib.hid h.el
  have HOK := Lib.hid hd.ok
  obtain ⟨A, cap, rfl, h1, h2, h3⟩ := row_open hr
  have c0 : w.cell? ⟨b, 0, none⟩ = some (.slice A l.length cap) := cell_at hO
  have hcell : ∀ (k : Nat) (hk : k < l.length), ∃ g, A = some ⟨g, 0, none⟩ ∧ w.cell? ⟨g, k, none⟩ = some (ptr l[k].1) ∧ g < w.heap.size := fun k hk => by
    obtain ⟨g, e, _, ⟨cur, hc⟩, _, hcc⟩ := h3 (by omega)
    exact ⟨g, e, by rw [hcc k (by omega)]; simp [hk], lt_of_block hc⟩
  have HCE := Lib.hid hcell
  clear h hd hO hr h1 h2 h3 hcell
  unfold ptr at HCE
  unfold ptr SaveP
  go_enter Try.func21, Try.ntmps21
  go_wp2_with fail
  clear c0
  go_loopw [3, 5, 6, 7, 8, 14] (fun bv _ _ _ _ i wr => ∃ k : Nat, k ≤ l.length ∧ i = .int .i64 k ∧ wr.ownsRow w.heap.size 5 1 bv (saveD (im (l.take k))).length ((saveD (im (l.take k))).map encB) ∧ Frm (fun _ => False) w wr) (fun _ _ _ _ _ i _ => l.length - (intOf i).toNat)
  case atStart => exact ⟨0, Nat.zero_le _, rfl, World.ownsRow_nil _ _ _ _, Frm.refl _ _⟩
  case round =>
    obtain ⟨k, hk, rfl, hO, hF⟩ := hrel
    by_cases hlt : k < l.length
    · obtain ⟨g, rfl, cg, hg⟩ := HCE.out k hlt
      have hm := List.getElem_mem hlt
      have hek : saveD (im (l.take (k + 1))) = saveD (im (l.take k)) ++ saveI l[k].2 := by
        unfold saveD im
        rw [List.take_succ_eq_append_getElem hlt, List.map_append, List.flatMap_append]
        simp
      have hsl : (saveD (im (l.take k))).length ≤ 67116032 := by
        have := saveD_len (im (l.take k))
        have h2 : (im (l.take k)).length ≤ 1024 := by simp [im]; omega
        have := Nat.mul_le_mul_right 65543 h2
        omega
      obtain ⟨rb, hrb⟩ : ∃ rb, rb = saveD (im (l.take k)) := ⟨_, rfl⟩
      rw [← hrb] at hO hsl hek
      clear hrb
      have hi := hF.heap (HEL.out _ hm) (fun h => h)
      have hxo := HOK.out _ (List.mem_map.2 ⟨_, hm, rfl⟩)
      have HEK := Lib.hid hek
      have HEN := Lib.hid (fun W => tyEnc_any l[k].2.2 W hxo.2)
      have hel := encV_len l[k].2.2
      have hyes := saveI_yes l[k].2
      have hno := saveI_no l[k].2
      have HYES := Lib.hid hyes
      have HNO := Lib.hid hno
      have cg' := hF.cell cg (fun h => h)
      have hg' := Nat.lt_of_lt_of_le hg hF.size
      obtain ⟨r0, r1, r2, r3, _⟩ := hxo.1
      clear hek hm hyes hno cg hg
      generalize l[k].1 = p at *
      generalize l[k].2 = x at *
      have HRG : Hid (0 ≤ x.1.idx ∧ x.1.idx ≤ 65535 ∧ 0 ≤ x.1.sub ∧ x.1.sub ≤ 255) := ⟨r0, r1, r2, r3⟩
      unfold EncP valV at HEN
      have i0 : wr.cell? ⟨p, 0, none⟩ = some (.int .u16 x.1.idx) := cell_at hi
      have i1 : wr.cell? ⟨p, 1, none⟩ = some (.int .u8 x.1.sub) := cell_at hi
      have i2 : wr.cell? ⟨p, 2, none⟩ = some (.int .i64 x.1.acc) := cell_at hi
      have i14 : wr.cell? ⟨p, 14, none⟩ = some (.int .i64 x.2.ty) := cell_at hi
      have i15 : wr.cell? ⟨p, 15, none⟩ = some (.int .u64 x.2.n) := cell_at hi
      have i16 : wr.cell? ⟨p, 16, none⟩ = some (.string (strB2 x.2.b)) := cell_at hi
      have HI := Lib.hid hi
      have HF := Lib.hid hF
      have HO := Lib.hid hO
      clear hi hF hO hxo
      by_cases ha : x.1.acc = 2
      case neg =>
        have hb : (x.1.acc != 2) = true := by simpa using ha
        have HN := Lib.hid (HNO.out ha)
        clear ha HNO HYES
        go_wp2_with fail
        go_roundw
        case rel => exact ⟨k + 1, by omega, by go_num, by rw [HEK.out, HN.out, List.append_nil]; exact HO.out, HF.out⟩
        case measure => simp [intOf]; omega
      case pos =>
        have hb : (x.1.acc != 2) = false := by simpa using ha
        have HY := Lib.hid (HYES.out ha)
        clear ha HNO HYES
        generalize (encV x.2).2 = ec at *
        generalize (encV x.2).1 = eb at *
        obtain ⟨Al, cl, rfl, g3, g4, _⟩ := row_open HO.out
        go_upto_region 8 with (go_at_call 51; refine (HEN.out _).mono ?_; rintro e w2 ⟨sv, rfl, ⟨hbs, hown⟩, hF2⟩; obtain ⟨Ab, cb, rfl, hbl, hbm, hnews⟩ := hbs.open_)
        have j0 := hF2.cell i0 (fun h => h)
        have j1 := hF2.cell i1 (fun h => h)
        have HF2 := Lib.hid (HF.out.trans' hF2)
        have HR2 : Hid (w2.ownsRow w.heap.size 5 1 (.slice Al rb.length cl) rb.length (rb.map encB)) := hF2.row HO.out (fun _ _ h => h)
        have HNEW : Hid (0 < eb.length → NewsOf w2 Ab (eb.map encB)) := hnews
        have HFRE : Hid (∀ g o, Ab = some ⟨g, o, none⟩ → wr.heap.size ≤ g) := fun g o e => hown g (by rw [e]; rfl)
        have HOLD : Hid (∀ j, (Value.slice Al rb.length cl).ownBlock = some j → j < wr.heap.size ∧ w.heap.size ≤ j) := fun j hj => by
          obtain ⟨hb0, cur, hc⟩ := row_block HO.out hj
          exact ⟨lt_of_block hc, hb0⟩
        have hws := HF2.out.size
        have hrs := HF.out.size
        have hm3 : rb.length + 7 ≤ maxLen := by unfold maxLen; omega
        have hm4 : (rb.length + 7) * 1 ≤ 140737488355328 := by omega
        have hm7 : rb.length + 7 + eb.length ≤ maxLen := by unfold maxLen; omega
        have hm8 : (rb.length + 7 + eb.length) * 1 ≤ 140737488355328 := by omega
        have HLEN : Hid ((eb.map encB).length = eb.length * 1) := by unfold Hid; simp
        have HONEB := Lib.hid (oneB eb)
        clear hF2 hnews hown i0 i1 i2 i14 i15 i16 cg' hg' HEN HO hbs
        go_region_law (refine step_app (by rfl) el_u8 (.tmp 34) (.tmp 64) (by rfl) (by rfl) (by rfl) (B := w.heap.size) (e2 := 5) (fr := (0, 0)) (m := 7) (Frm.row (S := fun _ => False) (by (repeat' (first | (with_reducible exact Frm.refl _ _) | (with_reducible assumption) | (with_reducible refine Frm.alloc ?_ _) | (with_reducible refine Frm.drew ?_) | (with_reducible refine Frm.drewN ?_ _) | (with_reducible refine Frm.set1 ?_ _) | (with_reducible refine Frm.setCell ?_ ?_ _) | (exact fun h => absurd h (Nat.lt_irrefl _)) | (intro hlt; simp [World.size_alloc, One] at hlt ⊢; omega)))) HR2.out (fun _ _ h => h)) (heap_new_at (by simp)) (by rfl) (by simp [Value.oneCell']) (by decide) hm3 hm4 (by simp; omega) ?_; intro g5 cap5 w5 hown5 hfr5 hat5 hlt5)
        all_goals
          have hF25 : Frm (fun j => (Value.slice Al rb.length cl).ownBlock = some j) w2 w5 := Frm.trans (b := _) (by (repeat' (first | (with_reducible exact Frm.refl _ _) | (with_reducible assumption) | (with_reducible refine Frm.alloc ?_ _) | (with_reducible refine Frm.drew ?_) | (with_reducible refine Frm.drewN ?_ _) | (with_reducible refine Frm.set1 ?_ _) | (with_reducible refine Frm.setCell ?_ ?_ _) | (exact fun h => absurd h (Nat.lt_irrefl _)) | (intro hlt; simp [World.size_alloc, One] at hlt ⊢; omega)))) hfr5 (fun _ _ h => h)
          have hnews5 : 0 < eb.length → NewsOf w5 Ab (eb.map encB) := fun h0 => (HNEW.out h0).frm hF25 (fun g o e h2 => by have := HFRE.out g o e; have := (HOLD.out g h2).1; omega)
          have hF5 : Frm (fun _ => False) w w5 := HF2.out.trans hF25 (fun i hi hs => by have := (HOLD.out i hs).2; omega)
          have H5 := Lib.hid hown5
          have HF5 := Lib.hid hF5
          have HN5 := Lib.hid hnews5
          have hs5 := hF5.size
          obtain ⟨hg5, cur5, hc5⟩ := row_block hown5 rfl
          have HG5 := Lib.hid hg5
          clear hown5 hfr5 hat5 hF25 hnews5 hF5 hg5 hc5 j0 j1
          go_wp2_with (at_builtin; refine wpl_app_src rfl el_u8 (.tmp 66) (.tmp 67) rfl (B := w.heap.size) (news := eb.map encB) rfl rfl H5.out HLEN.out HN5.out HONEB.out hm7 hm8 (by omega) ?_; intro A7 cap7 w7 hown7 hfr7)
          go_roundw
          case rel =>
            refine ⟨k + 1, by omega, by go_num, ?_, HF5.out.trans hfr7 (fun i hi hs => ?_)⟩
            · rw [HEK.out, HY.out, List.length_append, List.length_append, List.map_append, List.map_append, head7 _ _ _ HRG.out.2.2]
              have e7 : (leOf x.1.idx 2 ++ leOf x.1.sub 1 ++ leOf eb.length 4).length = 7 := by simp [leOf_length]
              rw [e7, show rb.length + (7 + eb.length) = rb.length + 7 + eb.length by omega]
              simpa only [List.append_assoc] using hown7
            · have := HG5.out
              cases hs
              omega
          case measure => simp [intOf]; omega
    · have hkn : k = l.length := by omega
      subst hkn
      rw [List.take_length] at hO
      go_wp2_with fail
      go_ret
      exact ⟨_, rfl, hO, hF⟩
end Go.Proofs.Ytemjdmgfilbfaaa
