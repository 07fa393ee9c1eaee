/-
  New.
-/
import Derived.Test.YtjjmkpjclhielaaBootC
namespace Go.Proofs.Ytjjmkpjclhielaa
open Go.RowKit
set_option linter.unusedVariables false

theorem BAt.push {w w' : World} {b g cap p : Nat} {l : List (Nat × Nd)} {t : Int} {hh : Bool} {v : Value} (h : BAt w b l t hh) (x : Nd) (hv : w.heap[b]? = some (.cells #[v, .int .i64 t, .bool hh] 64 (0, 0)))
    (hO : w'.heap[b]? = some (.cells #[.slice (some ⟨g, 0, none⟩) (l.length + 1) cap, .int .i64 t, .bool hh] 64 (0, 0))) (hr : w'.ownsRow b 66 1 (.slice (some ⟨g, 0, none⟩) (l.length + 1) cap) (l.length + 1) ((l.map fun q => ptr q.1) ++ [ptr p]))
    (hp : NodeAt w' p x) (hnew : w.heap.size ≤ p) (hf : Frm (fun k => k = b ∨ v.ownBlock = some k) w w') : BAt w' b (l ++ [(p, x)]) t hh := by
  obtain ⟨v0, hO0, hr0⟩ := h.row
  rw [hv] at hO0
  simp at hO0
  subst hO0
  refine ⟨⟨_, hO, by simpa using hr⟩, ?_, ?_⟩
  · intro i hi
    by_cases hi' : i < l.length
    · simp only [List.getElem_append, hi', dite_true]
      obtain ⟨A1, c1, _, hy⟩ := h.el i hi'
      refine (h.el i hi').frm hf ?_
      rintro (e | e)
      · exact block_ne hy hv (by decide) e
      · obtain ⟨_, cur, hc⟩ := row_block hr0 e
        exact block_ne hy hc (by decide) rfl
    · have : i = l.length := by simp at hi; omega
      subst this
      simpa using hp
  · rw [List.map_append, List.nodup_append]
    refine ⟨h.nd, by simp, ?_⟩
    intro a ha c hc
    obtain ⟨q, hq, rfl⟩ := List.mem_map.1 ha
    have := h.lt q hq
    simp at hc
    omega

def NewPostB (ps : List Pl) (t : Int) (w : World) (e : Ending) (w' : World) : Prop :=
  Frm (fun _ => False) w w' ∧ ((newOf ps t ≠ 0 ∧ e = .returned (.tuple #[.pointer none, .int .i64 (newOf ps t)])) ∨
    (newOf ps t = 0 ∧ ∃ b l, e = .returned (.tuple #[ptr b, .int .i64 0]) ∧ BAt w' b l t false ∧ nds l = ps.map Nd.new ∧ w.heap.size ≤ b ∧ ∀ q ∈ l, w.heap.size ≤ q.1))

theorem cfg_zero {p : Pl} (h : cfgOf p = 0) : p.its.length ≤ 1024 := by
  unfold cfgOf at h
  split at h
  · cases h
  · split at h
    · cases h
    · rename_i h2
      rcases Nat.lt_or_ge 1024 p.its.length with h3 | h3
      · exact absurd (.inl h3) h2
      · exact h3
theorem cfg_pos (p : Pl) : cfgOf p = 0 ∨ cfgOf p = 1 ∨ cfgOf p = 2 := by
  unfold cfgOf
  split
  · simp
  · split <;> simp

set_option maxRecDepth 100000 in
set_option maxHeartbeats 4000000 in
theorem bnew_any (v : Value) (xs : List Pla) (t : Int) (w : World) (hv : PlansAt w v xs) (hr : ∀ x ∈ xs, ∀ it ∈ x.1.its, Rng it) :
    Calls Try.prog 8 #[v, .int .i64 t] w (NewPostB (xs.map (·.1)) t w) := by
  obtain ⟨⟨A, cap, rfl, h1, h2, hA⟩, hI⟩ := hv
  have hm : xs.length ≤ 9223372036854775807 := Nat.le_trans h1 h2
  by_cases hl : 127 < xs.length
  · have E : Hid (newOf (xs.map (·.1)) t = 2) := by unfold Hid newOf; rw [if_pos (by simpa using hl)]
    clear hA hI hr h1 h2
    go_enter Try.func8, Try.ntmps8
    go_wp2_with fail
    go_ret2
    exact ⟨Frm.refl _ _, .inl ⟨by rw [E.out]; decide, by rw [E.out]; rfl⟩⟩
  have hl' : xs.length ≤ 127 := by omega
  by_cases ht1 : t < 1
  · have E : Hid (newOf (xs.map (·.1)) t = 1) := by unfold Hid newOf; rw [if_neg (by simpa using hl), if_pos (.inl ht1)]
    clear hA hI hr h1 h2 hl
    go_enter Try.func8, Try.ntmps8
    go_wp2_with fail
    go_ret2
    exact ⟨Frm.refl _ _, .inl ⟨by rw [E.out]; decide, by rw [E.out]; rfl⟩⟩
  by_cases ht2 : 1000 < t
  · have E : Hid (newOf (xs.map (·.1)) t = 1) := by unfold Hid newOf; rw [if_neg (by simpa using hl), if_pos (.inr ht2)]
    have ht1' : 1 ≤ t := by omega
    clear hA hI hr h1 h2 hl ht1
    go_enter Try.func8, Try.ntmps8
    go_wp2_with fail
    go_ret2
    exact ⟨Frm.refl _ _, .inl ⟨by rw [E.out]; decide, by rw [E.out]; rfl⟩⟩
  have E : Hid (newOf (xs.map (·.1)) t = newErr [] (xs.map (·.1))) := by unfold Hid newOf; rw [if_neg (by simpa using hl), if_neg (by omega)]
  have ht1' : 1 ≤ t := by omega
  have ht2' : t ≤ 1000 := by omega
  have HA := Lib.hid hA
  have HI := Lib.hid hI
  have HR := Lib.hid hr
  clear hA hI hr h1 h2 hl ht1 ht2
  go_enter Try.func8, Try.ntmps8
  go_wp2_with fail
  go_loopw [27] (fun i wr => ∃ (k : Nat) (l : List (Nat × Nd)), k ≤ xs.length ∧ i = .int .i64 k ∧ BAt wr w.heap.size l t false ∧ nds l = ((xs.take k).map (·.1)).map Nd.new ∧ newErr [] (xs.map (·.1)) = newErr ((xs.take k).map (·.1.node)) ((xs.drop k).map (·.1)) ∧
      Frm (fun _ => False) w wr ∧ w.heap.size < wr.heap.size ∧ ∀ q ∈ l, w.heap.size ≤ q.1) (fun i _ => xs.length - (intOf i).toNat)
  case atStart =>
    refine ⟨0, [], Nat.zero_le _, rfl, ⟨⟨.slice none 0 0, ?_, World.ownsRow_nil _ _ _ _⟩, fun i hi => by simp at hi, by simp⟩, by simp [nds], by simp, ?_, by simp, by simp⟩
    · exact heap_new _ _
    · (repeat' (first | (with_reducible exact Frm.refl _ _) | (with_reducible assumption) | (with_reducible refine Frm.alloc ?_ _) | (with_reducible refine Frm.drew ?_) | (with_reducible refine Frm.drewN ?_ _) | (with_reducible refine Frm.set1 ?_ _) | (with_reducible refine Frm.setCell ?_ ?_ _) | (exact fun h => absurd h (Nat.lt_irrefl _)) | (intro hlt; simp [World.size_alloc, One] at hlt ⊢; omega)))
  case round =>
    obtain ⟨k, l, hk, rfl, hW, hl, hchk, hfr, hsz, hnew⟩ := hrel
    have hlk : l.length = k := by have := congrArg List.length hl; simp [nds] at this; omega
    by_cases hlt : k < xs.length
    · obtain ⟨g, off, rfl, hgl, hc⟩ := HA.out (by omega)
      have hdrop : xs.drop k = xs[k] :: xs.drop (k + 1) := List.drop_eq_getElem_cons hlt
      have htake := List.take_succ_eq_append_getElem hlt
      have hrk := HR.out _ (List.getElem_mem hlt)
      obtain ⟨ys, hys, hyb⟩ := HI.out _ (List.getElem_mem hlt)
      have q := fun j hj => hc k hlt j hj
      have HC2 := Lib.hid hc
      clear hc
      obtain ⟨⟨p, pv⟩, hpv⟩ : ∃ x, x = xs[k] := ⟨_, rfl⟩
      rw [← hpv] at hdrop htake hrk hys hyb q
      simp only at hrk hys hyb
      obtain ⟨Ai, ci, rfl, hyl, _⟩ := hys.open_
      have a0 := hfr.cell (q 0 (by decide)) (fun h => h)
      have a1 := hfr.cell (q 1 (by decide)) (fun h => h)
      have a2 := hfr.cell (q 2 (by decide)) (fun h => h)
      have a3 := hfr.cell (q 3 (by decide)) (fun h => h)
      have a4 := hfr.cell (q 4 (by decide)) (fun h => h)
      have a5 := hfr.cell (q 5 (by decide)) (fun h => h)
      have a6 := hfr.cell (q 6 (by decide)) (fun h => h)
      have a7 := hfr.cell (q 7 (by decide)) (fun h => h)
      have a8 := hfr.cell (q 8 (by decide)) (fun h => h)
      have a9 := hfr.cell (q 9 (by decide)) (fun h => h)
      have a10 := hfr.cell (q 10 (by decide)) (fun h => h)
      simp only [Nat.add_zero] at a0
      have hgl := Nat.lt_of_lt_of_le hgl hfr.size
      have HW := Lib.hid hW
      have HL := Lib.hid hl
      have HLK := Lib.hid hlk
      have HC := Lib.hid hchk
      have HD := Lib.hid hdrop
      have HT := Lib.hid htake
      have HF := Lib.hid hfr
      have HN := Lib.hid hnew
      have HYB := Lib.hid hyb
      have HYS := Lib.hid hys
      have HRK := Lib.hid hrk
      clear hW hl hchk hfr hnew hdrop htake hlk q hpv hys hyb hrk
      simp only [encP, List.getElem?_cons_succ, List.getElem?_cons_zero] at a0 a1 a2 a3 a4 a5 a6 a7 a8 a9 a10
      have hcfg : ∀ W, Frm (fun _ => False) w W → Calls Try.prog 25 #[valP p (.slice Ai ys.length ci)] W (CfgP p W) := fun W hF => cfg_any p _ ys W (HYS.out.frm hF) HYB.out HRK.out
      have HNODE : Hid ((nds l).map (·.p.node) = (xs.take k).map (·.1.node)) := by
        unfold Hid
        rw [HL.out]
        simp [Function.comp_def, Nd.new]
      have HCF := Lib.hid hcfg
      clear hcfg
      unfold valP CfgP at HCF
      obtain ⟨r, hrr⟩ : ∃ r, cfgOf p = r := ⟨_, rfl⟩
      have hrv : r = 0 ∨ r = 1 ∨ r = 2 := by rw [← hrr]; exact cfg_pos p
      rw [hrr] at HCF
      have HRR := Lib.hid hrr
      clear hrr
      by_cases hr0 : r = 0
      case neg =>
        have hb : (r != 0) = true := by simpa using hr0
        have EE : Hid (newOf (xs.map (·.1)) t = r) := by
          unfold Hid
          rw [E.out, HC.out, HD.out, List.map_cons, newErr, if_pos (by rw [HRR.out]; exact hr0), HRR.out]
        have hr0' : Hid (r ≠ 0) := hr0
        clear hr0 hrv
        go_wp2_with (go_at_call 25; refine (HCF.out _ (HF.out.trans' (by (repeat' (first | (with_reducible exact Frm.refl _ _) | (with_reducible assumption) | (with_reducible refine Frm.alloc ?_ _) | (with_reducible refine Frm.drew ?_) | (with_reducible refine Frm.drewN ?_ _) | (with_reducible refine Frm.set1 ?_ _) | (with_reducible refine Frm.setCell ?_ ?_ _) | (exact fun h => absurd h (Nat.lt_irrefl _)) | (intro hlt; simp [World.size_alloc, One] at hlt ⊢; omega)))))).mono ?_; rintro e w3 ⟨rfl, hF3⟩)
        go_ret2
        exact ⟨HF.out.trans' (Frm.trans' (b := _) (by (repeat' (first | (with_reducible exact Frm.refl _ _) | (with_reducible assumption) | (with_reducible refine Frm.alloc ?_ _) | (with_reducible refine Frm.drew ?_) | (with_reducible refine Frm.drewN ?_ _) | (with_reducible refine Frm.set1 ?_ _) | (with_reducible refine Frm.setCell ?_ ?_ _) | (exact fun h => absurd h (Nat.lt_irrefl _)) | (intro hlt; simp [World.size_alloc, One] at hlt ⊢; omega)))) hF3), .inl ⟨by rw [EE.out]; exact hr0'.out, by rw [EE.out]; rfl⟩⟩
      case pos =>
        subst hr0
        clear hrv
        have hW1 : BAt (wr.alloc (.cells (encP (p, .slice Ai ys.length ci)).toArray 38)) w.heap.size l t false := HW.out.grow (by (repeat' (first | (with_reducible exact Frm.refl _ _) | (with_reducible assumption) | (with_reducible refine Frm.alloc ?_ _) | (with_reducible refine Frm.drew ?_) | (with_reducible refine Frm.drewN ?_ _) | (with_reducible refine Frm.set1 ?_ _) | (with_reducible refine Frm.setCell ?_ ?_ _) | (exact fun h => absurd h (Nat.lt_irrefl _)) | (intro hlt; simp [World.size_alloc, One] at hlt ⊢; omega))))
        have HOF := Lib.hid (fun (w3 : World) (hF3 : Frm (fun _ => False) (wr.alloc (.cells (encP (p, .slice Ai ys.length ci)).toArray 38)) w3) => hW1.grow hF3)
        have HTP := Lib.hid (fun (w3 : World) (hF3 : Frm (fun _ => False) (wr.alloc (.cells (encP (p, .slice Ai ys.length ci)).toArray 38)) w3) => hF3.heap (heap_new wr _) (fun h => h))
        have hsz1 : Hid (wr.heap.size < (wr.alloc (.cells (encP (p, .slice Ai ys.length ci)).toArray 38)).heap.size) := by unfold Hid; simp
        clear hW1
        simp only [encP, List.toArray] at HOF HTP hsz1
        cases hpl : placeN (nds l) p.node with
        | some j =>
          obtain ⟨y, hy, hyn⟩ := placeN_some hpl
          have EE : Hid (newOf (xs.map (·.1)) t = 5) := by
            unfold Hid
            rw [E.out, HC.out, HD.out, List.map_cons, newErr, if_neg (by rw [HRR.out]; simp), if_pos]
            rw [← HNODE.out]
            exact List.mem_map.2 ⟨y, List.mem_of_getElem? hy, hyn⟩
          have HOS := Lib.hid (fun (w3 : World) (hB : BAt w3 w.heap.size l t false) => of_some hB hpl)
          clear hy hyn hpl
          unfold ptr at HOS
          go_wp2_with (first | (go_at_call 25; refine (HCF.out _ (HF.out.trans' (by (repeat' (first | (with_reducible exact Frm.refl _ _) | (with_reducible assumption) | (with_reducible refine Frm.alloc ?_ _) | (with_reducible refine Frm.drew ?_) | (with_reducible refine Frm.drewN ?_ _) | (with_reducible refine Frm.set1 ?_ _) | (with_reducible refine Frm.setCell ?_ ?_ _) | (exact fun h => absurd h (Nat.lt_irrefl _)) | (intro hlt; simp [World.size_alloc, One] at hlt ⊢; omega)))))).mono ?_; rintro e w3 ⟨rfl, hF3⟩; have HF3 := Lib.hid hF3; obtain ⟨hkj, _, hcc⟩ := HOS.out w3 (HOF.out w3 hF3); have HCC := Lib.hid hcc; have hT3 := HTP.out w3 hF3; have s0 : w3.cell? ⟨wr.heap.size, 0, none⟩ = some (.int .i64 p.node) := (cell_at hT3); clear hcc hT3 hF3) | (go_at_call 26; refine HCC.out.mono ?_; rintro e w' ⟨rfl, m, rfl⟩))
          go_ret2
          have hF3 := HF3.out
          exact ⟨HF.out.trans' ((Frm.trans' (b := _) (by (repeat' (first | (with_reducible exact Frm.refl _ _) | (with_reducible assumption) | (with_reducible refine Frm.alloc ?_ _) | (with_reducible refine Frm.drew ?_) | (with_reducible refine Frm.drewN ?_ _) | (with_reducible refine Frm.set1 ?_ _) | (with_reducible refine Frm.setCell ?_ ?_ _) | (exact fun h => absurd h (Nat.lt_irrefl _)) | (intro hlt; simp [World.size_alloc, One] at hlt ⊢; omega)))) hF3).trans' (by (repeat' (first | (with_reducible exact Frm.refl _ _) | (with_reducible assumption) | (with_reducible refine Frm.alloc ?_ _) | (with_reducible refine Frm.drew ?_) | (with_reducible refine Frm.drewN ?_ _) | (with_reducible refine Frm.set1 ?_ _) | (with_reducible refine Frm.setCell ?_ ?_ _) | (exact fun h => absurd h (Nat.lt_irrefl _)) | (intro hlt; simp [World.size_alloc, One] at hlt ⊢; omega))))), .inl ⟨by rw [EE.out]; decide, by rw [EE.out]; rfl⟩⟩
        | none =>
          have hno : p.node ∉ (xs.take k).map (·.1.node) := by
            rw [← HNODE.out]
            intro h
            obtain ⟨y, hy, hyn⟩ := List.mem_map.1 h
            exact placeN_none hpl y hy hyn
          have HNO := Lib.hid hno
          have HOS := Lib.hid (fun (w3 : World) (hB : BAt w3 w.heap.size l t false) => of_none hB hpl)
          have hyl2 : Hid (ys.length ≤ 1024) := by
            unfold Hid
            have := cfg_zero HRR.out
            rw [← HYB.out] at this
            simpa using this
          have hlen2 := HLK.out
          have hl8 : (l.length + 1) * 8 ≤ 140737488355328 := by omega
          have hl9 : l.length + 1 ≤ maxLen := by unfold maxLen; omega
          clear hno hpl hlen2
          go_upto_region 16 with (first | (go_at_call 25; refine (HCF.out _ (HF.out.trans' (by (repeat' (first | (with_reducible exact Frm.refl _ _) | (with_reducible assumption) | (with_reducible refine Frm.alloc ?_ _) | (with_reducible refine Frm.drew ?_) | (with_reducible refine Frm.drewN ?_ _) | (with_reducible refine Frm.set1 ?_ _) | (with_reducible refine Frm.setCell ?_ ?_ _) | (exact fun h => absurd h (Nat.lt_irrefl _)) | (intro hlt; simp [World.size_alloc, One] at hlt ⊢; omega)))))).mono ?_; rintro e w3 ⟨rfl, hF3⟩; have HF13 : Hid (Frm (fun _ => False) wr w3) := (Frm.trans' (b := _) (by (repeat' (first | (with_reducible exact Frm.refl _ _) | (with_reducible assumption) | (with_reducible refine Frm.alloc ?_ _) | (with_reducible refine Frm.drew ?_) | (with_reducible refine Frm.drewN ?_ _) | (with_reducible refine Frm.set1 ?_ _) | (with_reducible refine Frm.setCell ?_ ?_ _) | (exact fun h => absurd h (Nat.lt_irrefl _)) | (intro hlt; simp [World.size_alloc, One] at hlt ⊢; omega)))) hF3); have HF3 := Lib.hid hF3; have HCC := Lib.hid (HOS.out w3 (HOF.out w3 hF3)); have HB3 := Lib.hid (HOF.out w3 hF3); have HT3 := Lib.hid (HTP.out w3 hF3); have s0 : w3.cell? ⟨wr.heap.size, 0, none⟩ = some (.int .i64 p.node) := (cell_at HT3.out); have s8 : w3.cell? ⟨wr.heap.size, 8, none⟩ = some (.slice Ai ys.length ci) := (cell_at HT3.out); have hsz3 : wr.heap.size < w3.heap.size := (lt_of_block HT3.out); clear hF3) | (go_at_call 26; refine HCC.out.mono ?_; rintro e w' ⟨rfl, m, rfl⟩) | (go_at_call 27; refine (cloneI_any _ ys _ (HYS.out.frm (HF.out.trans' (HF13.out.trans' (by (repeat' (first | (with_reducible exact Frm.refl _ _) | (with_reducible assumption) | (with_reducible refine Frm.alloc ?_ _) | (with_reducible refine Frm.drew ?_) | (with_reducible refine Frm.drewN ?_ _) | (with_reducible refine Frm.set1 ?_ _) | (with_reducible refine Frm.setCell ?_ ?_ _) | (exact fun h => absurd h (Nat.lt_irrefl _)) | (intro hlt; simp [World.size_alloc, One] at hlt ⊢; omega))))))) (Nat.le_trans hyl2.out (by decide))).mono ?_; rintro e w6 ⟨⟨A6, c6, rfl⟩, hF6⟩; have hF36 : Frm (fun _ => False) w3 w6 := (Frm.trans' (b := _) (by (repeat' (first | (with_reducible exact Frm.refl _ _) | (with_reducible assumption) | (with_reducible refine Frm.alloc ?_ _) | (with_reducible refine Frm.drew ?_) | (with_reducible refine Frm.drewN ?_ _) | (with_reducible refine Frm.set1 ?_ _) | (with_reducible refine Frm.setCell ?_ ?_ _) | (exact fun h => absurd h (Nat.lt_irrefl _)) | (intro hlt; simp [World.size_alloc, One] at hlt ⊢; omega)))) hF6); have HT6 := Lib.hid (hF36.heap HT3.out (fun h => h)); have hfz := frees HT6.out; have u8 : w6.cell? ⟨wr.heap.size, 8, none⟩ = some (.slice Ai ys.length ci) := (cell_at HT6.out); have HB6 := Lib.hid (HB3.out.grow hF36); have HF36 := Lib.hid hF36; have hsz6 : wr.heap.size < w6.heap.size := (lt_of_block HT6.out); clear hF6 hF36))
          have hF6x : Frm (fun _ => False) wr (w6.setCell ⟨wr.heap.size, 8, none⟩ (.slice A6 ys.length c6)) := (HF13.out.trans' HF36.out).setCell (p := ⟨wr.heap.size, 8, none⟩) (fun h => absurd h (Nat.lt_irrefl _)) _
          have hTx : (w6.setCell ⟨wr.heap.size, 8, none⟩ (.slice A6 ys.length c6)).heap[wr.heap.size]? = some (.cells #[.int .i64 p.node, .int .u32 p.dev, .int .u32 p.i0, .int .u32 p.i1, .int .u32 p.i2, .int .u32 p.i3, .int .u32 p.day, .int .u32 p.time, .slice A6 ys.length c6, .bool p.mand, .bool p.keep] 38 (0, 0)) := heap_set_at HT6.out rfl
          have hBx : BAt (w6.setCell ⟨wr.heap.size, 8, none⟩ (.slice A6 ys.length c6)) w.heap.size l t false := HB6.out.frm (S := One wr.heap.size) ((Frm.refl _ _).set1 _) (fun (e : w.heap.size = wr.heap.size) => by omega) (fun q hq (e : q.1 = wr.heap.size) => by have := HW.out.lt q hq; omega) (fun k cur (e : k = wr.heap.size) hc => by
            rw [e] at hc
            exact block_ne hc HT6.out (by decide) rfl)
          have hsx : wr.heap.size < (w6.setCell ⟨wr.heap.size, 8, none⟩ (.slice A6 ys.length c6)).heap.size := lt_of_block hTx
          obtain ⟨wx, hwx⟩ : ∃ wx, wx = w6.setCell ⟨wr.heap.size, 8, none⟩ (.slice A6 ys.length c6) := ⟨_, rfl⟩
          rw [← hwx] at hF6x hTx hBx hsx ⊢
          clear hwx u8 hfz s0 s8 hsz6 hsz3 HCC HB6 HB3 HT3 HT6 HF36 HF3
          have z0 : wx.cell? ⟨wr.heap.size, 0, none⟩ = some (.int .i64 p.node) := cell_at hTx
          have z1 : wx.cell? ⟨wr.heap.size, 1, none⟩ = some (.int .u32 p.dev) := cell_at hTx
          have z2 : wx.cell? ⟨wr.heap.size, 2, none⟩ = some (.int .u32 p.i0) := cell_at hTx
          have z3 : wx.cell? ⟨wr.heap.size, 3, none⟩ = some (.int .u32 p.i1) := cell_at hTx
          have z4 : wx.cell? ⟨wr.heap.size, 4, none⟩ = some (.int .u32 p.i2) := cell_at hTx
          have z5 : wx.cell? ⟨wr.heap.size, 5, none⟩ = some (.int .u32 p.i3) := cell_at hTx
          have z6 : wx.cell? ⟨wr.heap.size, 6, none⟩ = some (.int .u32 p.day) := cell_at hTx
          have z7 : wx.cell? ⟨wr.heap.size, 7, none⟩ = some (.int .u32 p.time) := cell_at hTx
          have z8 : wx.cell? ⟨wr.heap.size, 8, none⟩ = some (.slice A6 ys.length c6) := cell_at hTx
          have z9 : wx.cell? ⟨wr.heap.size, 9, none⟩ = some (.bool p.mand) := cell_at hTx
          have z10 : wx.cell? ⟨wr.heap.size, 10, none⟩ = some (.bool p.keep) := cell_at hTx
          obtain ⟨v2, hO, hr⟩ := hBx.row
          obtain ⟨A2, cap2, rfl, q1, q2, _⟩ := row_open hr
          have ct : wx.cell? ⟨w.heap.size, 0, none⟩ = some (.slice A2 l.length cap2) := cell_at hO
          have HR6 := Lib.hid hr
          have HO := Lib.hid hO
          have HBX := Lib.hid hBx
          have HFX := Lib.hid hF6x
          have HNE : Hid (∀ k, (Value.slice A2 l.length cap2).ownBlock = some k → k ≠ w.heap.size ∧ k < wx.heap.size ∧ w.heap.size ≤ k) := fun k hk => by
            obtain ⟨hk0, cur, hc⟩ := row_block HR6.out hk
            exact ⟨block_ne hc HO.out (by decide), lt_of_block hc, hk0⟩
          have hb2 : w.heap.size < wx.heap.size := by omega
          have hb3 : w.heap.size < wx.heap.size + 1 := by omega
          have hb4 : w.heap.size < wx.heap.size + 1 + 1 := by omega
          have hx4 : wr.heap.size < wx.heap.size + 1 := by omega
          clear hr hO hBx hF6x hTx q1 q2 a0 a1 a2 a3 a4 a5 a6 a7 a8 a9 a10
          go_region_law
            ((refine step_app (by rfl) el_pnode _ _ (by rfl) (by rfl) (by rfl) (B := w.heap.size) (xs := l.map fun q => ptr q.1) (arr := #[.pointer (some ⟨wx.heap.size, 0, none⟩)]) (e2 := 66) (fr := (0, 0)) (Frm.row (S := fun _ => False) (by (repeat' (first | (with_reducible exact Frm.refl _ _) | (with_reducible assumption) | (with_reducible refine Frm.alloc ?_ _) | (with_reducible refine Frm.drew ?_) | (with_reducible refine Frm.drewN ?_ _) | (with_reducible refine Frm.set1 ?_ _) | (with_reducible refine Frm.setCell ?_ ?_ _) | (exact fun h => absurd h (Nat.lt_irrefl _)) | (intro hlt; simp [World.size_alloc, One] at hlt ⊢; omega)))) HR6.out (fun _ _ h => h)) (heap_new_at (by simp)) (by rfl) (by simp [Value.oneCell']) (by decide) hl9 hl8 (by simp; omega) ?_; intro g2 cap3 w2 hown2 hfr2 hat2 hlt2; have hO2 : w2.heap[w.heap.size]? = some (.cells #[.slice A2 l.length cap2, .int .i64 t, .bool false] 64 (0, 0)) := (by refine hfr2.heap ?_ (fun h => (HNE.out _ h).1 rfl); (repeat (first | (with_reducible exact HO.out) | (with_reducible apply heap_alloc_old) | (with_reducible apply heap_drewN') | (with_reducible apply heap_drew')))); have hz2 : w2.frozen? ⟨w.heap.size, 0, none⟩ = false := free_at hO2; have hc2 : w2.cell? ⟨w.heap.size, 0, none⟩ = some (.slice A2 l.length cap2) := cell_at hO2))
          all_goals
            have HO3 := Lib.hid hO2
            have HO4 := Lib.hid hown2
            have HF2 := Lib.hid hfr2
            clear hO2 hown2 hfr2 hc2 hz2 ct z0 z1 z2 z3 z4 z5 z6 z7 z8 z9 z10
            go_wp2_with fail
            go_roundw
            case rel =>
              have hpn : wx.heap.size ≠ w.heap.size := by omega
              have hpo : ¬ (Value.slice A2 l.length cap2).ownBlock = some wx.heap.size := fun h => by have := (HNE.out _ h).2.1; omega
              have hys : ys.length = p.its.length := by rw [← HYB.out]; simp
              have fp := HF2.out.heap (heap_alloc_old (heap_new_at (k := wx.heap.size) (by first | rfl | simp))) hpo
              rw [hys] at fp
              have hf3 : Frm (fun j => j = w.heap.size ∨ (Value.slice A2 l.length cap2).ownBlock = some j) wx (w2.setCell ⟨w.heap.size, 0, none⟩ (.slice (some ⟨g2, 0, none⟩) (l.length + 1) cap3)) := by
                refine Frm.setCell ?_ (fun _ => .inl rfl) _
                refine Frm.trans (T := fun k => (Value.slice A2 l.length cap2).ownBlock = some k) ?_ HF2.out (fun i _ h => .inr h)
                (repeat' (first | (with_reducible exact Frm.refl _ _) | (with_reducible assumption) | (with_reducible refine Frm.alloc ?_ _) | (with_reducible refine Frm.drew ?_) | (with_reducible refine Frm.drewN ?_ _) | (with_reducible refine Frm.set1 ?_ _) | (with_reducible refine Frm.setCell ?_ ?_ _) | (exact fun h => absurd h (Nat.lt_irrefl _)) | (intro hlt; simp [World.size_alloc, One] at hlt ⊢; omega)))
              refine ⟨k + 1, l ++ [(wx.heap.size, Nd.new p)], by omega, by go_num, HBX.out.push (Nd.new p) HO.out (heap_set_same HO3.out _) ?_ ⟨A6, c6, by show p.its.length ≤ _; rw [← hys]; have := hyl2.out; omega, ?_⟩ (by simp) hf3, ?_, ?_, ?_, ?_, ?_⟩
              · exact Frm.row (S := One w.heap.size) ((Frm.refl _ _).set1 _) HO4.out (fun k hk e => by cases hk; have := block_ne (row_block HO4.out rfl).2.choose_spec HO3.out (by decide); exact this e)
              · exact heap_set_other fp hpn
              · rw [nds, List.map_append, HT.out, List.map_append, List.map_append, ← HL.out]; rfl
              · rw [HC.out, HD.out, List.map_cons, newErr, if_neg (by rw [HRR.out]; simp), if_neg HNO.out, HT.out, List.map_append]; rfl
              · refine (HF.out.trans' HFX.out).trans hf3 (fun i hi h => ?_)
                rcases h with h | h
                · omega
                · have := (HNE.out _ h).2.2; omega
              · have := HF2.out.size; simp at this ⊢; omega
              · intro q hq
                rcases List.mem_append.1 hq with h | h
                · exact HN.out _ h
                · simp at h; subst h; simp; omega
            case measure => simp [intOf]; omega
    · have hkn : k = xs.length := by omega
      subst hkn
      rw [List.drop_length] at hchk
      have HW := Lib.hid hW
      have HL := Lib.hid hl
      have HC := Lib.hid hchk
      have HF := Lib.hid hfr
      have HN := Lib.hid hnew
      clear hW hl hchk hfr hnew hlk
      go_wp2_with fail
      go_ret2
      exact ⟨HF.out, .inr ⟨by rw [E.out, HC.out]; rfl, _, l, rfl, HW.out, by simpa using HL.out, Nat.le_refl _, HN.out⟩⟩
end Go.Proofs.Ytjjmkpjclhielaa
