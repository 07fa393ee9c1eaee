/-
  The document's New: what it refuses.
-/
import Derived.Test.YtjjmkpjclhielaaBootP6
import Derived.Test.YtjjmkpjclhielaaBootP7a
namespace Go.Proofs.Ytjjmkpjclhielaa
open Go.RowKit
set_option linter.unusedVariables false

theorem RAt.made {N : Nat} {w : World} {d ib lb sb : Nat} {v : Value} {xs : List Pla} {t : Int}
    (hd : w.heap[d]? = some (.cells #[v, .slice (some ⟨ib, 0, none⟩) xs.length xs.length, .slice (some ⟨lb, 0, none⟩) xs.length xs.length, .slice (some ⟨sb, 0, none⟩) xs.length xs.length, .int .i64 t, .bool false] 80 (0, 0)))
    (hi : w.heap[ib]? = some (.cells (List.replicate xs.length (Value.int .i64 0)).toArray 3 (0, 0)))
    (hl : w.heap[lb]? = some (.cells (List.replicate xs.length (Value.int .i64 0)).toArray 3 (0, 0)))
    (hs : w.heap[sb]? = some (.cells (List.replicate xs.length (Value.int .u8 0)).toArray 5 (0, 0)))
    (ps : SlAt encP 11 w v xs) (il : ib ≠ lb) (lo : N ≤ d ∧ N ≤ ib ∧ N ≤ lb ∧ N ≤ sb) (pl : ∀ A n c, v = .slice (some A) n c → A.block < N) :
    RAt N w d ib lb sb v xs ((xs.map (·.1)).map Nd.new) t false := by
  refine ⟨?_, ?_, ?_, ?_, ps, ?_, il, lo, pl⟩
  · simpa using hd
  · have : ((xs.map (·.1)).map Nd.new).map (fun x => Value.int .i64 x.is) = List.replicate xs.length (Value.int .i64 0) := by
      simp [Nd.new, Function.comp_def, List.map_const']
    rw [this]; exact hi
  · have : ((xs.map (·.1)).map Nd.new).map (fun x => Value.int .i64 x.looked) = List.replicate xs.length (Value.int .i64 0) := by
      simp [Nd.new, Function.comp_def, List.map_const']
    rw [this]; exact hl
  · have : ((xs.map (·.1)).map Nd.new).map (fun x => Value.int .u8 x.status) = List.replicate xs.length (Value.int .u8 0) := by
      simp [Nd.new, Function.comp_def, List.map_const']
    rw [this]; exact hs
  · simp [Nd.new, Function.comp_def]

def RNewPost (N : Nat) (v : Value) (xs : List Pla) (t : Int) (w : World) (e : Ending) (w' : World) : Prop :=
  Frm (fun _ => False) w w' ∧ ((newOf (xs.map (·.1)) t ≠ 0 ∧ e = .returned (.tuple #[.pointer none, .int .i64 (newOf (xs.map (·.1)) t)])) ∨
    (newOf (xs.map (·.1)) t = 0 ∧ ∃ d ib lb sb, e = .returned (.tuple #[ptr d, .int .i64 0]) ∧ RAt N w' d ib lb sb v xs ((xs.map (·.1)).map Nd.new) t false))

set_option maxRecDepth 100000 in
set_option maxHeartbeats 2000000 in
theorem rnew_any (N : Nat) (v : Value) (xs : List Pla) (t : Int) (w : World) (hv : PlansAt w v xs) (hr : ∀ x ∈ xs, ∀ it ∈ x.1.its, Rng it) (hN : N ≤ w.heap.size) (hpl : ∀ A n c, v = .slice (some A) n c → A.block < N) :
    Calls Try.prog 19 #[v, .int .i64 t] w (RNewPost N v xs t w) := by
  obtain ⟨⟨A, cap, rfl, h1, h2, hA⟩, hI⟩ := hv
  have hm : xs.length ≤ 9223372036854775807 := Nat.le_trans h1 h2
  by_cases hl : 127 < xs.length
  · have E : Hid (newOf (xs.map (·.1)) t = 2) := by unfold Hid newOf; rw [if_pos (by simpa using hl)]
    clear hA hI hr h1 h2 hpl
    go_enter Try.func19, Try.ntmps19
    go_wp2_with fail
    go_ret2
    exact ⟨Frm.refl _ _, .inl ⟨by rw [E.out]; decide, by rw [E.out]; rfl⟩⟩
  have hl' : xs.length ≤ 127 := by omega
  by_cases ht1 : t < 1
  · have E : Hid (newOf (xs.map (·.1)) t = 1) := by unfold Hid newOf; rw [if_neg (by simpa using hl), if_pos (.inl ht1)]
    clear hA hI hr h1 h2 hl hpl
    go_enter Try.func19, Try.ntmps19
    go_wp2_with fail
    go_ret2
    exact ⟨Frm.refl _ _, .inl ⟨by rw [E.out]; decide, by rw [E.out]; rfl⟩⟩
  by_cases ht2 : 1000 < t
  · have E : Hid (newOf (xs.map (·.1)) t = 1) := by unfold Hid newOf; rw [if_neg (by simpa using hl), if_pos (.inr ht2)]
    have ht1' : 1 ≤ t := by omega
    clear hA hI hr h1 h2 hl ht1 hpl
    go_enter Try.func19, Try.ntmps19
    go_wp2_with fail
    go_ret2
    exact ⟨Frm.refl _ _, .inl ⟨by rw [E.out]; decide, by rw [E.out]; rfl⟩⟩
  have E : Hid (newOf (xs.map (·.1)) t = newErr [] (xs.map (·.1))) := by unfold Hid newOf; rw [if_neg (by simpa using hl), if_neg (by omega)]
  have ht1' : 1 ≤ t := by omega
  have ht2' : t ≤ 1000 := by omega
  have HA := Lib.hid hA
  have HI := Lib.hid hI
  have HR := Lib.hid hr
  have HP := Lib.hid hpl
  have HS : Hid (SlAt encP 11 w (.slice A xs.length cap) xs) := ⟨A, cap, rfl, h1, h2, hA⟩
  clear hA hI hr h1 h2 hl ht1 ht2 hpl
  go_enter Try.func19, Try.ntmps19
  go_wp2_with fail
  go_loopw [6] (fun i wr => ∃ (k : Nat), k ≤ xs.length ∧ i = .int .i64 k ∧ newErr [] (xs.map (·.1)) = newErr ((xs.take k).map (·.1.node)) ((xs.drop k).map (·.1)) ∧ Frm (fun _ => False) w wr) (fun i _ => xs.length - (intOf i).toNat)
  case atStart => exact ⟨0, Nat.zero_le _, rfl, by simp, by (repeat' (first | (with_reducible exact Frm.refl _ _) | (with_reducible assumption) | (with_reducible refine Frm.alloc ?_ _) | (with_reducible refine Frm.drew ?_) | (with_reducible refine Frm.drewN ?_ _) | (with_reducible refine Frm.set1 ?_ _) | (with_reducible refine Frm.setCell ?_ ?_ _) | (exact fun h => absurd h (Nat.lt_irrefl _)) | (intro hlt; simp [World.size_alloc, One] at hlt ⊢; omega)))⟩
  case round =>
    obtain ⟨k, hk, rfl, hchk, hfr⟩ := hrel
    by_cases hlt : k < xs.length
    · obtain ⟨g, off, rfl, hgl, hc⟩ := HA.out (by omega)
      have hdrop : xs.drop k = xs[k] :: xs.drop (k + 1) := List.drop_eq_getElem_cons hlt
      have htake := List.take_succ_eq_append_getElem hlt
      have hrk := HR.out _ (List.getElem_mem hlt)
      obtain ⟨ys, hys, hyb⟩ := HI.out _ (List.getElem_mem hlt)
      have q := fun j hj => hc k hlt j hj
      have HC2 := Lib.hid hc
      clear hc
      obtain ⟨⟨p, pv⟩, hpv⟩ : ∃ x, x = xs[k] := ⟨_, rfl⟩
      rw [← hpv] at hdrop htake hrk hys hyb q
      simp only at hrk hys hyb
      obtain ⟨Ai, ci, rfl, hyl, _⟩ := hys.open_
      have a0 := hfr.cell (q 0 (by decide)) (fun h => h)
      have a1 := hfr.cell (q 1 (by decide)) (fun h => h)
      have a2 := hfr.cell (q 2 (by decide)) (fun h => h)
      have a3 := hfr.cell (q 3 (by decide)) (fun h => h)
      have a4 := hfr.cell (q 4 (by decide)) (fun h => h)
      have a5 := hfr.cell (q 5 (by decide)) (fun h => h)
      have a6 := hfr.cell (q 6 (by decide)) (fun h => h)
      have a7 := hfr.cell (q 7 (by decide)) (fun h => h)
      have a8 := hfr.cell (q 8 (by decide)) (fun h => h)
      have a9 := hfr.cell (q 9 (by decide)) (fun h => h)
      have a10 := hfr.cell (q 10 (by decide)) (fun h => h)
      simp only [Nat.add_zero] at a0
      have hgl := Nat.lt_of_lt_of_le hgl hfr.size
      have HC := Lib.hid hchk
      have HD := Lib.hid hdrop
      have HT := Lib.hid htake
      have HF := Lib.hid hfr
      have HYB := Lib.hid hyb
      have HYS := Lib.hid hys
      have HRK := Lib.hid hrk
      clear hchk hfr hdrop htake q hpv hys hyb hrk
      simp only [encP, List.getElem?_cons_succ, List.getElem?_cons_zero] at a0 a1 a2 a3 a4 a5 a6 a7 a8 a9 a10
      have hcfg : ∀ W, Frm (fun _ => False) w W → Calls Try.prog 34 #[valP p (.slice Ai ys.length ci)] W (CfgP p W) := fun W hF => rcfg_any p _ ys W (HYS.out.frm hF) HYB.out HRK.out
      have HCF := Lib.hid hcfg
      clear hcfg
      unfold valP CfgP at HCF
      obtain ⟨r, hrr⟩ : ∃ r, cfgOf p = r := ⟨_, rfl⟩
      rw [hrr] at HCF
      have HRR := Lib.hid hrr
      clear hrr
      by_cases hr0 : r = 0
      case neg =>
        have hb : (r != 0) = true := by simpa using hr0
        have EE : Hid (newOf (xs.map (·.1)) t = r) := by
          unfold Hid
          rw [E.out, HC.out, HD.out, List.map_cons, newErr, if_pos (by rw [HRR.out]; exact hr0), HRR.out]
        have hr0' : Hid (r ≠ 0) := hr0
        clear hr0
        go_wp2_with (go_at_call 34; refine (HCF.out _ (HF.out.trans' (by (repeat' (first | (with_reducible exact Frm.refl _ _) | (with_reducible assumption) | (with_reducible refine Frm.alloc ?_ _) | (with_reducible refine Frm.drew ?_) | (with_reducible refine Frm.drewN ?_ _) | (with_reducible refine Frm.set1 ?_ _) | (with_reducible refine Frm.setCell ?_ ?_ _) | (exact fun h => absurd h (Nat.lt_irrefl _)) | (intro hlt; simp [World.size_alloc, One] at hlt ⊢; omega)))))).mono ?_; rintro e w3 ⟨rfl, hF3⟩)
        go_ret2
        exact ⟨HF.out.trans' (Frm.trans' (b := _) (by (repeat' (first | (with_reducible exact Frm.refl _ _) | (with_reducible assumption) | (with_reducible refine Frm.alloc ?_ _) | (with_reducible refine Frm.drew ?_) | (with_reducible refine Frm.drewN ?_ _) | (with_reducible refine Frm.set1 ?_ _) | (with_reducible refine Frm.setCell ?_ ?_ _) | (exact fun h => absurd h (Nat.lt_irrefl _)) | (intro hlt; simp [World.size_alloc, One] at hlt ⊢; omega)))) hF3), .inl ⟨by rw [EE.out]; exact hr0'.out, by rw [EE.out]; rfl⟩⟩
      case pos =>
        subst hr0
        obtain ⟨wo, hwo⟩ : ∃ wo : World, wo = wr := ⟨_, rfl⟩
        subst hwo
        go_wp2_with (go_at_call 34; refine (HCF.out _ (HF.out.trans' (by (repeat' (first | (with_reducible exact Frm.refl _ _) | (with_reducible assumption) | (with_reducible refine Frm.alloc ?_ _) | (with_reducible refine Frm.drew ?_) | (with_reducible refine Frm.drewN ?_ _) | (with_reducible refine Frm.set1 ?_ _) | (with_reducible refine Frm.setCell ?_ ?_ _) | (exact fun h => absurd h (Nat.lt_irrefl _)) | (intro hlt; simp [World.size_alloc, One] at hlt ⊢; omega)))))).mono ?_; rintro e w3 ⟨rfl, hF3⟩; have HF3 : Hid (Frm (fun _ => False) w w3) := (HF.out.trans' (Frm.trans' (b := _) (by (repeat' (first | (with_reducible exact Frm.refl _ _) | (with_reducible assumption) | (with_reducible refine Frm.alloc ?_ _) | (with_reducible refine Frm.drew ?_) | (with_reducible refine Frm.drewN ?_ _) | (with_reducible refine Frm.set1 ?_ _) | (with_reducible refine Frm.setCell ?_ ?_ _) | (exact fun h => absurd h (Nat.lt_irrefl _)) | (intro hlt; simp [World.size_alloc, One] at hlt ⊢; omega)))) hF3)); have HF0 : Hid (Frm (fun _ => False) wo w3) := (Frm.trans' (b := _) (by (repeat' (first | (with_reducible exact Frm.refl _ _) | (with_reducible assumption) | (with_reducible refine Frm.alloc ?_ _) | (with_reducible refine Frm.drew ?_) | (with_reducible refine Frm.drewN ?_ _) | (with_reducible refine Frm.set1 ?_ _) | (with_reducible refine Frm.setCell ?_ ?_ _) | (exact fun h => absurd h (Nat.lt_irrefl _)) | (intro hlt; simp [World.size_alloc, One] at hlt ⊢; omega)))) hF3); clear hF3)
        go_loopw [8] (fun j wr => ∃ (m : Nat), m ≤ k ∧ j = .int .i64 m ∧ (∀ i (h : i < xs.length), i < m → xs[i].1.node ≠ p.node) ∧ Frm (fun _ => False) w3 wr) (fun j _ => k - (intOf j).toNat)
        case atStart => exact ⟨0, Nat.zero_le _, rfl, fun i _ h => absurd h (Nat.not_lt_zero _), by (repeat' (first | (with_reducible exact Frm.refl _ _) | (with_reducible assumption) | (with_reducible refine Frm.alloc ?_ _) | (with_reducible refine Frm.drew ?_) | (with_reducible refine Frm.drewN ?_ _) | (with_reducible refine Frm.set1 ?_ _) | (with_reducible refine Frm.setCell ?_ ?_ _) | (exact fun h => absurd h (Nat.lt_irrefl _)) | (intro hlt; simp [World.size_alloc, One] at hlt ⊢; omega)))⟩
        case round =>
          obtain ⟨m, hm', rfl, hno, hf4⟩ := hrel
          have hF4 : Frm (fun _ => False) wo wr := HF0.out.trans' hf4
          have HNO := Lib.hid hno
          have HF4 := Lib.hid (HF3.out.trans' hf4)
          have HF34 := Lib.hid hf4
          have b0 := hF4.cell a0 (fun h => h)
          have bgl := Nat.lt_of_lt_of_le hgl hF4.size
          clear hno
          by_cases hmk : m < k
          · have hmx : m < xs.length := by omega
            have c0 : wr.cell? ⟨g, off + m * 11, none⟩ = some (.int .i64 xs[m].1.node) := (HF4.out).cell (HC2.out m hmx 0 (by decide)) (fun h => h)
            obtain ⟨u, hu⟩ : ∃ u, xs[m].1.node = u := ⟨_, rfl⟩
            rw [hu] at c0
            have HU := Lib.hid hu
            have hmi : (m : Int) < (k : Int) := by omega
            clear hu a0 a1 a2 a3 a4 a5 a6 a7 a8 a9 a10 hF4 hf4
            by_cases hup : u = p.node
            · have hb : (u == p.node) = true := by simpa using hup
              have EE : Hid (newOf (xs.map (·.1)) t = 5) := by
                unfold Hid
                rw [E.out, HC.out, HD.out, List.map_cons, newErr, if_neg (by rw [HRR.out]; simp), if_pos]
                refine List.mem_map.2 ⟨xs[m], ?_, by rw [HU.out]; exact hup⟩
                exact List.mem_take_iff_getElem.2 ⟨m, by omega, rfl⟩
              clear hup
              go_wp2_with fail
              go_quiet (fail)
              go_wp2_with fail
              go_ret2
              exact ⟨HF4.out.trans' (by (repeat' (first | (with_reducible exact Frm.refl _ _) | (with_reducible assumption) | (with_reducible refine Frm.alloc ?_ _) | (with_reducible refine Frm.drew ?_) | (with_reducible refine Frm.drewN ?_ _) | (with_reducible refine Frm.set1 ?_ _) | (with_reducible refine Frm.setCell ?_ ?_ _) | (exact fun h => absurd h (Nat.lt_irrefl _)) | (intro hlt; simp [World.size_alloc, One] at hlt ⊢; omega)))), .inl ⟨by rw [EE.out]; decide, by rw [EE.out]; rfl⟩⟩
            · have hb : (u == p.node) = false := by simpa using hup
              have HUP := Lib.hid hup
              clear hup
              go_wp2_with fail
              go_quiet (fail)
              go_wp2_with fail
              go_roundw
              case rel =>
                refine ⟨m + 1, by omega, by go_num, fun i hi h => ?_, HF34.out.trans' (by (repeat' (first | (with_reducible exact Frm.refl _ _) | (with_reducible assumption) | (with_reducible refine Frm.alloc ?_ _) | (with_reducible refine Frm.drew ?_) | (with_reducible refine Frm.drewN ?_ _) | (with_reducible refine Frm.set1 ?_ _) | (with_reducible refine Frm.setCell ?_ ?_ _) | (exact fun h => absurd h (Nat.lt_irrefl _)) | (intro hlt; simp [World.size_alloc, One] at hlt ⊢; omega))))⟩
                by_cases hi2 : i = m
                · subst hi2; rw [HU.out]; exact HUP.out
                · exact HNO.out i hi (by omega)
              case measure => simp [intOf]; omega
          · have hmk' : m = k := by omega
            subst hmk'
            clear a0 a1 a2 a3 a4 a5 a6 a7 a8 a9 a10 hF4 hf4 hmk
            have hnm : p.node ∉ (xs.take m).map (·.1.node) := by
              intro h
              obtain ⟨x, hx, hxe⟩ := List.mem_map.1 h
              obtain ⟨i, hi, rfl⟩ := List.mem_take_iff_getElem.1 hx
              exact HNO.out i (by omega) (by omega) hxe
            have HNM := Lib.hid hnm
            clear hnm
            go_wp2_with fail
            go_roundw
            case rel =>
              refine ⟨m + 1, by omega, by go_num, ?_, HF4.out.trans' (by (repeat' (first | (with_reducible exact Frm.refl _ _) | (with_reducible assumption) | (with_reducible refine Frm.alloc ?_ _) | (with_reducible refine Frm.drew ?_) | (with_reducible refine Frm.drewN ?_ _) | (with_reducible refine Frm.set1 ?_ _) | (with_reducible refine Frm.setCell ?_ ?_ _) | (exact fun h => absurd h (Nat.lt_irrefl _)) | (intro hlt; simp [World.size_alloc, One] at hlt ⊢; omega))))⟩
              rw [HC.out, HD.out, List.map_cons, newErr, if_neg (by rw [HRR.out]; simp), if_neg HNM.out, HT.out, List.map_append]
              rfl
            case measure => simp [intOf]; omega
    · have hkk : k = xs.length := by omega
      subst hkk
      have E0 : Hid (newOf (xs.map (·.1)) t = 0) := by
        unfold Hid
        rw [E.out, hchk, List.drop_length, List.map_nil, newErr]
      have hmk := make_int xs.length (by omega)
      have hmk2 := make_u8s xs.length (by omega)
      have HF := Lib.hid hfr
      clear hchk hlt hfr HA HI HR
      go_wp2_with fail
      go_region_law (fail)
      all_goals
        go_wp2_with fail
        go_ret2
        have hsz := HF.out.size
        refine ⟨HF.out.trans' (by (repeat' (first | (with_reducible exact Frm.refl _ _) | (with_reducible assumption) | (with_reducible refine Frm.alloc ?_ _) | (with_reducible refine Frm.drew ?_) | (with_reducible refine Frm.drewN ?_ _) | (with_reducible refine Frm.set1 ?_ _) | (with_reducible refine Frm.setCell ?_ ?_ _) | (exact fun h => absurd h (Nat.lt_irrefl _)) | (intro hlt; simp [World.size_alloc, One] at hlt ⊢; omega)))), .inr ⟨E0.out, ?_⟩⟩
        apply Exists.intro
        apply Exists.intro
        apply Exists.intro
        apply Exists.intro
        refine ⟨rfl, ?_⟩
        apply RAt.made
        case hd => repeat (first | (refine heap_new_at ?_; simp; done) | apply heap_alloc_old | apply heap_drewN' | apply heap_drew')
        case hi => repeat (first | (refine heap_new_at ?_; simp; done) | apply heap_alloc_old | apply heap_drewN' | apply heap_drew')
        case hl => repeat (first | (refine heap_new_at ?_; simp; done) | apply heap_alloc_old | apply heap_drewN' | apply heap_drew')
        case hs => repeat (first | (refine heap_new_at ?_; simp; done) | apply heap_alloc_old | apply heap_drewN' | apply heap_drew')
        case ps => exact HS.out.frm encP_len (HF.out.trans' (by (repeat' (first | (with_reducible exact Frm.refl _ _) | (with_reducible assumption) | (with_reducible refine Frm.alloc ?_ _) | (with_reducible refine Frm.drew ?_) | (with_reducible refine Frm.drewN ?_ _) | (with_reducible refine Frm.set1 ?_ _) | (with_reducible refine Frm.setCell ?_ ?_ _) | (exact fun h => absurd h (Nat.lt_irrefl _)) | (intro hlt; simp [World.size_alloc, One] at hlt ⊢; omega)))))
        case il => omega
        case lo => refine ⟨?_, ?_, ?_, ?_⟩ <;> omega
        case pl => exact HP.out
end Go.Proofs.Ytjjmkpjclhielaa
