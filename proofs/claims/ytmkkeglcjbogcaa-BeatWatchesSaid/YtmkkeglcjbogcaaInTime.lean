/-
  The walk of BeatInTime.
-/
import Derived.Test.YtmkkeglcjbogcaaLives
import Derived.Test.YtmkkeglcjbogcaaRow
namespace Go.Proofs.Ytmkkeglcjbogcaa
open Go.RowKit
set_option linter.unusedVariables false

/-- A watched node that is there, s ticks behind its last beat. -/
def nine (n s : Int) : Wd := ⟨9, n, 5, true, false, s⟩

theorem chk_one (n t : Int) (h1 : 1 ≤ n) (h2 : n ≤ 127) (h3 : 1 ≤ t) (h4 : t ≤ 4294967296) : chk [] [(n, t)] = 0 := by
  rw [chk, if_neg (by omega), if_neg (by simp), chk]

theorem nine_tick (n s : Int) (h : s + 1 < n) : (nine n s).tick = (nine n (s + 1), []) := by
  unfold nine Wd.tick
  rw [if_neg (by simp), if_neg (by simp only; omega)]

/-- s ticks behind its last beat: there, or lost. -/
def nineAt (n s : Int) : Wd := if s < n then nine n s else ⟨9, n, 5, true, true, n⟩
theorem nineAt_tick (n s : Int) (h0 : 0 ≤ s) (h1 : 1 ≤ n) : (nineAt n s).tick = (nineAt n (s + 1), if s + 1 = n then [(9, 3, 5)] else []) := by
  unfold nineAt
  by_cases h : s < n
  · rw [if_pos h]
    by_cases h2 : s + 1 = n
    · rw [if_neg (by omega), if_pos h2]
      unfold nine Wd.tick
      rw [if_neg (by simp), if_pos (by simp only; omega)]
      simp [h2]
    · rw [if_pos (by omega), if_neg h2, nine_tick n s (by omega)]
  · rw [if_neg h, if_neg (by omega), if_neg (by omega)]
    unfold Wd.tick
    rw [if_pos (by simp)]
theorem nineAt_since (n s : Int) (h0 : 0 ≤ s) (h1 : 1 ≤ n) (h2 : n ≤ 256) : 0 ≤ (nineAt n s).since ∧ (nineAt n s).since ≤ 4294967296 := by
  unfold nineAt nine
  split <;> simp only <;> omega

set_option maxRecDepth 100000 in
set_option maxHeartbeats 2000000 in
theorem intime_any (ticks : Int) (v : Value) (gs : List UInt8) (w : World) (h0 : 0 ≤ ticks) (h1 : ticks ≤ 255) (hv : BytesAt w v gs) (hlen : gs.length ≤ 140737488351232) :
    Calls Try.prog 4 #[.int .u8 ticks, v] w (LawPost w) := by
  obtain ⟨A, cap, rfl, p1, p2, hc⟩ := hv
  have HC := Lib.hid hc
  clear hc
  go_enter Try.func4, Try.ntmps4
  go_wp2_with fail
  refine (new_any _ [(9, ticks + 1)] _ (one_watch 9 (ticks + 1) (by simp)) (by simp) (by simp; omega)).mono ?_
  rintro e w1 ⟨hF1, (⟨hc, _⟩ | ⟨hc, b, l, rfl, hW, hl, hb, hnew⟩)⟩
  · exact absurd (chk_one 9 _ (by omega) (by omega) (by omega) (by omega)) hc
  obtain ⟨p, rfl⟩ : ∃ p, l = [(p, Wd.new (9, ticks + 1))] := by
    match l, hl with
    | [(p, x)], h => exact ⟨p, by simpa using h⟩
  have hp := hnew (p, Wd.new (9, ticks + 1)) (by simp)
  simp at hp hb
  have HF1 := Lib.hid hF1
  have HW1 := Lib.hid hW
  clear hF1 hW hl hnew hc
  unfold ptr
  go_wp2_with fail
  refine (take_any b _ 9 _ [5] _ (HW1.out.frm (S := fun _ => False) (by (repeat' (first | (with_reducible exact Frm.refl _ _) | (with_reducible assumption) | (with_reducible refine Frm.alloc ?_ _) | (with_reducible refine Frm.drew ?_) | (with_reducible refine Frm.drewN ?_ _) | (with_reducible refine Frm.set1 ?_ _) | (with_reducible refine Frm.setCell ?_ ?_ _) | (intro hlt; simp [World.size_alloc, One] at hlt ⊢; omega)))) (fun h => h) (fun _ _ _ _ _ h => h)) (one_byte rfl (by simp [go_sem]) rfl)).mono ?_
  rintro e w2 ⟨v2, rfl, _, hW2, hF2⟩
  have e2 : takeOf [(p, Wd.new (9, ticks + 1))] 9 [5] = ([(p, nine (ticks + 1) 0)], [(9, 1, 5)], true) := by
    simp [takeOf, Wd.new, Wd.take, List.findIdx?, List.findIdx?.go, nine]
  rw [e2] at hW2 ⊢
  have hF02 : Frm (fun _ => False) w w2 := by
    refine Frm.trans (b := _) ?_ hF2 ?_
    · refine Frm.alloc (Frm.trans' (b := _) ?_ HF1.out) _
      (repeat' (first | (with_reducible exact Frm.refl _ _) | (with_reducible assumption) | (with_reducible refine Frm.alloc ?_ _) | (with_reducible refine Frm.drew ?_) | (with_reducible refine Frm.drewN ?_ _) | (with_reducible refine Frm.set1 ?_ _) | (with_reducible refine Frm.setCell ?_ ?_ _) | (intro hlt; simp [World.size_alloc, One] at hlt ⊢; omega)))
    · intro i hi h
      simp at h
      omega
  have HF2 := Lib.hid hF02
  have HW2 := Lib.hid hW2
  clear hF2 hF02 hW2 HF1 HW1
  go_wp2_with fail
  go_loopw [8, 9, 10, 11] (fun i _ _ _ wr => ∃ k : Nat, k ≤ gs.length ∧ i = .int .i64 k ∧ WAt wr b [(p, nine (ticks + 1) 0)] ∧ Frm (fun _ => False) w wr) (fun i _ _ _ _ => gs.length - (intOf i).toNat)
  case atStart => exact ⟨0, Nat.zero_le _, rfl, HW2.out, HF2.out⟩
  case round =>
    obtain ⟨k, hk, rfl, hW, hF⟩ := hrel
    have HW := Lib.hid hW
    have HF := Lib.hid hF
    clear hW hF HW2 HF2
    by_cases hlt : k < gs.length
    · obtain ⟨g, off, rfl, hc⟩ := HC.out (by omega)
      have hcw := hc k hlt
      have hgb : ((gs.getD k 0).toNat : Int) ≤ 255 := by have := (gs.getD k 0).toNat_lt; omega
      have hgb0 : 0 ≤ ((gs.getD k 0).toNat : Int) := by omega
      generalize ((gs.getD k 0).toNat : Int) = c at *
      clear hc
      go_wp2_with fail
      obtain ⟨wo, rfl⟩ : ∃ wo : World, wo = wr := ⟨_, rfl⟩
      go_loopw [9] (fun j wq => ∃ s : Nat, j = .int .i64 s ∧ (s : Int) ≤ c % (ticks + 1) ∧ WAt wq b [(p, nine (ticks + 1) s)] ∧ Frm (fun _ => False) w wq) (fun j _ => (300 - (intOf j)).toNat)
      case atStart => exact ⟨0, rfl, Int.emod_nonneg _ (by omega), HW.out, HF.out⟩
      case round =>
        obtain ⟨s, rfl, hs, hW3, hF3⟩ := hrel
        have hck := hF3.cell hcw (fun h => h)
        have hlt2 : c % (ticks + 1) < ticks + 1 := Int.emod_lt_of_pos _ (by omega)
        have HW3 := Lib.hid hW3
        have HF3 := Lib.hid hF3
        clear hW3 hF3
        go_wp2_with fail
        · have hslt : (s : Int) < c % (ticks + 1) := by assumption
          refine (tick_any b [(p, nine (ticks + 1) s)] _ HW3.out (by simp) (by simp [nine]; omega)).mono ?_
          rintro e w3 ⟨v3, rfl, hr3, hW4, hF4⟩
          have e3 := nine_tick (ticks + 1) s (by omega)
          have e4 : tickNews [(p, nine (ticks + 1) s)] = [] := by simp [tickNews, e3]
          have e5 : ticked [(p, nine (ticks + 1) s)] = [(p, nine (ticks + 1) (s + 1))] := by simp [ticked, e3]
          rw [e4] at hr3
          rw [e5] at hW4
          obtain ⟨A3, cap3, rfl, _⟩ := row_open hr3
          have hF5 := HF3.out.trans hF4 (fun i hi h => by simp at h; omega)
          have HW4 := Lib.hid hW4
          have HF5 := Lib.hid hF5
          clear e3 e4 e5 hr3 hW4 hF4 hF5
          go_wp2
          go_roundw
          case rel => exact ⟨s + 1, by go_num, by omega, HW4.out, HF5.out⟩
          case measure => simp [intOf]; omega
        · refine (take_any b _ 9 _ [5] _ (HW3.out.frm (S := fun _ => False) (by (repeat' (first | (with_reducible exact Frm.refl _ _) | (with_reducible assumption) | (with_reducible refine Frm.alloc ?_ _) | (with_reducible refine Frm.drew ?_) | (with_reducible refine Frm.drewN ?_ _) | (with_reducible refine Frm.set1 ?_ _) | (with_reducible refine Frm.setCell ?_ ?_ _) | (intro hlt; simp [World.size_alloc, One] at hlt ⊢; omega)))) (fun h => h) (fun _ _ _ _ _ h => h)) (one_byte rfl (by simp [go_sem]) rfl)).mono ?_
          rintro e w3 ⟨v3, rfl, hr3, hW4, hF4⟩
          have e2 : takeOf [(p, nine (ticks + 1) s)] 9 [5] = ([(p, nine (ticks + 1) 0)], [], true) := by
            simp [takeOf, Wd.take, List.findIdx?, List.findIdx?.go, nine]
          rw [e2] at hr3 hW4 ⊢
          simp only at hr3 hW4 ⊢
          obtain ⟨A3, cap3, rfl, _⟩ := row_open hr3
          have hF5 : Frm (fun _ => False) w w3 := (HF3.out.alloc _).trans hF4 (fun i hi h => by simp at h; omega)
          have HW4 := Lib.hid hW4
          have HF5 := Lib.hid hF5
          clear e2 hr3 hW4 hF4 hF5
          go_wp2
          go_roundw
          case rel => exact ⟨k + 1, by omega, by go_num, HW4.out, HF5.out⟩
          case measure => simp [intOf]; omega
    · have hkn : k = gs.length := by omega
      clear hkn
      go_wp2_with fail
      go_loopw [12] (fun j wq => ∃ s : Nat, j = .int .u64 ((s : Int) + 1) ∧ (s : Int) ≤ ticks + 4 ∧ WAt wq b [(p, nineAt (ticks + 1) s)] ∧ Frm (fun _ => False) w wq) (fun j _ => (300 - (intOf j)).toNat)
      case atStart => exact ⟨0, rfl, by omega, by rw [show nineAt (ticks + 1) ((0 : Nat) : Int) = nine (ticks + 1) 0 by unfold nineAt; rw [if_pos (by simp; omega)]; rfl]; exact HW.out, HF.out⟩
      case round =>
        obtain ⟨s, rfl, hs, hW3, hF3⟩ := hrel
        have HW3 := Lib.hid hW3
        have HF3 := Lib.hid hF3
        clear hW3 hF3
        by_cases hgo : (s : Int) + 1 ≤ ticks + 1 + 3
        · go_wp2_with fail
          refine (tick_any b [(p, nineAt (ticks + 1) s)] _ HW3.out (by simp) (by simpa using nineAt_since (ticks + 1) s (by omega) (by omega) (by omega))).mono ?_
          rintro e w3 ⟨v3, rfl, hr3, hW4, hF4⟩
          have e3 := nineAt_tick (ticks + 1) s (by omega) (by omega)
          have e5 : ticked [(p, nineAt (ticks + 1) s)] = [(p, nineAt (ticks + 1) (s + 1))] := by simp [ticked, e3]
          rw [e5] at hW4
          have hF5 := HF3.out.trans hF4 (fun i hi h => by simp at h; omega)
          have HW4 := Lib.hid hW4
          have HF5 := Lib.hid hF5
          by_cases hn : (s : Int) + 1 = ticks + 1
          · have e4 : (tickNews [(p, nineAt (ticks + 1) s)]).length = 1 := by simp [tickNews, e3, hn]
            rw [e4] at hr3
            obtain ⟨A3, cap3, rfl, _⟩ := row_open hr3
            have e6 : ((s : Int) + 1 == ticks + 1) = true := by simp [hn]
            clear e3 e4 e5 hr3 hW4 hF4 hF5 hn
            go_wp2
            go_roundw
            case rel => exact ⟨s + 1, by go_num, by omega, HW4.out, HF5.out⟩
            case measure => simp [intOf]; omega
          · have e4 : (tickNews [(p, nineAt (ticks + 1) s)]).length = 0 := by simp [tickNews, e3, hn]
            rw [e4] at hr3
            obtain ⟨A3, cap3, rfl, _⟩ := row_open hr3
            have e6 : ((s : Int) + 1 == ticks + 1) = false := by simp; omega
            clear e3 e4 e5 hr3 hW4 hF4 hF5 hn
            go_wp2
            go_roundw
            case rel => exact ⟨s + 1, by go_num, by omega, HW4.out, HF5.out⟩
            case measure => simp [intOf]; omega
        · go_wp2_with fail
          refine (lives_any _).mono ?_
          rintro e w5 ⟨rfl, hF5⟩
          have HF5 := Lib.hid (HF3.out.trans' hF5)
          clear hF5
          go_wp2
          go_ret
          exact ⟨rfl, HF5.out.below (Nat.le_refl _) (fun _ _ h => h)⟩
end Go.Proofs.Ytmkkeglcjbogcaa
