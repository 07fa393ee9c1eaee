/-
  The walk of BeatHearts.
-/
import Derived.Test.YtmkkeglcjbogcaaLives
import Derived.Test.YtmkkeglcjbogcaaCore2
import Derived.Test.YtmkkeglcjbogcaaRow
namespace Go.Proofs.Ytmkkeglcjbogcaa
open Go.RowKit
set_option linter.unusedVariables false

/-- A turn: Set, Ticks, State. -/
def encTurn (x : Bool × Int × Int) : List Value := [.bool x.1, .int .u64 x.2.1, .int .i64 x.2.2]

def leftIs (T G : Int) : Int := if T = 0 then 0 else T - G

theorem tick_yes {b : Nat} {each left st n : Int} {w : World} {f : FuncId} {args : Array Value} (h : Calls Try.prog f args w (TickPost b each left st w)) (hb : beats each left st = true) (hl : leftOf each left = n) :
    Calls Try.prog f args w fun e w' => ∃ g, e = .returned (.tuple #[.slice (some ⟨g, 0, none⟩) 1 1, .bool true]) ∧ HeartAt w' b each n ∧ Frm (One b) w w' ∧ w'.cell? ⟨g, 0, none⟩ = some (.int .u8 st) :=
  h.mono fun e w' ⟨v, he, hH, hF, _, h2⟩ => by
    obtain ⟨g, rfl, hc⟩ := h2 hb
    exact ⟨g, by rw [he, hb], by rw [← hl]; exact hH, hF, hc⟩
theorem tick_no {b : Nat} {each left st n : Int} {w : World} {f : FuncId} {args : Array Value} (h : Calls Try.prog f args w (TickPost b each left st w)) (hb : beats each left st = false) (hl : leftOf each left = n) :
    Calls Try.prog f args w fun e w' => e = .returned (.tuple #[.slice none 0 0, .bool false]) ∧ HeartAt w' b each n ∧ Frm (One b) w w' :=
  h.mono fun e w' ⟨v, he, hH, hF, h1, _⟩ => by
    obtain rfl := h1 hb
    exact ⟨by rw [he, hb], by rw [← hl]; exact hH, hF⟩

set_option maxRecDepth 100000 in
set_option maxHeartbeats 2000000 in
theorem hearts_big (T : Int) (v : Value) (w : World) (h1 : 4294967296 < T) : Calls Try.prog 6 #[.int .u64 T, v] w (LawPost w) := by
  go_enter Try.func6, Try.ntmps6
  go_wp2_with (go_at_call 24; go_in)
  refine (lives_any _).mono ?_
  rintro e w5 ⟨rfl, hF5⟩
  have HF5 := Lib.hid (hF5.below (Nat.le_refl _) (fun _ _ h => h))
  clear hF5
  go_wp2
  go_ret
  exact ⟨rfl, HF5.out⟩

set_option maxRecDepth 100000 in
set_option maxHeartbeats 2000000 in
theorem hearts_any (T : Int) (v : Value) (ts : List (Bool × Int × Int)) (w : World) (h0 : 0 ≤ T) (h1 : T ≤ 4294967296) (hv : SlAt encTurn 3 w v ts) (hlen : ts.length ≤ 140737488351232) (hwf : ∀ x ∈ ts, 0 ≤ x.2.1) :
    Calls Try.prog 6 #[.int .u64 T, v] w (LawPost w) := by
  obtain ⟨A, cap, rfl, p1, p2, hc⟩ := hv
  have HC := Lib.hid hc
  have HWF := Lib.hid hwf
  clear hc hwf
  go_enter Try.func6, Try.ntmps6
  go_wp2_with (go_at_call 24; go_in)
  go_loopw [0, 7, 8, 9, 10, 11, 12, 13] (fun a g i _ _ _ _ _ wr => ∃ (k : Nat) (T G : Int), k ≤ ts.length ∧ a = .int .u64 T ∧ g = .int .u64 G ∧ i = .int .i64 k ∧ 0 ≤ T ∧ T ≤ 4294967296 ∧ 0 ≤ G ∧ G ≤ k ∧ (T ≠ 0 → G < T) ∧
      HeartAt wr w.heap.size T (leftIs T G) ∧ Frm (fun _ => False) w wr) (fun _ _ i _ _ _ _ _ _ => ts.length - (intOf i).toNat)
  case atStart =>
    refine ⟨0, T, 0, Nat.zero_le _, rfl, rfl, rfl, h0, h1, by omega, by omega, by omega, ?_, ?_⟩
    · unfold leftIs
      by_cases e : T = 0
      · rw [if_pos e, e]; exact heap_new _ _
      · rw [if_neg e, Int.sub_zero]; exact heap_new _ _
    · (repeat' (first | (with_reducible exact Frm.refl _ _) | (with_reducible assumption) | (with_reducible refine Frm.alloc ?_ _) | (with_reducible refine Frm.drew ?_) | (with_reducible refine Frm.drewN ?_ _) | (with_reducible refine Frm.set1 ?_ _) | (with_reducible refine Frm.setCell ?_ ?_ _) | (intro hlt; simp [World.size_alloc, One] at hlt ⊢; omega)))
  case round =>
    obtain ⟨k, T, G, hk, rfl, rfl, rfl, b0, b1, b2, b3, b4, hH, hF⟩ := hrel
    by_cases hlt : k < ts.length
    · obtain ⟨g, off, rfl, hgl, hc⟩ := HC.out (by omega)
      have hci := hc k hlt
      have hw3 := HWF.out _ (List.getElem_mem hlt)
      clear hc
      generalize ts[k] = x at *
      obtain ⟨set, t, st⟩ := x
      have c0 : wr.cell? ⟨g, off + k * 3, none⟩ = some (.bool set) := hF.cell (hci 0 (by decide)) (fun h => h)
      have c1 : wr.cell? ⟨g, off + k * 3 + 1, none⟩ = some (.int .u64 t) := hF.cell (hci 1 (by decide)) (fun h => h)
      have c2 : wr.cell? ⟨g, off + k * 3 + 2, none⟩ = some (.int .i64 st) := hF.cell (hci 2 (by decide)) (fun h => h)
      have d0 : wr.cell? ⟨w.heap.size, 0, none⟩ = some (.int .u64 T) := cell_at hH
      have d1 : wr.cell? ⟨w.heap.size, 1, none⟩ = some (.int .u64 (leftIs T G)) := cell_at hH
      have hf := frees hH
      have HH := Lib.hid hH
      have HF := Lib.hid hF
      have hw4 : 0 ≤ t := hw3
      have B4 := Lib.hid b4
      clear hci hw3 hH hF b4
      cases set with
      | true =>
        by_cases ht : 4294967296 < t
        · go_wp2
          go_roundw
          case rel => exact ⟨k + 1, T, G, by omega, rfl, rfl, by go_num, b0, b1, b2, by omega, B4.out, HH.out, HF.out⟩
          case measure => simp [intOf]; omega
        · have ht' : t ≤ 4294967296 := by omega
          clear ht
          go_wp2
          go_roundw
          case rel =>
            refine ⟨k + 1, t, 0, by omega, rfl, rfl, by go_num, hw4, ht', by omega, by omega, by omega, ?_, ?_⟩
            · have : leftIs t 0 = t := by unfold leftIs; split <;> omega
              rw [this]
              have hh : wr.heap[w.heap.size]? = some (.cells #[.int .u64 T, .int .u64 (leftIs T G)] 138 (0, 0)) := HH.out
              unfold HeartAt
              (apply heap_fin; (case h => (repeat (first | (with_reducible exact hh) | (with_reducible apply heap_alloc_old) | (with_reducible apply heap_drewN') | (with_reducible apply heap_drew') | (with_reducible apply heap_set_same) | (with_reducible refine heap_set_other ?_ (by simp only []; omega)) | (with_reducible exact heap_new_at (by simp))))); (case e => rfl))
            · exact HF.out.trans (T := One w.heap.size) (by (repeat' (first | (with_reducible exact Frm.refl _ _) | (with_reducible assumption) | (with_reducible refine Frm.alloc ?_ _) | (with_reducible refine Frm.drew ?_) | (with_reducible refine Frm.drewN ?_ _) | (with_reducible refine Frm.set1 ?_ _) | (with_reducible refine Frm.setCell ?_ ?_ _) | (intro hlt; simp [World.size_alloc, One] at hlt ⊢; omega)))) (fun i hi (h : i = w.heap.size) => by omega)
          case measure => simp [intOf]; omega
      | false =>
        have hbase : 0 ≤ leftIs T G ∧ (T ≠ 0 → 1 ≤ leftIs T G) ∧ leftIs T G ≤ 4294967296 := by
          have := B4.out
          unfold leftIs
          split <;> omega
        obtain ⟨q1, q2, q3⟩ := hbase
        have HT := Lib.hid (heart_tick w.heap.size T (leftIs T G) st wr HH.out q1 q2 q3)
        have hnow : beats T (leftIs T G) st = (decide (G + 1 = T) && (decide (st = 4) || decide (st = 5) || decide (st = 127))) := by
          have := B4.out
          unfold beats leftIs
          by_cases e : T = 0
          · rw [if_pos e]
            have : decide (G + 1 = T) = false := by simp; omega
            rw [this]; simp [e]
          · rw [if_neg e]
            have : decide (T - G = 1) = decide (G + 1 = T) := by congr 1; simp; omega
            rw [this]; simp [e]
        have hl2 : leftOf T (leftIs T G) = if G + 1 = T then leftIs T 0 else leftIs T (G + 1) := by
          have := B4.out
          unfold leftOf leftIs
          by_cases e : T = 0
          · rw [if_pos e, if_pos e, if_pos e, if_pos e]; simp
          · simp only [if_neg e, Int.sub_zero]
            by_cases e2 : G + 1 = T
            · rw [if_pos e2, if_pos (by omega)]
            · rw [if_neg e2, if_neg (by omega)]; omega
        have HL2 := Lib.hid hl2
        have HNOW := Lib.hid hnow
        clear hnow hl2 q1 q2 q3
        by_cases hn : G + 1 = T
        · have e1 : (G + 1 == T) = true := by simpa using hn
          have el : leftOf T (leftIs T G) = leftIs T 0 := by rw [HL2.out, if_pos hn]
          have HEL := Lib.hid el
          have HN := Lib.hid hn
          have HNOW2 : Hid (beats T (leftIs T G) st = (decide (st = 4) || decide (st = 5) || decide (st = 127))) := by unfold Hid; rw [HNOW.out]; simp [hn]
          clear el hn
          by_cases s4 : st = 4
          ·
            subst s4
            have eb : beats T (leftIs T G) 4 = true := by rw [HNOW2.out]; decide
            have HEB := Lib.hid eb
            clear eb
            go_wp2_with fail
            refine (tick_yes HT.out HEB.out HEL.out).mono ?_
            rintro e w2 ⟨g2, rfl, hH2, hF2, cg2⟩
            have HF2 := Lib.hid (HF.out.trans hF2 (fun i hi (h : i = w.heap.size) => by omega))
            have HH2 := Lib.hid hH2
            clear hF2 hH2
            go_wp2
            go_roundw
            case rel => (repeat apply Exists.intro); exact ⟨⟨k + 1, T, 0, by omega, rfl, rfl, by go_num, b0, b1, by omega, by omega, fun h => by omega, HH2.out, HF2.out⟩, rfl⟩
            case measure => simp [intOf]; omega
          by_cases s5 : st = 5
          ·
            subst s5
            have eb : beats T (leftIs T G) 5 = true := by rw [HNOW2.out]; decide
            have HEB := Lib.hid eb
            clear eb
            go_wp2_with fail
            refine (tick_yes HT.out HEB.out HEL.out).mono ?_
            rintro e w2 ⟨g2, rfl, hH2, hF2, cg2⟩
            have HF2 := Lib.hid (HF.out.trans hF2 (fun i hi (h : i = w.heap.size) => by omega))
            have HH2 := Lib.hid hH2
            clear hF2 hH2
            go_wp2
            go_roundw
            case rel => (repeat apply Exists.intro); exact ⟨⟨k + 1, T, 0, by omega, rfl, rfl, by go_num, b0, b1, by omega, by omega, fun h => by omega, HH2.out, HF2.out⟩, rfl⟩
            case measure => simp [intOf]; omega
          by_cases s127 : st = 127
          ·
            subst s127
            have eb : beats T (leftIs T G) 127 = true := by rw [HNOW2.out]; decide
            have HEB := Lib.hid eb
            clear eb
            go_wp2_with fail
            refine (tick_yes HT.out HEB.out HEL.out).mono ?_
            rintro e w2 ⟨g2, rfl, hH2, hF2, cg2⟩
            have HF2 := Lib.hid (HF.out.trans hF2 (fun i hi (h : i = w.heap.size) => by omega))
            have HH2 := Lib.hid hH2
            clear hF2 hH2
            go_wp2
            go_roundw
            case rel => (repeat apply Exists.intro); exact ⟨⟨k + 1, T, 0, by omega, rfl, rfl, by go_num, b0, b1, by omega, by omega, fun h => by omega, HH2.out, HF2.out⟩, rfl⟩
            case measure => simp [intOf]; omega
          have eb : beats T (leftIs T G) st = false := by rw [HNOW2.out]; simp [s4, s5, s127]
          have HEB := Lib.hid eb
          have z4 : (st == 4) = false := by simp [s4]
          have z5 : (st == 5) = false := by simp [s5]
          have z127 : (st == 127) = false := by simp [s127]
          clear eb s4 s5 s127
          go_wp2_with fail
          refine (tick_no HT.out HEB.out HEL.out).mono ?_
          rintro e w2 ⟨rfl, hH2, hF2⟩
          have HF2 := Lib.hid (HF.out.trans hF2 (fun i hi (h : i = w.heap.size) => by omega))
          have HH2 := Lib.hid hH2
          clear hF2 hH2
          go_wp2
          go_roundw
          case rel => (repeat apply Exists.intro); exact ⟨⟨k + 1, T, 0, by omega, rfl, rfl, by go_num, b0, b1, by omega, by omega, fun h => by omega, HH2.out, HF2.out⟩, rfl⟩
          case measure => simp [intOf]; omega
        · have e1 : (G + 1 == T) = false := by simpa using hn
          have eb : beats T (leftIs T G) st = false := by rw [HNOW.out]; simp [hn]
          have el : leftOf T (leftIs T G) = leftIs T (G + 1) := by rw [HL2.out, if_neg hn]
          have HEB := Lib.hid eb
          have HEL := Lib.hid el
          have HN := Lib.hid hn
          clear eb el hn
          go_wp2_with fail
          refine (tick_no HT.out HEB.out HEL.out).mono ?_
          rintro e w2 ⟨rfl, hH2, hF2⟩
          have HF2 := Lib.hid (HF.out.trans hF2 (fun i hi (h : i = w.heap.size) => by omega))
          have HH2 := Lib.hid hH2
          clear hF2 hH2
          go_wp2
          go_roundw
          case rel => (repeat apply Exists.intro); exact ⟨⟨k + 1, T, G + 1, by omega, rfl, rfl, by go_num, b0, b1, by omega, by omega, fun h => by have := B4.out h; have := HN.out; omega, HH2.out, HF2.out⟩, rfl⟩
          case measure => simp [intOf]; omega
    · go_wp2_with fail
      refine (lives_any _).mono ?_
      rintro e w5 ⟨rfl, hF5⟩
      have HF5 := Lib.hid ((hF.trans' hF5).below (Nat.le_refl _) (fun _ _ h => h))
      clear hF5 hF hH
      go_wp2
      go_ret
      exact ⟨rfl, HF5.out⟩
end Go.Proofs.Ytmkkeglcjbogcaa
