/-
  What the laws' own 'same' does: it tells whether two lists of news are one.
-/
import Derived.Test.YtmkkeglcjbogcaaWatchN
namespace Go.Proofs.Ytmkkeglcjbogcaa
open Go.RowKit
set_option linter.unusedVariables false

theorem newsCells_get (l : List News) (i : Nat) (h : i < l.length) : (newsCells l)[i * 3]? = some (.int .i64 l[i].1) ∧ (newsCells l)[i * 3 + 1]? = some (.int .i64 l[i].2.1) ∧ (newsCells l)[i * 3 + 2]? = some (.int .i64 l[i].2.2) := by
  induction l generalizing i with
  | nil => simp at h
  | cons x r ih =>
    obtain ⟨a, b, c⟩ := x
    cases i with
    | zero => simp [newsCells]
    | succ i =>
      have := ih i (by simpa using h)
      simp only [newsCells, show (i + 1) * 3 = i * 3 + 3 by omega]
      simpa using this

def NewsAt (w : World) (v : Value) (l : List News) : Prop := ∃ B, w.ownsRow B 48 3 v l.length (newsCells l)

theorem neq_News (a b c a' b' c' : Int) (w : World) : (binOp .neq 48 (.agg #[.int .i64 a, .int .i64 b, .int .i64 c]) (.agg #[.int .i64 a', .int .i64 b', .int .i64 c'])).run Try.prog w = .ok (.bool (!decide ((a, b, c) = (a', b', c')))) w := by
  rw [run_neq_struct, run_equalIn_agg w 9999 48 _ _ (by kernel_rfl) (by kernel_rfl)]
  have hf : (Try.prog.fieldsOf 48).toList = [⟨"Node", 3, 0, false, "", "", 0⟩, ⟨"What", 3, 1, false, "", "", 8⟩, ⟨"State", 3, 2, false, "", "", 16⟩] := by kernel_rfl
  rw [hf]
  simp only [Op.eqFields]
  simp [go_sem, Try.underlying3]
  by_cases h1 : a = a' <;> by_cases h2 : b = b' <;> by_cases h3 : c = c' <;> simp [h1, h2, h3]
theorem eqg_News (op : BinOp) (x y : Operand) (xs ys : Array Value) (w : World) : (eqGuard op 48 x y (.agg xs) (.agg ys)).run Try.prog w = .ok () w := run_eqGuard_agg w op 48 x y xs ys (by kernel_rfl)

theorem ret_bool {a b : Bool} (h : a = b) : Ending.returned (.bool a) = .returned (.bool b) := by rw [h]

set_option maxRecDepth 100000 in
set_option maxHeartbeats 1000000 in
theorem same_any (a b : Value) (l m : List News) (w : World) (ha : NewsAt w a l) (hb : NewsAt w b m) :
    Calls Try.prog 23 #[a, b] w fun e w' => e = .returned (.bool (decide (l = m))) ∧ ∃ n, w' = w.drewN n := by
  obtain ⟨B1, ha⟩ := ha
  obtain ⟨B2, hb⟩ := hb
  obtain ⟨A1, cap1, rfl, p1, p2, ca⟩ := row_open ha
  obtain ⟨A2, cap2, rfl, q1, q2, cb⟩ := row_open hb
  have hm1 : l.length ≤ 9223372036854775807 := Nat.le_trans p1 p2
  have HA := Lib.hid ca
  have HB := Lib.hid cb
  clear ca cb ha hb p1 p2 q1 q2
  by_cases hlen : l.length = m.length
  · have HL := Lib.hid hlen
    have e0 : ((l.length : Int) != (m.length : Int)) = false := by simp [hlen]
    clear hlen
    go_enter Try.func23, Try.ntmps23
    go_wp2
    go_loopw [5] (fun i wr => ∃ k n : Nat, k ≤ l.length ∧ i = .int .i64 k ∧ wr = w.drewN n ∧ l.take k = m.take k) (fun i _ => l.length - (intOf i).toNat)
    case atStart => exact ⟨0, 0, Nat.zero_le _, rfl, rfl, by simp⟩
    case round =>
      obtain ⟨k, n, hk, rfl, rfl, htk⟩ := hrel
      have HT := Lib.hid htk
      clear htk
      by_cases hlt : k < l.length
      · obtain ⟨g1, rfl, _, _, _, c1⟩ := HA.out (by omega)
        have hlm : k < m.length := by rw [← HL.out]; exact hlt
        obtain ⟨g2, rfl, _, _, _, c2⟩ := HB.out (by omega)
        obtain ⟨x1, x2, x3⟩ := newsCells_get l k hlt
        obtain ⟨y1, y2, y3⟩ := newsCells_get m k hlm
        have hl1 := Lib.hid (List.take_succ_eq_append_getElem hlt)
        have hm1' := Lib.hid (List.take_succ_eq_append_getElem hlm)
        have hlx := Lib.hid (show ∀ _ : l = m, l[k] = m[k] from fun h => by simp [h])
        generalize l[k] = u at *
        generalize m[k] = v at *
        obtain ⟨u1, u2, u3⟩ := u
        obtain ⟨v1, v2, v3⟩ := v
        rw [← c1 _ (by omega)] at x1 x2 x3
        rw [← c2 _ (by omega)] at y1 y2 y3
        clear c1 c2
        have s1 := eqg_News .neq (.tmp 20) (.tmp 24) #[.int .i64 u1, .int .i64 u2, .int .i64 u3] #[.int .i64 v1, .int .i64 v2, .int .i64 v3]
        have i0 : (0 : Int) ≤ (k : Int) := Int.natCast_nonneg _
        have i1 : (k : Int) < (l.length : Int) := by omega
        have i2 : (k : Int) < (m.length : Int) := by omega
        by_cases huv : (u1, u2, u3) = (v1, v2, v3)
        · have s2 := fun W => (neq_News u1 u2 u3 v1 v2 v3 W).trans (by rw [decide_eq_true huv]; rfl : _ = Result.ok (Value.bool false) W)
          have HUV := Lib.hid huv
          clear huv
          go_wp2
          go_quiet (fail)
          go_wp2
          go_roundw
          case rel => exact ⟨k + 1, _, by omega, by go_num, rfl, by rw [hl1.out, hm1'.out, HT.out, HUV.out]⟩
          case measure => simp [intOf]; omega
        · have s2 := fun W => (neq_News u1 u2 u3 v1 v2 v3 W).trans (by rw [decide_eq_false huv]; rfl : _ = Result.ok (Value.bool true) W)
          have HN : Hid (decide (l = m) = false) := by unfold Hid; simp; exact fun h => huv (hlx.out h)
          clear huv
          go_wp2
          go_quiet (fail)
          go_wp2
          go_ret
          exact ⟨ret_bool HN.out.symm, _, by first | rfl | exact World.drewN_drewN _ _ _⟩
      · have HN : Hid (decide (l = m) = true) := by
          unfold Hid
          have h1 := HT.out
          have h2 := HL.out
          rw [List.take_of_length_le (by omega), List.take_of_length_le (by omega)] at h1
          simpa using h1
        have hkn : k = l.length := by omega
        have HK := Lib.hid hkn
        clear hkn
        go_wp2
        go_ret
        exact ⟨ret_bool HN.out.symm, _, rfl⟩
  · have e0 : ((l.length : Int) != (m.length : Int)) = true := by simp; omega
    have HN : Hid (decide (l = m) = false) := by unfold Hid; simp; rintro rfl; exact hlen rfl
    clear hlen
    go_enter Try.func23, Try.ntmps23
    go_wp2
    go_ret
    exact ⟨ret_bool HN.out.symm, 0, rfl⟩
end Go.Proofs.Ytmkkeglcjbogcaa
