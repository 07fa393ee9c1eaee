/-
  What judge does, the program's and the document's.
-/
import Derived.Test.YtjjmkpjclhielaaBootD
import Derived.Deep.QuietTactic
import Derived.BigQuiet
import Derived.Deep.Light
namespace Go.Proofs.Ytjjmkpjclhielaa
open Go.RowKit
set_option linter.unusedVariables false

/-- A plan as a value, its items' slice v. -/
def valP (p : Pl) (v : Value) : Value := .agg #[.int .i64 p.node, .int .u32 p.dev, .int .u32 p.i0, .int .u32 p.i1, .int .u32 p.i2, .int .u32 p.i3, .int .u32 p.day, .int .u32 p.time, v, .bool p.mand, .bool p.keep]
def valS (s : Sn) : Value := .agg #[.bool s.there, .int .u32 s.dev, .int .u32 s.i0, .int .u32 s.i1, .int .u32 s.i2, .int .u32 s.i3, .int .u32 s.day, .int .u32 s.time, .int .i64 s.state, .int .u32 s.code, .bool s.beat]
def cellsP (p : Pl) (v : Value) : List Value := [.int .i64 p.node, .int .u32 p.dev, .int .u32 p.i0, .int .u32 p.i1, .int .u32 p.i2, .int .u32 p.i3, .int .u32 p.day, .int .u32 p.time, v, .bool p.mand, .bool p.keep]
def cellsS (s : Sn) : List Value := [.bool s.there, .int .u32 s.dev, .int .u32 s.i0, .int .u32 s.i1, .int .u32 s.i2, .int .u32 s.i3, .int .u32 s.day, .int .u32 s.time, .int .i64 s.state, .int .u32 s.code, .bool s.beat]

/-- The first k parts of the identity are as they should be. -/
def IdFine (p0 p1 p2 p3 s0 s1 s2 s3 : Int) (k : Nat) : Prop := (0 < k → p0 = 0 ∨ s0 = p0) ∧ (1 < k → p1 = 0 ∨ s1 = p1) ∧ (2 < k → p2 = 0 ∨ s2 = p2) ∧ (3 < k → p3 = 0 ∨ s3 = p3)

theorem neq3 (p s : Int) : ((p != 0) = false ∧ Hid (p = 0 ∨ s = p)) ∨ ((p != 0) = true ∧ (s != p) = false ∧ Hid (p = 0 ∨ s = p)) ∨ ((p != 0) = true ∧ (s != p) = true ∧ Hid (p ≠ 0 ∧ s ≠ p)) := by
  by_cases h : p = 0
  · exact .inl ⟨by simpa using h, .inl h⟩
  · by_cases h2 : s = p
    · exact .inr (.inl ⟨by simpa using h, by simpa using h2, .inr h2⟩)
    · exact .inr (.inr ⟨by simpa using h, by simpa using h2, h, h2⟩)
theorem fine_not {p s : Int} (h : p = 0 ∨ s = p) : ¬ (p ≠ 0 ∧ s ≠ p) := fun ⟨a, b⟩ => h.elim a b

def JudgeP (p : Pl) (s : Sn) (w : World) (e : Ending) (w' : World) : Prop := e = .returned (.tuple #[.int .u8 (judgeOf p s).1, .int .i64 (judgeOf p s).2]) ∧ Frm (fun _ => False) w w'

theorem ret_j {a b c d : Int} (h1 : a = c) (h2 : b = d) : Ending.returned (.tuple #[.int .u8 a, .int .i64 b]) = .returned (.tuple #[.int .u8 c, .int .i64 d]) := by rw [h1, h2]

theorem idx4 (a b c d : Value) (W : World) : (Instr.index 35 (.agg #[a, b, c, d]) (.int .i64 0)).run Try.prog W = .ok a W ∧ (Instr.index 35 (.agg #[a, b, c, d]) (.int .i64 1)).run Try.prog W = .ok b W ∧
    (Instr.index 35 (.agg #[a, b, c, d]) (.int .i64 2)).run Try.prog W = .ok c W ∧ (Instr.index 35 (.agg #[a, b, c, d]) (.int .i64 3)).run Try.prog W = .ok d W := by
  have hs : (Try.prog.info? 34).map (·.size) = some 1 := by kernel_rfl
  obtain ⟨i, hi, h1⟩ := Option.map_eq_some_iff.1 hs
  have ha : ∀ W, (isAgg 34).run Try.prog W = .ok false W := fun W => by kernel_rfl
  refine ⟨?_, ?_, ?_, ?_⟩ <;> simp [Instr.index, asIntOf, run_underlying Try.underlying35, Go.sizeOf, typeInfo, hi, h1, part, ha]

set_option maxRecDepth 100000 in
set_option maxHeartbeats 2000000 in
theorem judge_any (p : Pl) (s : Sn) (A : Option Addr) (c : Nat) (w : World) (hl : p.its.length ≤ 9223372036854775807) :
    Calls Try.prog 29 #[valP p (.slice A p.its.length c), valS s] w (JudgeP p s w) := by
  obtain ⟨n, hn⟩ : ∃ n, n = p.its.length := ⟨_, rfl⟩
  rw [← hn] at hl ⊢
  have HN := Lib.hid hn
  clear hn
  unfold valP valS
  obtain ⟨pn, pd, p0, p1, p2, p3, pday, ptime, pits, pm, pk⟩ := p
  obtain ⟨st, sd, s0, s1, s2, s3, sday, stime, sst, sco, sbe⟩ := s
  simp only at HN ⊢
  by_cases hth : st = true
  case neg =>
    obtain rfl : st = false := by simpa using hth
    clear hth
    go_enter Try.func29, Try.ntmps29
    go_wp2_with fail
    go_ret2
    exact ⟨ret_j (by simp [judgeOf]) (by simp [judgeOf]), by (repeat' (first | (with_reducible exact Frm.refl _ _) | (with_reducible assumption) | (with_reducible refine Frm.alloc ?_ _) | (with_reducible refine Frm.drew ?_) | (with_reducible refine Frm.drewN ?_ _) | (with_reducible refine Frm.set1 ?_ _) | (with_reducible refine Frm.setCell ?_ ?_ _) | (exact fun h => absurd h (Nat.lt_irrefl _)) | (intro hlt; simp [World.size_alloc, One] at hlt ⊢; omega)))⟩
  case pos =>
    subst hth
    by_cases hd : pd ≠ 0 ∧ sd ≠ pd
    · have d1 : (pd != 0) = true := by simpa using hd.1
      have d2 : (sd != pd) = true := by simpa using hd.2
      have HD := Lib.hid hd
      clear hd
      go_enter Try.func29, Try.ntmps29
      go_wp2_with fail
      go_ret2
      exact ⟨ret_j (by simp [judgeOf, HD.out]) (by simp [judgeOf, HD.out]), by (repeat' (first | (with_reducible exact Frm.refl _ _) | (with_reducible assumption) | (with_reducible refine Frm.alloc ?_ _) | (with_reducible refine Frm.drew ?_) | (with_reducible refine Frm.drewN ?_ _) | (with_reducible refine Frm.set1 ?_ _) | (with_reducible refine Frm.setCell ?_ ?_ _) | (exact fun h => absurd h (Nat.lt_irrefl _)) | (intro hlt; simp [World.size_alloc, One] at hlt ⊢; omega)))⟩
    · have HD := Lib.hid hd
      have hd' : (pd != 0) = false ∨ ((pd != 0) = true ∧ (sd != pd) = false) := by
        by_cases h : pd = 0
        · left; simpa using h
        · right; simp [h] at hd ⊢; exact hd
      clear hd
      go_enter Try.func29, Try.ntmps29
      go_upto_region 3 with fail
      go_cut [13] (fun b wx => b = .bool false ∧ wx = (w.alloc (.cells #[.int .i64 pn, .int .u32 pd, .int .u32 p0, .int .u32 p1, .int .u32 p2, .int .u32 p3, .int .u32 pday, .int .u32 ptime, .slice A n c, .bool pm, .bool pk] 38)).alloc (.cells #[.bool true, .int .u32 sd, .int .u32 s0, .int .u32 s1, .int .u32 s2, .int .u32 s3, .int .u32 sday, .int .u32 stime, .int .i64 sst, .int .u32 sco, .bool sbe] 40))
      case first =>
        rcases hd' with d1 | ⟨d1, d2⟩
        all_goals
          go_wp2_with fail
          go_meet
          exact ⟨by first | rfl | trivial, by first | rfl | trivial⟩
      case rest =>
        obtain ⟨rfl, rfl⟩ := hcut
        clear hd'
        go_wp2_with fail
        have hb : Hid (Frm (fun _ => False) w ((w.alloc (.cells #[.int .i64 pn, .int .u32 pd, .int .u32 p0, .int .u32 p1, .int .u32 p2, .int .u32 p3, .int .u32 pday, .int .u32 ptime, .slice A n c, .bool pm, .bool pk] 38)).alloc (.cells #[.bool true, .int .u32 sd, .int .u32 s0, .int .u32 s1, .int .u32 s2, .int .u32 s3, .int .u32 sday, .int .u32 stime, .int .i64 sst, .int .u32 sco, .bool sbe] 40))) := by
          unfold Hid
          (repeat' (first | (with_reducible exact Frm.refl _ _) | (with_reducible assumption) | (with_reducible refine Frm.alloc ?_ _) | (with_reducible refine Frm.drew ?_) | (with_reducible refine Frm.drewN ?_ _) | (with_reducible refine Frm.set1 ?_ _) | (with_reducible refine Frm.setCell ?_ ?_ _) | (exact fun h => absurd h (Nat.lt_irrefl _)) | (intro hlt; simp [World.size_alloc, One] at hlt ⊢; omega)))
        go_loopw [26] (fun i wr => ∃ k : Nat, k ≤ 4 ∧ i = .int .i64 k ∧ wr = (w.alloc (.cells #[.int .i64 pn, .int .u32 pd, .int .u32 p0, .int .u32 p1, .int .u32 p2, .int .u32 p3, .int .u32 pday, .int .u32 ptime, .slice A n c, .bool pm, .bool pk] 38)).alloc (.cells #[.bool true, .int .u32 sd, .int .u32 s0, .int .u32 s1, .int .u32 s2, .int .u32 s3, .int .u32 sday, .int .u32 stime, .int .i64 sst, .int .u32 sco, .bool sbe] 40) ∧ IdFine p0 p1 p2 p3 s0 s1 s2 s3 k) (fun i _ => 4 - (intOf i).toNat)
        case atStart => exact ⟨0, by omega, rfl, rfl, by simp [IdFine]⟩
        case round =>
          obtain ⟨k, hk, rfl, rfl, hf⟩ := hrel
          have HF := Lib.hid hf
          clear hf
          have hk' : k = 0 ∨ k = 1 ∨ k = 2 ∨ k = 3 ∨ k = 4 := by omega
          have hix := fun W => (idx4 (.int .u32 p0) (.int .u32 p1) (.int .u32 p2) (.int .u32 p3) W).1
          have hix1 := fun W => (idx4 (.int .u32 p0) (.int .u32 p1) (.int .u32 p2) (.int .u32 p3) W).2.1
          have hix2 := fun W => (idx4 (.int .u32 p0) (.int .u32 p1) (.int .u32 p2) (.int .u32 p3) W).2.2.1
          have hix3 := fun W => (idx4 (.int .u32 p0) (.int .u32 p1) (.int .u32 p2) (.int .u32 p3) W).2.2.2
          rcases hk' with rfl | rfl | rfl | rfl | rfl
          · rcases neq3 p0 s0 with ⟨a1, x⟩ | ⟨a1, a2, x⟩ | ⟨a1, a2, x⟩
            · go_wp2_with fail
              go_roundw
              case rel => exact ⟨1, by omega, rfl, by first | rfl | trivial, ⟨fun _ => x.out, fun h => absurd h (by omega), fun h => absurd h (by omega), fun h => absurd h (by omega)⟩⟩
              case measure => simp [intOf]
            · go_wp2_with fail
              go_roundw
              case rel => exact ⟨1, by omega, rfl, by first | rfl | trivial, ⟨fun _ => x.out, fun h => absurd h (by omega), fun h => absurd h (by omega), fun h => absurd h (by omega)⟩⟩
              case measure => simp [intOf]
            · have hj : judgeOf ⟨pn, pd, p0, p1, p2, p3, pday, ptime, pits, pm, pk⟩ ⟨true, sd, s0, s1, s2, s3, sday, stime, sst, sco, sbe⟩ = (68, 0) := by
                rw [judgeOf, if_neg (by simp), if_neg HD.out]
                have hi : identOf ⟨pn, pd, p0, p1, p2, p3, pday, ptime, pits, pm, pk⟩ ⟨true, sd, s0, s1, s2, s3, sday, stime, sst, sco, sbe⟩ = some 68 := by
                  simp only [identOf]
                  rw [if_pos x.out]
                rw [hi]
              have HJ := Lib.hid hj
              clear hj
              go_wp2_with fail
              go_ret2
              exact ⟨ret_j (by rw [HJ.out]; rfl) (by rw [HJ.out]), hb.out⟩
          · rcases neq3 p1 s1 with ⟨a1, x⟩ | ⟨a1, a2, x⟩ | ⟨a1, a2, x⟩
            · go_wp2_with fail
              go_roundw
              case rel => exact ⟨2, by omega, rfl, by first | rfl | trivial, ⟨fun _ => HF.out.1 (by omega), fun _ => x.out, fun h => absurd h (by omega), fun h => absurd h (by omega)⟩⟩
              case measure => simp [intOf]
            · go_wp2_with fail
              go_roundw
              case rel => exact ⟨2, by omega, rfl, by first | rfl | trivial, ⟨fun _ => HF.out.1 (by omega), fun _ => x.out, fun h => absurd h (by omega), fun h => absurd h (by omega)⟩⟩
              case measure => simp [intOf]
            · have hj : judgeOf ⟨pn, pd, p0, p1, p2, p3, pday, ptime, pits, pm, pk⟩ ⟨true, sd, s0, s1, s2, s3, sday, stime, sst, sco, sbe⟩ = (77, 0) := by
                rw [judgeOf, if_neg (by simp), if_neg HD.out]
                have hi : identOf ⟨pn, pd, p0, p1, p2, p3, pday, ptime, pits, pm, pk⟩ ⟨true, sd, s0, s1, s2, s3, sday, stime, sst, sco, sbe⟩ = some 77 := by
                  simp only [identOf]
                  rw [if_neg (fine_not (HF.out.1 (by omega)))]; rw [if_pos x.out]
                rw [hi]
              have HJ := Lib.hid hj
              clear hj
              go_wp2_with fail
              go_ret2
              exact ⟨ret_j (by rw [HJ.out]; rfl) (by rw [HJ.out]), hb.out⟩
          · rcases neq3 p2 s2 with ⟨a1, x⟩ | ⟨a1, a2, x⟩ | ⟨a1, a2, x⟩
            · go_wp2_with fail
              go_roundw
              case rel => exact ⟨3, by omega, rfl, by first | rfl | trivial, ⟨fun _ => HF.out.1 (by omega), fun _ => HF.out.2.1 (by omega), fun _ => x.out, fun h => absurd h (by omega)⟩⟩
              case measure => simp [intOf]
            · go_wp2_with fail
              go_roundw
              case rel => exact ⟨3, by omega, rfl, by first | rfl | trivial, ⟨fun _ => HF.out.1 (by omega), fun _ => HF.out.2.1 (by omega), fun _ => x.out, fun h => absurd h (by omega)⟩⟩
              case measure => simp [intOf]
            · have hj : judgeOf ⟨pn, pd, p0, p1, p2, p3, pday, ptime, pits, pm, pk⟩ ⟨true, sd, s0, s1, s2, s3, sday, stime, sst, sco, sbe⟩ = (78, 0) := by
                rw [judgeOf, if_neg (by simp), if_neg HD.out]
                have hi : identOf ⟨pn, pd, p0, p1, p2, p3, pday, ptime, pits, pm, pk⟩ ⟨true, sd, s0, s1, s2, s3, sday, stime, sst, sco, sbe⟩ = some 78 := by
                  simp only [identOf]
                  rw [if_neg (fine_not (HF.out.1 (by omega)))]; rw [if_neg (fine_not (HF.out.2.1 (by omega)))]; rw [if_pos x.out]
                rw [hi]
              have HJ := Lib.hid hj
              clear hj
              go_wp2_with fail
              go_ret2
              exact ⟨ret_j (by rw [HJ.out]; rfl) (by rw [HJ.out]), hb.out⟩
          · rcases neq3 p3 s3 with ⟨a1, x⟩ | ⟨a1, a2, x⟩ | ⟨a1, a2, x⟩
            · go_wp2_with fail
              go_roundw
              case rel => exact ⟨4, by omega, rfl, by first | rfl | trivial, ⟨fun _ => HF.out.1 (by omega), fun _ => HF.out.2.1 (by omega), fun _ => HF.out.2.2.1 (by omega), fun _ => x.out⟩⟩
              case measure => simp [intOf]
            · go_wp2_with fail
              go_roundw
              case rel => exact ⟨4, by omega, rfl, by first | rfl | trivial, ⟨fun _ => HF.out.1 (by omega), fun _ => HF.out.2.1 (by omega), fun _ => HF.out.2.2.1 (by omega), fun _ => x.out⟩⟩
              case measure => simp [intOf]
            · have hj : judgeOf ⟨pn, pd, p0, p1, p2, p3, pday, ptime, pits, pm, pk⟩ ⟨true, sd, s0, s1, s2, s3, sday, stime, sst, sco, sbe⟩ = (79, 0) := by
                rw [judgeOf, if_neg (by simp), if_neg HD.out]
                have hi : identOf ⟨pn, pd, p0, p1, p2, p3, pday, ptime, pits, pm, pk⟩ ⟨true, sd, s0, s1, s2, s3, sday, stime, sst, sco, sbe⟩ = some 79 := by
                  simp only [identOf]
                  rw [if_neg (fine_not (HF.out.1 (by omega)))]; rw [if_neg (fine_not (HF.out.2.1 (by omega)))]; rw [if_neg (fine_not (HF.out.2.2.1 (by omega)))]; rw [if_pos x.out]
                rw [hi]
              have HJ := Lib.hid hj
              clear hj
              go_wp2_with fail
              go_ret2
              exact ⟨ret_j (by rw [HJ.out]; rfl) (by rw [HJ.out]), hb.out⟩
          · have hj : judgeOf ⟨pn, pd, p0, p1, p2, p3, pday, ptime, pits, pm, pk⟩ ⟨true, sd, s0, s1, s2, s3, sday, stime, sst, sco, sbe⟩ = lateOf ⟨pn, pd, p0, p1, p2, p3, pday, ptime, pits, pm, pk⟩ ⟨true, sd, s0, s1, s2, s3, sday, stime, sst, sco, sbe⟩ := by
              rw [judgeOf, if_neg (by simp), if_neg HD.out]
              have hi : identOf ⟨pn, pd, p0, p1, p2, p3, pday, ptime, pits, pm, pk⟩ ⟨true, sd, s0, s1, s2, s3, sday, stime, sst, sco, sbe⟩ = none := by
                simp only [identOf]
                rw [if_neg (fine_not (HF.out.1 (by omega))), if_neg (fine_not (HF.out.2.1 (by omega))), if_neg (fine_not (HF.out.2.2.1 (by omega))), if_neg (fine_not (HF.out.2.2.2 (by omega)))]
              rw [hi]
            have HJ := Lib.hid hj
            clear hj hix hix1 hix2 hix3
            go_upto_region 11 with fail
            go_cut [8] (fun b wx => ∃ st, b = .bool st ∧ Hid (st = decide (pday ≠ 0 ∨ ptime ≠ 0)) ∧ wx = (w.alloc (.cells #[.int .i64 pn, .int .u32 pd, .int .u32 p0, .int .u32 p1, .int .u32 p2, .int .u32 p3, .int .u32 pday, .int .u32 ptime, .slice A n c, .bool pm, .bool pk] 38)).alloc (.cells #[.bool true, .int .u32 sd, .int .u32 s0, .int .u32 s1, .int .u32 s2, .int .u32 s3, .int .u32 sday, .int .u32 stime, .int .i64 sst, .int .u32 sco, .bool sbe] 40))
            case first =>
              by_cases h1 : pday = 0
              · by_cases h2 : ptime = 0
                · have e : decide (pday ≠ 0 ∨ ptime ≠ 0) = false := by simp [h1, h2]
                  have E := Lib.hid e
                  have b1 : (pday != 0) = false := by simpa using h1
                  have b2 : (ptime != 0) = false := by simpa using h2
                  clear e h1 h2
                  go_wp2_with fail
                  go_meet
                  exact ⟨_, rfl, E.out.symm, by first | rfl | trivial⟩
                · have e : decide (pday ≠ 0 ∨ ptime ≠ 0) = true := by simp [h2]
                  have E := Lib.hid e
                  have b1 : (pday != 0) = false := by simpa using h1
                  have b2 : (ptime != 0) = true := by simpa using h2
                  clear e h1 h2
                  go_wp2_with fail
                  go_meet
                  exact ⟨_, rfl, E.out.symm, by first | rfl | trivial⟩
              · have e : decide (pday ≠ 0 ∨ ptime ≠ 0) = true := by simp [h1]
                have E := Lib.hid e
                have b1 : (pday != 0) = true := by simpa using h1
                clear e h1
                go_wp2_with fail
                go_meet
                exact ⟨_, rfl, E.out.symm, by first | rfl | trivial⟩
            case rest =>
              obtain ⟨stm, rfl, hst, rfl⟩ := hcut
              cases stm
              all_goals go_wp2_with fail
              all_goals
                go_ret2
                refine ⟨?_, by (repeat' (first | (with_reducible exact Frm.refl _ _) | (with_reducible assumption) | (with_reducible refine Frm.alloc ?_ _) | (with_reducible refine Frm.drew ?_) | (with_reducible refine Frm.drewN ?_ _) | (with_reducible refine Frm.set1 ?_ _) | (with_reducible refine Frm.setCell ?_ ?_ _) | (exact fun h => absurd h (Nat.lt_irrefl _)) | (intro hlt; simp [World.size_alloc, One] at hlt ⊢; omega)))⟩
                rw [HJ.out]
                have e1 := hst.out
                have e2 := HN.out
                clear hst HN HJ HF HD hb hk
                go_light
                subst e2
                refine ret_j ?_ ?_
                all_goals (simp [lateOf] at *; simp_all)
end Go.Proofs.Ytjjmkpjclhielaa
