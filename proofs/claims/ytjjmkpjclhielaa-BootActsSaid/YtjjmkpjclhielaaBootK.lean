/-
  What the document's Judge does.
-/
import Derived.Test.YtjjmkpjclhielaaBootJ
namespace Go.Proofs.Ytjjmkpjclhielaa
open Go.RowKit
set_option linter.unusedVariables false

theorem neq3r (p s : Int) : ((p != 0) = false ∧ Hid (p = 0 ∨ s = p)) ∨ ((p != 0) = true ∧ (p != s) = false ∧ Hid (p = 0 ∨ s = p)) ∨ ((p != 0) = true ∧ (p != s) = true ∧ Hid (p ≠ 0 ∧ s ≠ p)) := by
  by_cases h : p = 0
  · exact .inl ⟨by simpa using h, .inl h⟩
  · by_cases h2 : s = p
    · exact .inr (.inl ⟨by simpa using h, by simpa using h2.symm, .inr h2⟩)
    · exact .inr (.inr ⟨by simpa using h, by simpa using fun e => h2 e.symm, h, h2⟩)

set_option maxRecDepth 100000 in
set_option maxHeartbeats 2000000 in
theorem rjudge_any (p : Pl) (s : Sn) (A : Option Addr) (c : Nat) (w : World) (hl : p.its.length ≤ 9223372036854775807) :
    Calls Try.prog 16 #[valP p (.slice A p.its.length c), valS s] w (JudgeP p s w) := by
  obtain ⟨n, hn⟩ : ∃ n, n = p.its.length := ⟨_, rfl⟩
  rw [← hn] at hl ⊢
  have HN := Lib.hid hn
  clear hn
  unfold valP valS
  obtain ⟨pn, pd, p0, p1, p2, p3, pday, ptime, pits, pm, pk⟩ := p
  obtain ⟨st, sd, s0, s1, s2, s3, sday, stime, sst, sco, sbe⟩ := s
  simp only at HN ⊢
  by_cases hth : st = true
  case neg =>
    obtain rfl : st = false := by simpa using hth
    clear hth
    go_enter Try.func16, Try.ntmps16
    go_wp2_with fail
    go_ret2
    exact ⟨ret_j (by simp [judgeOf]) (by simp [judgeOf]), by (repeat' (first | (with_reducible exact Frm.refl _ _) | (with_reducible assumption) | (with_reducible refine Frm.alloc ?_ _) | (with_reducible refine Frm.drew ?_) | (with_reducible refine Frm.drewN ?_ _) | (with_reducible refine Frm.set1 ?_ _) | (with_reducible refine Frm.setCell ?_ ?_ _) | (exact fun h => absurd h (Nat.lt_irrefl _)) | (intro hlt; simp [World.size_alloc, One] at hlt ⊢; omega)))⟩
  case pos =>
    subst hth
    by_cases hd : pd ≠ 0 ∧ sd ≠ pd
    · have d1 : (pd != 0) = true := by simpa using hd.1
      have d2 : (pd != sd) = true := by simpa using fun e => hd.2 (Eq.symm e)
      have HD := Lib.hid hd
      clear hd
      go_enter Try.func16, Try.ntmps16
      go_wp2_with fail
      go_ret2
      exact ⟨ret_j (by simp [judgeOf, HD.out]) (by simp [judgeOf, HD.out]), by (repeat' (first | (with_reducible exact Frm.refl _ _) | (with_reducible assumption) | (with_reducible refine Frm.alloc ?_ _) | (with_reducible refine Frm.drew ?_) | (with_reducible refine Frm.drewN ?_ _) | (with_reducible refine Frm.set1 ?_ _) | (with_reducible refine Frm.setCell ?_ ?_ _) | (exact fun h => absurd h (Nat.lt_irrefl _)) | (intro hlt; simp [World.size_alloc, One] at hlt ⊢; omega)))⟩
    · have HD := Lib.hid hd
      have hd' : (pd != 0) = false ∨ ((pd != 0) = true ∧ (pd != sd) = false) := by
        by_cases h : pd = 0
        · left; simpa using h
        · right; simp [h] at hd ⊢; exact hd.symm
      clear hd
      go_enter Try.func16, Try.ntmps16
      go_upto_region 3 with fail
      go_cut [19] (fun b wx => b = .bool false ∧ wx = (w.alloc (.cells #[.int .i64 pn, .int .u32 pd, .int .u32 p0, .int .u32 p1, .int .u32 p2, .int .u32 p3, .int .u32 pday, .int .u32 ptime, .slice A n c, .bool pm, .bool pk] 38)).alloc (.cells #[.bool true, .int .u32 sd, .int .u32 s0, .int .u32 s1, .int .u32 s2, .int .u32 s3, .int .u32 sday, .int .u32 stime, .int .i64 sst, .int .u32 sco, .bool sbe] 40))
      case first =>
        rcases hd' with d1 | ⟨d1, d2⟩
        all_goals
          go_wp2_with fail
          go_meet
          exact ⟨by first | rfl | trivial, by first | rfl | trivial⟩
      case rest =>
        obtain ⟨rfl, rfl⟩ := hcut
        clear hd'
        go_wp2_with fail
        go_loopw [6] (fun i wr => ∃ k m : Nat, k ≤ 4 ∧ i = .int .i64 k ∧ wr = ((w.alloc (.cells #[.int .i64 pn, .int .u32 pd, .int .u32 p0, .int .u32 p1, .int .u32 p2, .int .u32 p3, .int .u32 pday, .int .u32 ptime, .slice A n c, .bool pm, .bool pk] 38)).alloc (.cells #[.bool true, .int .u32 sd, .int .u32 s0, .int .u32 s1, .int .u32 s2, .int .u32 s3, .int .u32 sday, .int .u32 stime, .int .i64 sst, .int .u32 sco, .bool sbe] 40)).drewN m ∧ IdFine p0 p1 p2 p3 s0 s1 s2 s3 k) (fun i _ => 4 - (intOf i).toNat)
        case atStart => exact ⟨0, 0, by omega, rfl, rfl, by simp [IdFine]⟩
        case round =>
        obtain ⟨k, m, hk, rfl, rfl, hf⟩ := hrel
        have HF := Lib.hid hf
        clear hf
        have hk' : k = 0 ∨ k = 1 ∨ k = 2 ∨ k = 3 ∨ k = 4 := by omega
        rcases hk' with rfl | rfl | rfl | rfl | rfl
        · rcases neq3r p0 s0 with ⟨a1, x⟩ | ⟨a1, a2, x⟩ | ⟨a1, a2, x⟩
          · go_wp2_with fail
            go_quiet (fail)
            go_wp2_with fail
            go_roundw
            case rel => exact ⟨1, _, by omega, rfl, rfl, ⟨fun _ => x.out, fun h => absurd h (by omega), fun h => absurd h (by omega), fun h => absurd h (by omega)⟩⟩
            case measure => simp [intOf]
          · go_wp2_with fail
            go_quiet (fail)
            go_wp2_with fail
            go_roundw
            case rel => exact ⟨1, _, by omega, rfl, rfl, ⟨fun _ => x.out, fun h => absurd h (by omega), fun h => absurd h (by omega), fun h => absurd h (by omega)⟩⟩
            case measure => simp [intOf]
          · have hj : judgeOf ⟨pn, pd, p0, p1, p2, p3, pday, ptime, pits, pm, pk⟩ ⟨true, sd, s0, s1, s2, s3, sday, stime, sst, sco, sbe⟩ = (68, 0) := by
              rw [judgeOf, if_neg (by simp), if_neg HD.out]
              have hi : identOf ⟨pn, pd, p0, p1, p2, p3, pday, ptime, pits, pm, pk⟩ ⟨true, sd, s0, s1, s2, s3, sday, stime, sst, sco, sbe⟩ = some 68 := by
                simp only [identOf]
                rw [if_pos x.out]
              rw [hi]
            have HJ := Lib.hid hj
            clear hj
            go_wp2_with fail
            go_quiet (fail)
            go_wp2_with fail
            go_ret2
            exact ⟨ret_j (by rw [HJ.out]; rfl) (by rw [HJ.out]), by (repeat' (first | (with_reducible exact Frm.refl _ _) | (with_reducible assumption) | (with_reducible refine Frm.alloc ?_ _) | (with_reducible refine Frm.drew ?_) | (with_reducible refine Frm.drewN ?_ _) | (with_reducible refine Frm.set1 ?_ _) | (with_reducible refine Frm.setCell ?_ ?_ _) | (exact fun h => absurd h (Nat.lt_irrefl _)) | (intro hlt; simp [World.size_alloc, One] at hlt ⊢; omega)))⟩
        · rcases neq3r p1 s1 with ⟨a1, x⟩ | ⟨a1, a2, x⟩ | ⟨a1, a2, x⟩
          · go_wp2_with fail
            go_quiet (fail)
            go_wp2_with fail
            go_roundw
            case rel => exact ⟨2, _, by omega, rfl, rfl, ⟨fun _ => HF.out.1 (by omega), fun _ => x.out, fun h => absurd h (by omega), fun h => absurd h (by omega)⟩⟩
            case measure => simp [intOf]
          · go_wp2_with fail
            go_quiet (fail)
            go_wp2_with fail
            go_roundw
            case rel => exact ⟨2, _, by omega, rfl, rfl, ⟨fun _ => HF.out.1 (by omega), fun _ => x.out, fun h => absurd h (by omega), fun h => absurd h (by omega)⟩⟩
            case measure => simp [intOf]
          · have hj : judgeOf ⟨pn, pd, p0, p1, p2, p3, pday, ptime, pits, pm, pk⟩ ⟨true, sd, s0, s1, s2, s3, sday, stime, sst, sco, sbe⟩ = (77, 0) := by
              rw [judgeOf, if_neg (by simp), if_neg HD.out]
              have hi : identOf ⟨pn, pd, p0, p1, p2, p3, pday, ptime, pits, pm, pk⟩ ⟨true, sd, s0, s1, s2, s3, sday, stime, sst, sco, sbe⟩ = some 77 := by
                simp only [identOf]
                rw [if_neg (fine_not (HF.out.1 (by omega)))]; rw [if_pos x.out]
              rw [hi]
            have HJ := Lib.hid hj
            clear hj
            go_wp2_with fail
            go_quiet (fail)
            go_wp2_with fail
            go_ret2
            exact ⟨ret_j (by rw [HJ.out]; rfl) (by rw [HJ.out]), by (repeat' (first | (with_reducible exact Frm.refl _ _) | (with_reducible assumption) | (with_reducible refine Frm.alloc ?_ _) | (with_reducible refine Frm.drew ?_) | (with_reducible refine Frm.drewN ?_ _) | (with_reducible refine Frm.set1 ?_ _) | (with_reducible refine Frm.setCell ?_ ?_ _) | (exact fun h => absurd h (Nat.lt_irrefl _)) | (intro hlt; simp [World.size_alloc, One] at hlt ⊢; omega)))⟩
        · rcases neq3r p2 s2 with ⟨a1, x⟩ | ⟨a1, a2, x⟩ | ⟨a1, a2, x⟩
          · go_wp2_with fail
            go_quiet (fail)
            go_wp2_with fail
            go_roundw
            case rel => exact ⟨3, _, by omega, rfl, rfl, ⟨fun _ => HF.out.1 (by omega), fun _ => HF.out.2.1 (by omega), fun _ => x.out, fun h => absurd h (by omega)⟩⟩
            case measure => simp [intOf]
          · go_wp2_with fail
            go_quiet (fail)
            go_wp2_with fail
            go_roundw
            case rel => exact ⟨3, _, by omega, rfl, rfl, ⟨fun _ => HF.out.1 (by omega), fun _ => HF.out.2.1 (by omega), fun _ => x.out, fun h => absurd h (by omega)⟩⟩
            case measure => simp [intOf]
          · have hj : judgeOf ⟨pn, pd, p0, p1, p2, p3, pday, ptime, pits, pm, pk⟩ ⟨true, sd, s0, s1, s2, s3, sday, stime, sst, sco, sbe⟩ = (78, 0) := by
              rw [judgeOf, if_neg (by simp), if_neg HD.out]
              have hi : identOf ⟨pn, pd, p0, p1, p2, p3, pday, ptime, pits, pm, pk⟩ ⟨true, sd, s0, s1, s2, s3, sday, stime, sst, sco, sbe⟩ = some 78 := by
                simp only [identOf]
                rw [if_neg (fine_not (HF.out.1 (by omega)))]; rw [if_neg (fine_not (HF.out.2.1 (by omega)))]; rw [if_pos x.out]
              rw [hi]
            have HJ := Lib.hid hj
            clear hj
            go_wp2_with fail
            go_quiet (fail)
            go_wp2_with fail
            go_ret2
            exact ⟨ret_j (by rw [HJ.out]; rfl) (by rw [HJ.out]), by (repeat' (first | (with_reducible exact Frm.refl _ _) | (with_reducible assumption) | (with_reducible refine Frm.alloc ?_ _) | (with_reducible refine Frm.drew ?_) | (with_reducible refine Frm.drewN ?_ _) | (with_reducible refine Frm.set1 ?_ _) | (with_reducible refine Frm.setCell ?_ ?_ _) | (exact fun h => absurd h (Nat.lt_irrefl _)) | (intro hlt; simp [World.size_alloc, One] at hlt ⊢; omega)))⟩
        · rcases neq3r p3 s3 with ⟨a1, x⟩ | ⟨a1, a2, x⟩ | ⟨a1, a2, x⟩
          · go_wp2_with fail
            go_quiet (fail)
            go_wp2_with fail
            go_roundw
            case rel => exact ⟨4, _, by omega, rfl, rfl, ⟨fun _ => HF.out.1 (by omega), fun _ => HF.out.2.1 (by omega), fun _ => HF.out.2.2.1 (by omega), fun _ => x.out⟩⟩
            case measure => simp [intOf]
          · go_wp2_with fail
            go_quiet (fail)
            go_wp2_with fail
            go_roundw
            case rel => exact ⟨4, _, by omega, rfl, rfl, ⟨fun _ => HF.out.1 (by omega), fun _ => HF.out.2.1 (by omega), fun _ => HF.out.2.2.1 (by omega), fun _ => x.out⟩⟩
            case measure => simp [intOf]
          · have hj : judgeOf ⟨pn, pd, p0, p1, p2, p3, pday, ptime, pits, pm, pk⟩ ⟨true, sd, s0, s1, s2, s3, sday, stime, sst, sco, sbe⟩ = (79, 0) := by
              rw [judgeOf, if_neg (by simp), if_neg HD.out]
              have hi : identOf ⟨pn, pd, p0, p1, p2, p3, pday, ptime, pits, pm, pk⟩ ⟨true, sd, s0, s1, s2, s3, sday, stime, sst, sco, sbe⟩ = some 79 := by
                simp only [identOf]
                rw [if_neg (fine_not (HF.out.1 (by omega)))]; rw [if_neg (fine_not (HF.out.2.1 (by omega)))]; rw [if_neg (fine_not (HF.out.2.2.1 (by omega)))]; rw [if_pos x.out]
              rw [hi]
            have HJ := Lib.hid hj
            clear hj
            go_wp2_with fail
            go_quiet (fail)
            go_wp2_with fail
            go_ret2
            exact ⟨ret_j (by rw [HJ.out]; rfl) (by rw [HJ.out]), by (repeat' (first | (with_reducible exact Frm.refl _ _) | (with_reducible assumption) | (with_reducible refine Frm.alloc ?_ _) | (with_reducible refine Frm.drew ?_) | (with_reducible refine Frm.drewN ?_ _) | (with_reducible refine Frm.set1 ?_ _) | (with_reducible refine Frm.setCell ?_ ?_ _) | (exact fun h => absurd h (Nat.lt_irrefl _)) | (intro hlt; simp [World.size_alloc, One] at hlt ⊢; omega)))⟩
        · have hj : judgeOf ⟨pn, pd, p0, p1, p2, p3, pday, ptime, pits, pm, pk⟩ ⟨true, sd, s0, s1, s2, s3, sday, stime, sst, sco, sbe⟩ = lateOf ⟨pn, pd, p0, p1, p2, p3, pday, ptime, pits, pm, pk⟩ ⟨true, sd, s0, s1, s2, s3, sday, stime, sst, sco, sbe⟩ := by
            rw [judgeOf, if_neg (by simp), if_neg HD.out]
            have hi : identOf ⟨pn, pd, p0, p1, p2, p3, pday, ptime, pits, pm, pk⟩ ⟨true, sd, s0, s1, s2, s3, sday, stime, sst, sco, sbe⟩ = none := by
              simp only [identOf]
              rw [if_neg (fine_not (HF.out.1 (by omega))), if_neg (fine_not (HF.out.2.1 (by omega))), if_neg (fine_not (HF.out.2.2.1 (by omega))), if_neg (fine_not (HF.out.2.2.2 (by omega)))]
            rw [hi]
          have HJ := Lib.hid hj
          clear hj
          go_wp2_with fail
          all_goals
            go_ret2
            refine ⟨?_, by (repeat' (first | (with_reducible exact Frm.refl _ _) | (with_reducible assumption) | (with_reducible refine Frm.alloc ?_ _) | (with_reducible refine Frm.drew ?_) | (with_reducible refine Frm.drewN ?_ _) | (with_reducible refine Frm.set1 ?_ _) | (with_reducible refine Frm.setCell ?_ ?_ _) | (exact fun h => absurd h (Nat.lt_irrefl _)) | (intro hlt; simp [World.size_alloc, One] at hlt ⊢; omega)))⟩
            rw [HJ.out]
            have e2 := HN.out
            clear HN HJ HF HD hk
            go_light
            subst e2
            refine ret_j ?_ ?_
            all_goals (simp [lateOf] at *; (try simp_all); (try ((repeat' split) <;> first | rfl | omega | simp_all)))
end Go.Proofs.Ytjjmkpjclhielaa
