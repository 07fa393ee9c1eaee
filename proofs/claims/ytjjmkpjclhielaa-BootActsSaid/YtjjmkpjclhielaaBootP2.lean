/-
  The document's May; both sides' Lost.
-/
import Derived.Test.YtjjmkpjclhielaaBootP1
import Derived.Test.YtjjmkpjclhielaaBootG
namespace Go.Proofs.Ytjjmkpjclhielaa
open Go.RowKit
set_option linter.unusedVariables false

set_option maxRecDepth 100000 in
set_option maxHeartbeats 1000000 in
theorem rmay_any (N d ib lb sb : Nat) (vl : Value) (xs : List Pla) (l : List Nd) (t : Int) (hh : Bool) (w : World) (h : RAt N w d ib lb sb vl xs l t hh) : Calls Try.prog 36 #[ptr d] w fun e w' => e = .returned (.bool (mayOf ⟨l, t, hh⟩)) ∧ w' = w := by
  have hvl : ∃ A cap, vl = .slice A l.length cap ∧ l.length ≤ 9223372036854775807 := by
    obtain ⟨A, cap, hv, h1, h2, _⟩ := h.ps
    exact ⟨A, cap, by rw [hv, h.len], by rw [h.len]; exact Nat.le_trans h1 h2⟩
  obtain ⟨A, cap, rfl, hm⟩ := hvl
  have c0 : w.cell? ⟨d, 0, none⟩ = some (.slice A l.length cap) := cell_at h.hd
  have c1 : w.cell? ⟨d, 1, none⟩ = some (.slice (some ⟨ib, 0, none⟩) l.length l.length) := cell_at h.hd
  have c5 : w.cell? ⟨d, 5, none⟩ = some (.bool hh) := cell_at h.hd
  have H := Lib.hid h
  clear h
  unfold ptr
  go_enter Try.func36, Try.ntmps36
  go_wp2_with fail
  go_loopw [3] (fun i wr => ∃ k : Nat, k ≤ l.length ∧ i = .int .i64 k ∧ wr = w ∧ ∀ j (hj : j < l.length), j < k → l[j].bad = false) (fun i _ => l.length - (intOf i).toNat)
  case atStart => exact ⟨0, Nat.zero_le _, rfl, rfl, fun j hj h => absurd h (by omega)⟩
  case round =>
    obtain ⟨k, hk, rfl, rfl, hno⟩ := hrel
    have HNO := Lib.hid hno
    clear hno
    by_cases hlt : k < l.length
    · obtain ⟨r1, _, _, g, off, cap2, hv, _, hmd⟩ := H.out.read hlt
      simp only [Value.slice.injEq] at hv
      obtain ⟨rfl, _, rfl⟩ := hv
      have hlti : (k : Int) < (l.length : Int) := by omega
      have hlt0 : (0 : Int) ≤ (k : Int) := by omega
      have HB : Hid (∀ h : k < l.length, (l[k]'h).bad = ((l[k]'h).p.mand && ((l[k]'h).is != 1))) := fun _ => rfl
      have HX : Hid (∃ x, ∃ h : k < l.length, l[k]'h = x) := ⟨_, hlt, rfl⟩
      obtain ⟨x, hxx⟩ : ∃ x, x = l[k] := ⟨_, rfl⟩
      have HXX := Lib.hid hxx
      rw [← hxx] at r1 hmd
      clear hxx
      obtain ⟨⟨pn, pd, p0, p1, p2, p3, pday, ptime, pits, pm, pk⟩, xis, xlk, xst⟩ := x
      simp only at r1 hmd
      cases pm with
      | false =>
        have E : Hid (∀ h : k < l.length, (l[k]'h).bad = false) := fun h => by rw [← HXX.out]; rfl
        go_wp2_with fail
        go_roundw
        case rel =>
          refine ⟨k + 1, by omega, by go_num, by first | rfl | trivial, fun j hj hjk => ?_⟩
          by_cases e : j = k
          · subst e; exact E.out hj
          · exact HNO.out j hj (by omega)
        case measure => simp [intOf]; omega
      | true =>
        by_cases h1 : xis = 1
        · have b1 : (xis != 1) = false := by simpa using h1
          have E : Hid (∀ h : k < l.length, (l[k]'h).bad = false) := fun h => by rw [← HXX.out]; simp [Nd.bad, h1]
          clear h1
          go_wp2_with fail
          go_roundw
          case rel =>
            refine ⟨k + 1, by omega, by go_num, by first | rfl | trivial, fun j hj hjk => ?_⟩
            by_cases e : j = k
            · subst e; exact E.out hj
            · exact HNO.out j hj (by omega)
          case measure => simp [intOf]; omega
        · have b1 : (xis != 1) = true := by simpa using h1
          have E : Hid (mayOf ⟨l, t, hh⟩ = false) := by
            unfold Hid mayOf
            have : (l.any fun x => x.p.mand && !(x.is == 1)) = true := by
              rw [List.any_eq_true]
              exact ⟨l[k], List.getElem_mem hlt, by rw [← HXX.out]; simp [h1]⟩
            simp [this]
          clear h1
          go_wp2_with fail
          go_ret
          exact ⟨by rw [E.out]; rfl, rfl⟩
    · have E : Hid (mayOf ⟨l, t, hh⟩ = !hh) := by
        unfold Hid mayOf
        have : (l.any fun x => x.p.mand && !(x.is == 1)) = false := by
          rw [List.any_eq_false]
          intro x hx
          obtain ⟨j, hj, rfl⟩ := List.getElem_of_mem hx
          have := HNO.out j hj (by omega)
          simpa [Nd.bad] using this
        simp [this]
      go_wp2_with fail
      go_ret
      exact ⟨by rw [E.out]; rfl, rfl⟩
end Go.Proofs.Ytjjmkpjclhielaa
