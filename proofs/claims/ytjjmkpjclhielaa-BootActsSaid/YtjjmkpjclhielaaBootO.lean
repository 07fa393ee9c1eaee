/-
  May; Status; Halted.
-/
import Derived.Test.YtjjmkpjclhielaaBootN
namespace Go.Proofs.Ytjjmkpjclhielaa
open Go.RowKit
set_option linter.unusedVariables false

/-- A node that must be there, and does not run. -/
def Nd.bad (x : Nd) : Bool := x.p.mand && (x.is != 1)
set_option maxHeartbeats 1000000 in
theorem may1_any (p : Nat) (x : Nd) (w : World) (h : NodeAt w p x) : Calls Try.prog 32 #[ptr p] w fun e w' => e = .returned (.bool x.bad) ∧ w' = w := by
  obtain ⟨r0, r1, r2, _, _⟩ := h.read
  clear h r0
  obtain ⟨⟨pn, pd, p0, p1, p2, p3, pday, ptime, pits, pm, pk⟩, xis, xlk, xst⟩ := x
  simp only at r1 r2
  unfold ptr Nd.bad
  simp only
  cases pm with
  | false =>
    go_enter Try.func32, Try.ntmps32
    go_wp2_with fail
    go_ret
    exact ⟨by simp, rfl⟩
  | true =>
    go_enter Try.func32, Try.ntmps32
    go_wp2_with fail
    all_goals
      go_ret
      refine ⟨?_, rfl⟩
      simp_all

def IdxNo2 (w : World) (e : Ending) (w' : World) : Prop := e = .returned (.int .i64 (-1)) ∧ ∃ m, w' = w.drewN m
def IdxYes2 (w : World) (e : Ending) (w' : World) : Prop := (∃ k : Nat, k ≤ 9223372036854775807 ∧ e = .returned (.int .i64 k)) ∧ ∃ m, w' = w.drewN m

/-- The slice of nodes, as the walk reads it. -/
def PtrsAt (w : World) (A : Option Addr) (l : List (Nat × Nd)) : Prop := ∀ k (hk : k < l.length), ∃ g, A = some ⟨g, 0, none⟩ ∧ w.cell? ⟨g, k, none⟩ = some (ptr l[k].1)

set_option maxRecDepth 100000 in
set_option maxHeartbeats 1000000 in
theorem idxN_no (A : Option Addr) (cap : Nat) (l : List (Nat × Nd)) (w : World) (hm : l.length ≤ 9223372036854775807) (hA : PtrsAt w A l) (hel : ∀ i (hi : i < l.length), NodeAt w l[i].1 l[i].2) (hb : ∀ q ∈ l, q.2.bad = false) :
    Calls Try.prog 38 #[.slice A l.length cap, .func (.func 32) #[] #[]] w (IdxNo2 w) := by
  have HA := Lib.hid hA
  have HE := Lib.hid hel
  have HB := Lib.hid hb
  clear hA hel hb
  go_enter Try.func38, Try.ntmps38
  go_wp2
  go_loopw [5, 8] (fun _ i wr => ∃ k m : Nat, k ≤ l.length ∧ i = .int .i64 k ∧ wr = w.drewN m) (fun _ i _ => l.length - (intOf i).toNat)
  case atStart => exact ⟨0, 0, Nat.zero_le _, rfl, rfl⟩
  case round =>
    obtain ⟨k, m, hk, rfl, rfl⟩ := hrel
    by_cases hlt : k < l.length
    · obtain ⟨g, rfl, ck⟩ := HA.out k hlt
      have hx := HE.out k hlt
      have hbk := HB.out _ (List.getElem_mem hlt)
      generalize l[k] = q at *
      obtain ⟨p, x⟩ := q
      simp only at hx hbk ck
      have H1 := Lib.hid (fun m => may1_any p x (w.drewN m) (hx.frm (S := fun _ => False) (Frm.drewN (Frm.refl _ _) _) (fun h => h)))
      rw [hbk] at H1
      clear hx hbk
      unfold ptr at *
      go_wp2_with (go_at_call 32; refine (H1.out _).mono ?_; rintro e w' ⟨rfl, hw'⟩; subst w')
      go_roundw
      case rel => exact ⟨k + 1, _, by omega, by go_num, rfl⟩
      case measure => simp [intOf]; omega
    · go_wp2
      go_ret
      exact ⟨rfl, _, rfl⟩
set_option maxRecDepth 100000 in
set_option maxHeartbeats 1000000 in
theorem idxN_yes (A : Option Addr) (cap : Nat) (l : List (Nat × Nd)) (w : World) (hm : l.length ≤ 9223372036854775807) (hA : PtrsAt w A l) (hel : ∀ i (hi : i < l.length), NodeAt w l[i].1 l[i].2) (hb : ∃ q ∈ l, q.2.bad = true) :
    Calls Try.prog 38 #[.slice A l.length cap, .func (.func 32) #[] #[]] w (IdxYes2 w) := by
  obtain ⟨x, hx, hx2⟩ := hb
  obtain ⟨z, hz, rfl⟩ := List.getElem_of_mem hx
  have HA := Lib.hid hA
  have HE := Lib.hid hel
  have HX := Lib.hid hx2
  clear hA hel hx hx2
  go_enter Try.func38, Try.ntmps38
  go_wp2
  go_loopw [5, 8] (fun _ i wr => ∃ k m : Nat, k ≤ z ∧ i = .int .i64 k ∧ wr = w.drewN m) (fun _ i _ => l.length - (intOf i).toNat)
  case atStart => exact ⟨0, 0, Nat.zero_le _, rfl, rfl⟩
  case round =>
    obtain ⟨k, m, hk, rfl, rfl⟩ := hrel
    have hlt : k < l.length := by omega
    obtain ⟨g, rfl, ck⟩ := HA.out k hlt
    have hx := HE.out k hlt
    have hkq : k < z ∨ l[k].2.bad = true := by
      rcases Nat.lt_or_ge k z with h | h
      · exact .inl h
      · obtain rfl : k = z := by omega
        exact .inr HX.out
    generalize l[k] = q at *
    obtain ⟨p, x⟩ := q
    simp only at hx hkq ck
    have H1 := Lib.hid (fun m => may1_any p x (w.drewN m) (hx.frm (S := fun _ => False) (Frm.drewN (Frm.refl _ _) _) (fun h => h)))
    clear hx
    unfold ptr at *
    cases hb : x.bad with
    | true =>
      rw [hb] at H1
      clear hkq hb
      go_wp2_with (go_at_call 32; refine (H1.out _).mono ?_; rintro e w' ⟨rfl, hw'⟩; subst w')
      go_ret
      exact ⟨⟨k, by omega, rfl⟩, _, rfl⟩
    | false =>
      rw [hb] at H1
      have hkz : k < z := by simpa [hb] using hkq
      clear hkq hb
      go_wp2_with (go_at_call 32; refine (H1.out _).mono ?_; rintro e w' ⟨rfl, hw'⟩; subst w')
      go_roundw
      case rel => exact ⟨k + 1, _, by omega, by go_num, rfl⟩
      case measure => simp [intOf]; omega

set_option maxHeartbeats 1000000 in
theorem contN_any (A : Option Addr) (cap : Nat) (l : List (Nat × Nd)) (w : World) (hm : l.length ≤ 9223372036854775807) (hA : PtrsAt w A l) (hel : ∀ i (hi : i < l.length), NodeAt w l[i].1 l[i].2) :
    Calls Try.prog 31 #[.slice A l.length cap, .func (.func 32) #[] #[]] w fun e w' => e = .returned (.bool (l.any (·.2.bad))) ∧ ∃ m, w' = w.drewN m := by
  cases hb : l.any (·.2.bad) with
  | true =>
    have H := Lib.hid (idxN_yes A cap l w hm hA hel (by simpa [List.any_eq_true] using hb))
    clear hA hel hb
    go_enter Try.func31, Try.ntmps31
    go_wp2_with (go_at_call 38; refine H.out.mono ?_; rintro e w' ⟨⟨k, hk, rfl⟩, m, rfl⟩)
    go_ret
    exact ⟨rfl, _, rfl⟩
  | false =>
    have H := Lib.hid (idxN_no A cap l w hm hA hel (by simpa [List.any_eq_false] using hb))
    clear hA hel hb
    go_enter Try.func31, Try.ntmps31
    go_wp2_with (go_at_call 38; refine H.out.mono ?_; rintro e w' ⟨rfl, m, rfl⟩)
    go_ret
    exact ⟨rfl, _, rfl⟩

def MayP (r : Bool) (w : World) (e : Ending) (w' : World) : Prop := e = .returned (.bool r) ∧ ∃ m, w' = w.drewN m
theorem mayOf_eq (l : List (Nat × Nd)) (t : Int) (hh : Bool) : mayOf ⟨nds l, t, hh⟩ = (!hh && !(l.any (·.2.bad))) := by
  unfold mayOf nds
  simp only [List.any_map]
  rfl

set_option maxRecDepth 100000 in
set_option maxHeartbeats 1000000 in
theorem may_any (b : Nat) (l : List (Nat × Nd)) (t : Int) (hh : Bool) (w : World) (h : BAt w b l t hh) : Calls Try.prog 13 #[ptr b] w (MayP (mayOf ⟨nds l, t, hh⟩) w) := by
  obtain ⟨A, cap, hO, hm, hA⟩ := h.open_
  have c0 : w.cell? ⟨b, 0, none⟩ = some (.slice A l.length cap) := cell_at hO
  have c2 : w.cell? ⟨b, 2, none⟩ = some (.bool hh) := cell_at hO
  have H := Lib.hid (contN_any A cap l w hm hA h.el)
  rw [mayOf_eq]
  clear hA h hO hm
  generalize l.any (·.2.bad) = r at *
  unfold ptr
  cases hh with
  | true =>
    go_enter Try.func13, Try.ntmps13
    go_wp2_with fail
    go_ret
    exact ⟨rfl, 0, rfl⟩
  | false =>
    go_enter Try.func13, Try.ntmps13
    go_wp2_with (go_at_call 31; refine H.out.mono ?_; rintro e w' ⟨rfl, m, rfl⟩)
    go_ret
    refine ⟨?_, _, rfl⟩
    cases r <;> rfl

set_option maxHeartbeats 1000000 in
theorem halted_any (b : Nat) (l : List (Nat × Nd)) (t : Int) (hh : Bool) (w : World) (h : BAt w b l t hh) : Calls Try.prog 17 #[ptr b] w fun e w' => e = .returned (.bool hh) ∧ w' = w := by
  obtain ⟨A, cap, hO, hm, hA⟩ := h.open_
  have c2 : w.cell? ⟨b, 2, none⟩ = some (.bool hh) := cell_at hO
  clear hA h hO hm
  unfold ptr
  go_enter Try.func17, Try.ntmps17
  go_wp2_with fail
  go_ret
  exact ⟨rfl, rfl⟩

/-- What Status says of a node. -/
def statusOf (l : List Nd) (n : Int) : Int × Int × Bool := match placeN l n with
  | none => (0, 0, false)
  | some k => match l[k]? with
    | none => (0, 0, false)
    | some x => (x.status, x.looked, true)

def StatusP (r : Int × Int × Bool) (w : World) (e : Ending) (w' : World) : Prop := e = .returned (.tuple #[.int .u8 r.1, .int .i64 r.2.1, .bool r.2.2]) ∧ Frm (fun _ => False) w w'

set_option maxRecDepth 100000 in
set_option maxHeartbeats 1000000 in
theorem status_any (b : Nat) (l : List (Nat × Nd)) (t : Int) (hh : Bool) (n : Int) (w : World) (h : BAt w b l t hh) : Calls Try.prog 18 #[ptr b, .int .i64 n] w (StatusP (statusOf (nds l) n) w) := by
  cases hp : placeN (nds l) n with
  | none =>
    have H := Lib.hid (of_none h hp)
    have E : Hid (statusOf (nds l) n = (0, 0, false)) := by unfold Hid statusOf; rw [hp]
    clear hp h
    unfold ptr at *
    go_enter Try.func18, Try.ntmps18
    go_wp2_with (go_at_call 26; refine H.out.mono ?_; rintro e w' ⟨rfl, m, rfl⟩)
    go_ret3
    exact ⟨by rw [E.out]; rfl, by (repeat' (first | (with_reducible exact Frm.refl _ _) | (with_reducible assumption) | (with_reducible refine Frm.alloc ?_ _) | (with_reducible refine Frm.drew ?_) | (with_reducible refine Frm.drewN ?_ _) | (with_reducible refine Frm.set1 ?_ _) | (with_reducible refine Frm.setCell ?_ ?_ _) | (exact fun h => absurd h (Nat.lt_irrefl _)) | (intro hlt; simp [World.size_alloc, One] at hlt ⊢; omega)))⟩
  | some k =>
    obtain ⟨hk, hkn, hc⟩ := of_some h hp
    have H := Lib.hid hc
    obtain ⟨_, _, _, r3, r4⟩ := (h.el k hk).read
    have E : Hid (statusOf (nds l) n = (l[k].2.status, l[k].2.looked, true)) := by unfold Hid statusOf; rw [hp]; simp only; rw [nds_get hk]
    have hlt := World.block_lt_of_cell? w _ r3
    clear hp h hc hkn
    generalize l[k] = q at *
    obtain ⟨p, x⟩ := q
    simp only at r3 r4 hlt E
    generalize x.status = a1 at *
    generalize x.looked = a2 at *
    unfold ptr at *
    go_enter Try.func18, Try.ntmps18
    go_wp2_with (go_at_call 26; refine H.out.mono ?_; rintro e w' ⟨rfl, m, rfl⟩)
    go_quiet (fail)
    go_wp2_with fail
    go_ret3
    exact ⟨by rw [E.out]; rfl, by (repeat' (first | (with_reducible exact Frm.refl _ _) | (with_reducible assumption) | (with_reducible refine Frm.alloc ?_ _) | (with_reducible refine Frm.drew ?_) | (with_reducible refine Frm.drewN ?_ _) | (with_reducible refine Frm.set1 ?_ _) | (with_reducible refine Frm.setCell ?_ ?_ _) | (exact fun h => absurd h (Nat.lt_irrefl _)) | (intro hlt; simp [World.size_alloc, One] at hlt ⊢; omega)))⟩
end Go.Proofs.Ytjjmkpjclhielaa
