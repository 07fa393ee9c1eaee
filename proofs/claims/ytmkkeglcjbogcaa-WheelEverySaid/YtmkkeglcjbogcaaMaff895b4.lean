/-
  The wheel as a function: what its calls keep; a wheel with one timer. The wheel's laws: two wheels side by side. WheelSlots: the law. From a walk to a law's row: the arguments, opened; the row, closed. The arguments of a law, opened: what lies in memory where the form reads a datum. Slices of structs, opened. What the wheel's acts read as. WheelEvery: the law.
-/
import Derived.Deep.CutBlock
import Derived.Test.YtmkkeglcjbogcaaRows
import Derived.HandedShaped
import Derived.Deep.CondSized
import Derived.JoinedCond
import Derived.Deep.Slices
import Derived.Test.YtmkkeglcjbogcaaM915ebada
import Derived.Test.YtmkkeglcjbogcaaM6a490ed4
import Derived.Test.YtmkkeglcjbogcaaMad794d42
import Derived.Test.YtmkkeglcjbogcaaMc1e7d997
set_option linter.unusedVariables false
set_option linter.unusedSimpArgs false
namespace Go.Proofs.Ytmkkeglcjbogcaa
set_option linter.unusedVariables false
set_option linter.unusedSimpArgs false

theorem stop_ok {s : Wh} {e : Int} (h : s.ok) (he : s.now ≤ e) (hc : s.next.2 = false ∨ e - s.now < s.next.1) : Wh.ok ⟨s.tm, e, s.last⟩ := by
  refine ⟨h.srt, h.lo, fun t ht => ?_, h.per, h.len, by have := h.now; show 0 ≤ e; omega⟩
  have h1 := h.due t ht
  show e < t.due ∧ t.due ≤ e + 4294967296
  cases hx : s.next.2 with
  | false =>
    have : s.tm = [] := by
      unfold Wh.next at hx
      cases htm : s.tm with
      | nil => rfl
      | cons x r => rw [htm] at hx; cases hx
    rw [this] at ht; cases ht
  | true =>
    have h2 := (next_facts h hx).2.2 t ht
    rcases hc with hc | hc
    · rw [hx] at hc; cases hc
    · omega
theorem run_facts (e : Int) (f : Nat) (s : Wh) (told : List Int) (h : s.ok) (he : s.now ≤ e) (hf : e - s.now < f) : (Wh.run e f s told).1.ok ∧ (Wh.run e f s told).1.last = s.last ∧ (Wh.run e f s told).1.now = e := by
  induction f generalizing s told with
  | zero => omega
  | succ f ih =>
    unfold Wh.run
    by_cases hc : s.next.2 = false ∨ e - s.now < s.next.1
    · rw [if_pos hc]
      exact ⟨stop_ok h he hc, rfl, rfl⟩
    · rw [if_neg hc]
      have hx : s.next.2 = true := by
        cases hx : s.next.2 with
        | true => rfl
        | false => exact absurd (.inl hx) hc
      have hl : s.next.1 ≤ e - s.now := Int.not_lt.1 (fun h => hc (.inr h))
      have h1 := next_facts h hx
      obtain ⟨r1, r2, r3⟩ := ih (Wh.fires ⟨s.tm, s.now + s.next.1, s.last⟩ told).1 (Wh.fires ⟨s.tm, s.now + s.next.1, s.last⟩ told).2 (step_ok told h hx) (by show s.now + s.next.1 ≤ e; omega) (by show e - (s.now + s.next.1) < f; omega)
      exact ⟨r1, r2, r3⟩
theorem tick_facts (s : Wh) (x : Int) (h : s.ok) (hx : 0 ≤ x) : (s.tick x).1.ok ∧ (s.tick x).1.last = s.last ∧ (s.tick x).1.now = s.now + min x 1048576 :=
  run_facts _ _ s [] h (by omega) (by omega)
/-- A wheel that was used k times, at most m ticks a time. -/
structure Wh.used (s : Wh) (m k : Nat) : Prop where
  (ok : s.ok) (last : 0 ≤ s.last ∧ s.last ≤ k) (now : s.now ≤ m * k)
theorem Wh.used.le {s : Wh} {m k : Nat} (h : s.used m k) : s.used m (k + 1) := ⟨h.ok, ⟨h.last.1, by have := h.last.2; omega⟩, by have := h.now; rw [Int.natCast_add, Int.mul_add]; omega⟩
theorem adds_used {s : Wh} {m k : Nat} (after per what : Int) (h : s.used m k) (ha : 1 ≤ after ∧ after ≤ 4294967296) (hp : 0 ≤ per ∧ per ≤ 4294967296) : (s.adds after per what).1.used m (k + 1) := by
  refine ⟨adds_ok after per what h.ok ha hp h.last.1, ?_, ?_⟩
  · unfold Wh.adds
    split
    · exact h.le.last
    · have := h.last
      show 0 ≤ s.last + 1 ∧ s.last + 1 ≤ ((k + 1 : Nat) : Int)
      omega
  · unfold Wh.adds
    split
    · exact h.le.now
    · exact h.le.now
theorem add_used {s : Wh} {m k : Nat} (after what : Int) (h : s.used m k) : (s.add after what).1.used m (k + 1) := by
  unfold Wh.add
  split
  · rename_i hw
    exact adds_used after 0 what h (by unfold withinW at hw; simpa using hw) ⟨by omega, by omega⟩
  · exact h.le
theorem every_used {s : Wh} {m k : Nat} (first per what : Int) (h : s.used m k) : (s.every first per what).1.used m (k + 1) := by
  unfold Wh.every
  split
  · rename_i hw
    rw [Bool.and_eq_true] at hw
    obtain ⟨h1, h2⟩ := hw
    have a1 : 1 ≤ first ∧ first ≤ 4294967296 := by unfold withinW at h1; simpa using h1
    have a2 : 1 ≤ per ∧ per ≤ 4294967296 := by unfold withinW at h2; simpa using h2
    exact adds_used first per what h a1 ⟨by omega, a2.2⟩
  · exact h.le
theorem cancel_used {s : Wh} {m k : Nat} (no : Int) (h : s.used m k) : (s.cancel no).1.used m (k + 1) := ⟨cancel_ok no h.ok, h.le.last, h.le.now⟩
theorem tick_used {s : Wh} {m k : Nat} (x : Int) (h : s.used m k) (hx : 0 ≤ x) (hm : min x 1048576 ≤ m) : (s.tick x).1.used m (k + 1) := by
  obtain ⟨h1, h2, h3⟩ := tick_facts s x h.ok hx
  refine ⟨h1, by rw [h2]; exact h.le.last, ?_⟩
  rw [h3]
  have := h.now
  rw [Int.natCast_add, Int.mul_add]
  omega
theorem cancel_hit {s : Wh} {t : Tm} (h : s.ok) (ht : t ∈ s.tm) : (s.cancel t.no).2 = true ∧ s.tm.Perm (t :: (s.cancel t.no).1.tm) := by
  refine ⟨?_, ?_⟩
  · unfold Wh.cancel
    simp only [List.any_eq_true]
    exact ⟨t, ht, by simp⟩
  · show s.tm.Perm (t :: s.tm.filter (fun u => u.no != t.no))
    have hs := h.srt
    revert hs ht
    generalize s.tm = l
    intro ht hs
    induction l with
    | nil => cases ht
    | cons x r ih =>
      rw [List.pairwise_cons] at hs
      rcases List.mem_cons.1 ht with rfl | ht
      · rw [List.filter_cons_of_neg (by simp), List.filter_eq_self.2]
        intro u hu
        have := hs.1 u hu
        simp
        omega
      · have h1 := hs.1 t ht
        rw [List.filter_cons_of_pos (by simp; omega)]
        exact ((ih ht hs.2).cons x).trans (.swap _ _ _)
theorem cancel_miss {s : Wh} {x : Int} (h : ∀ t ∈ s.tm, t.no ≠ x) : s.cancel x = (s, false) := by
  unfold Wh.cancel
  have h1 : s.tm.filter (fun t => t.no != x) = s.tm := List.filter_eq_self.2 (fun t ht => by simp [h t ht])
  have h2 : s.tm.any (fun t => t.no == x) = false := by
    rw [Bool.eq_false_iff]
    intro e
    rw [List.any_eq_true] at e
    obtain ⟨t, ht, e⟩ := e
    exact h t ht (by simpa using e)
  rw [h1, h2]
theorem left_hit {s : Wh} {t : Tm} (h : s.ok) (ht : t ∈ s.tm) : s.left t.no = (t.due - s.now, true) := by
  have hs := h.srt
  unfold Wh.left
  have : s.tm.find? (fun u => u.no == t.no) = some t := by
    revert hs ht
    generalize s.tm = l
    intro ht hs
    induction l with
    | nil => cases ht
    | cons x r ih =>
      rw [List.pairwise_cons] at hs
      rcases List.mem_cons.1 ht with rfl | ht
      · rw [List.find?_cons_of_pos (by simp)]
      · have h1 := hs.1 t ht
        rw [List.find?_cons_of_neg (by simp; omega)]
        exact ih ht hs.2
  rw [this]
theorem left_miss {s : Wh} {x : Int} (h : ∀ t ∈ s.tm, t.no ≠ x) : s.left x = (0, false) := by
  unfold Wh.left
  have : s.tm.find? (fun u => u.no == x) = none := by
    rw [List.find?_eq_none]
    intro t ht
    simp [h t ht]
  rw [this]
/-- The only timer of a wheel, that runs out again and again. -/
theorem run_one (e q : Int) (hq : 1 ≤ q) : ∀ (f : Nat) (now d : Int) (told : List Int), now < d → now ≤ e → e - now < f → told.length + (e - now) < 65536 →
    Wh.run e f ⟨[⟨1, d, q, 3⟩], now, 1⟩ told = (⟨[⟨1, d + q * (if e < d then 0 else 1 + (e - d) / q), q, 3⟩], e, 1⟩, told ++ List.replicate (if e < d then 0 else 1 + (e - d) / q).toNat 3) := by
  intro f
  induction f with
  | zero => intro now d told h1 h2 h3; omega
  | succ f ih =>
    intro now d told h1 h2 h3 h4
    have hn : Wh.next ⟨[⟨1, d, q, 3⟩], now, 1⟩ = (d - now, true) := rfl
    unfold Wh.run
    rw [hn]
    simp only []
    by_cases hc : e - now < d - now
    · rw [if_pos (.inr hc), if_pos (by omega)]
      simp
    · rw [if_neg (by rintro (h | h); cases h; exact hc h)]
      have hde : ¬ e < d := by omega
      rw [if_neg hde]
      have hf : Wh.fires ⟨[⟨1, d, q, 3⟩], now + (d - now), 1⟩ told = (⟨[⟨1, d + q, q, 3⟩], d, 1⟩, told ++ [3]) := by
        rw [show now + (d - now) = d by omega]
        unfold Wh.fires fireT tellT
        have : told.length < 65536 := by omega
        simp [this, show 0 < q by omega]
      rw [hf]
      simp only []
      rw [ih d (d + q) (told ++ [3]) (by omega) (by omega) (by omega) (by rw [List.length_append, List.length_singleton]; omega)]
      by_cases h5 : e < d + q
      · rw [if_pos h5]
        have h6 : (e - d) / q = 0 := Int.ediv_eq_zero_of_lt (by omega) (by omega)
        rw [h6]
        simp
      · rw [if_neg h5]
        have h6 : (e - d) / q = 1 + (e - (d + q)) / q := by
          have : e - d = (e - (d + q)) + 1 * q := by omega
          rw [this, Int.add_mul_ediv_right _ _ (by omega)]
          omega
        rw [h6]
        have h7 : 0 ≤ (e - (d + q)) / q := Int.ediv_nonneg (by omega) (by omega)
        generalize (e - (d + q)) / q = z at h7 ⊢
        refine Prod.ext ?_ ?_
        · simp only [Wh.mk.injEq, and_true, List.cons.injEq, Tm.mk.injEq, true_and]
          rw [Int.mul_add q 1 (1 + z), Int.mul_one]
          omega
        · simp only [List.append_assoc]
          congr 1
          rw [show (1 + (1 + z)).toNat = (1 + z).toNat + 1 by omega]
          rfl
end Go.Proofs.Ytmkkeglcjbogcaa
namespace Go.Proofs.Ytmkkeglcjbogcaa
open Go.RowKit
set_option linter.unusedVariables false
set_option linter.unusedSimpArgs false

def CanPost (p n bw : Nat) (bs : List Nat) (r : Wh × Bool) (w : World) (e : Ending) (w' : World) : Prop := e = .returned (.bool r.2) ∧ WhAt w' p n bw bs r.1 ∧ Frm (WhS p bw bs) w w'
theorem wcancel_any (w : World) (p n bw : Nat) (bs : List Nat) (s : Wh) (x : Int) (h : WhAt w p n bw bs s) (hok : s.ok) : Calls Try.prog 46 #[ptrW p, .int .i64 x] w (CanPost p n bw bs (s.cancel x) w) := by
  by_cases hx : ∃ t ∈ s.tm, t.no = x
  · obtain ⟨t, ht, rfl⟩ := hx
    obtain ⟨h1, h2⟩ := cancel_hit hok ht
    refine (wcancel_hit w p n bw bs s t _ h h2).mono ?_
    rintro e w' ⟨rfl, hA, hF⟩
    exact ⟨by rw [h1], hA, hF.mono (fun _ _ h => .inr h)⟩
  · have hno : ∀ t ∈ s.tm, t.no ≠ x := fun t ht e => hx ⟨t, ht, e⟩
    refine (wcancel_miss w p n bw bs s x h hno).mono ?_
    rintro e w' ⟨rfl, rfl⟩
    rw [cancel_miss hno]
    exact ⟨rfl, h, Frm.refl _ _⟩
theorem wnewI_any (x : Int) (w : World) (h1 : 1 ≤ x) (h2 : x ≤ 4096) : Calls Try.prog 43 #[.int .i64 x] w (NewWPost x.toNat w) := by
  have e : x = ((x.toNat : Nat) : Int) := by omega
  have h := wnew_any x.toNat w (by omega) (by omega)
  rw [← e] at h
  exact h
theorem used_fits {s : Wh} {m k : Nat} (h : s.used m k) (hb : m * k ≤ 4611686018427387904) (hk : k ≤ 4611686018427387904) : s.fits := by
  refine ⟨h.ok, ⟨h.last.1, by have := h.last.2; omega⟩, ?_⟩
  have h1 := h.now
  have h2 : (m : Int) * (k : Int) = ((m * k : Nat) : Int) := by rw [Int.natCast_mul]
  rw [h2] at h1
  omega
/-- An act that was handed in. -/
structure WAc where
  (kind timer what a b : Int)
def encW (x : WAc) : List Value := [.int .i64 x.kind, .int .i64 x.timer, .int .i64 x.what, .int .u64 x.a, .int .u64 x.b]
theorem encW_len (x : WAc) : (encW x).length = 5 := rfl
/-- Two wheels at one state, apart, in new blocks. -/
structure Duo (W wr : World) (p1 n1 bw1 : Nat) (bs1 : List Nat) (p2 n2 bw2 : Nat) (bs2 : List Nat) (s : Wh) : Prop where
  a1 : WhAt wr p1 n1 bw1 bs1 s
  a2 : WhAt wr p2 n2 bw2 bs2 s
  sep : ∀ k, WhS p1 bw1 bs1 k → ¬ WhS p2 bw2 bs2 k
  lo1 : ∀ k, WhS p1 bw1 bs1 k → W.heap.size ≤ k
  lo2 : ∀ k, WhS p2 bw2 bs2 k → W.heap.size ≤ k
  frm : Frm (fun _ => False) W wr
theorem Duo.grow {W wr w2 : World} {p1 n1 bw1 p2 n2 bw2 : Nat} {bs1 bs2 : List Nat} {s : Wh} (h : Duo W wr p1 n1 bw1 bs1 p2 n2 bw2 bs2 s) (hF : Frm (fun _ => False) wr w2) : Duo W w2 p1 n1 bw1 bs1 p2 n2 bw2 bs2 s :=
  ⟨h.a1.grow hF, h.a2.grow hF, h.sep, h.lo1, h.lo2, h.frm.trans' hF⟩
/-- The first wheel goes ahead. -/
theorem Duo.one {W wr w2 : World} {p1 n1 bw1 p2 n2 bw2 : Nat} {bs1 bs2 : List Nat} {s : Wh} (h : Duo W wr p1 n1 bw1 bs1 p2 n2 bw2 bs2 s) (hF : Frm (WhS p1 bw1 bs1) wr w2) : WhAt w2 p2 n2 bw2 bs2 s :=
  h.a2.frm hF (fun k h2 h1 => h.sep k h1 h2) (fun k cur hc h1 => h.a1.row_not hc (by decide) h1)
/-- The second one follows. -/
theorem Duo.two {W wr w2 w3 : World} {p1 n1 bw1 p2 n2 bw2 : Nat} {bs1 bs2 : List Nat} {s s' : Wh} (h : Duo W wr p1 n1 bw1 bs1 p2 n2 bw2 bs2 s) (h1 : WhAt w2 p1 n1 bw1 bs1 s') (hF : Frm (WhS p1 bw1 bs1) wr w2) (h2 : WhAt w3 p2 n2 bw2 bs2 s') (hG : Frm (WhS p2 bw2 bs2) w2 w3) : Duo W w3 p1 n1 bw1 bs1 p2 n2 bw2 bs2 s' := by
  have h22 := h.one hF
  refine ⟨h1.frm hG (fun k => h.sep k) (fun k cur hc h2 => h22.row_not hc (by decide) h2), h2, h.sep, h.lo1, h.lo2, ?_⟩
  refine (h.frm.trans hF (fun i hi e => ?_)).trans hG (fun i hi e => ?_)
  · have := h.lo1 i e; omega
  · have := h.lo2 i e; omega
end Go.Proofs.Ytmkkeglcjbogcaa
namespace Go.Proofs.Ytmkkeglcjbogcaa
open Go.RowKit
open List (getElem_toArray getElem_cons_zero getElem_cons_succ setIfInBounds_toArray set_cons_zero set_cons_succ)
set_option linter.unusedVariables false
set_option linter.unusedSimpArgs false

/-- Behind an act: both wheels have done the same. -/
def SlCut (W : World) (p1 n1 bw1 : Nat) (bs1 : List Nat) (p2 n2 bw2 : Nat) (bs2 : List Nat) (k : Nat) (b : Value) (wx : World) : Prop := b = .bool true ∧ ∃ s, Duo W wx p1 n1 bw1 bs1 p2 n2 bw2 bs2 s ∧ s.used 500 (k + 1)
set_option maxRecDepth 100000 in
set_option maxHeartbeats 4000000 in
theorem wslots_any (a b : Int) (v : Value) (l : List WAc) (W : World) (ha : 0 ≤ a ∧ a ≤ 65535) (hb : 0 ≤ b ∧ b ≤ 65535) (h : SlAt encW 5 W v l) (hg : ∀ x ∈ l, 0 ≤ x.a ∧ 0 ≤ x.b) (hl : l.length ≤ 4398046511104) :
    Calls Try.prog 11 #[.int .u16 a, .int .u16 b, v] W fun e w' => e = .returned (.bool true) ∧ Frm (fun _ => False) W w' := by
  obtain ⟨ha0, ha1⟩ := ha
  obtain ⟨hb0, hb1⟩ := hb
  obtain ⟨A, cap, rfl, hc1, hc2, hcell⟩ := h
  obtain ⟨n, hn⟩ : ∃ n, n = l.length := ⟨_, rfl⟩
  rw [← hn] at hc1 hl ⊢
  have HN := Lib.hid hn
  have HL := Lib.hid hl
  have HG := Lib.hid hg
  have HCI := Lib.hid hcell
  have hnm : n ≤ 9223372036854775807 := by omega
  have HN1 := Lib.hid (wnewI_any (1 + a % 4096) W (by omega) (by omega))
  have HN2 := Lib.hid (fun W2 => wnewI_any (1 + b % 4096) W2 (by omega) (by omega))
  obtain ⟨n1, hn1⟩ : ∃ n1, n1 = (1 + a % 4096).toNat := ⟨_, rfl⟩
  obtain ⟨n2, hn2⟩ : ∃ n2, n2 = (1 + b % 4096).toNat := ⟨_, rfl⟩
  rw [← hn1] at HN1
  rw [← hn2] at HN2
  clear hn hg hcell hl hn1 hn2 hc1 hc2
  go_enter Try.func11, Try.ntmps11
  go_wp2_with (first
    | (go_at_call 43; refine HN1.out.mono ?_; clear HN1; rintro e w1 ⟨p1, bw1, bs1, rfl, hA1, hF1, hlo1⟩; have HA1 := Lib.hid hA1; have HF1 := Lib.hid hF1; have HLO1 := Lib.hid hlo1; unfold ptrW; clear hA1 hF1 hlo1)
    | (go_at_call 43; refine (HN2.out _).mono ?_; rintro e w2 ⟨p2, bw2, bs2, rfl, hA2, hF2, hlo2⟩; have HA2 := Lib.hid hA2; have HF2 := Lib.hid hF2; have HLO2 := Lib.hid hlo2; unfold ptrW; clear hA2 hF2 hlo2))
  try go_frame
  have hD0 : Duo W w2 p1 n1 bw1 bs1 p2 n2 bw2 bs2 ⟨[], 0, 0⟩ := ⟨HA1.out.grow HF2.out, HA2.out, fun k h1 h2 => by
    have := HA1.out.lt h1
    have := HLO2.out k h2
    omega, HLO1.out, fun k hk => by have := HLO2.out k hk; have := HF1.out.size; omega, HF1.out.trans' HF2.out⟩
  have HD0 := Lib.hid hD0
  have HU0 : Hid (Wh.used ⟨[], 0, 0⟩ 500 0) := ⟨fits0.ok, by decide, by decide⟩
  clear hD0
  go_loopw [11] (fun i wr => ∃ (k : Nat) (s : Wh), k ≤ n ∧ i = .int .i64 k ∧ Duo W wr p1 n1 bw1 bs1 p2 n2 bw2 bs2 s ∧ s.used 500 k) (fun i _ => n - (intOf i).toNat)
  case atStart => exact ⟨0, _, Nat.zero_le _, rfl, HD0.out, HU0.out⟩
  case round =>
    obtain ⟨k, s, hk, rfl, hD, hU⟩ := hrel
    have HD := Lib.hid hD
    have HU := Lib.hid hU
    by_cases hlt : k < n
    · have hkl : k < l.length := by rw [← HN.out]; exact hlt
      obtain ⟨g, off, rfl, hgl, hcc⟩ := HCI.out (by omega)
      have hgd := HG.out _ (List.getElem_mem hkl)
      have hrow := hcc k hkl
      have hsz := hD.frm.size
      have hF := hD.frm
      clear hcc
      generalize l[k] = x at *
      obtain ⟨kind, timer, what, aa, bb⟩ := x
      obtain ⟨haa, hbb⟩ := hgd
      simp only at haa hbb
      have HRW : Hid (wr.rangeAt g (off + k * 5) [.int .i64 kind, .int .i64 timer, .int .i64 what, .int .u64 aa, .int .u64 bb]) := fun j u hj => by
        have hj : (encW ⟨kind, timer, what, aa, bb⟩)[j]? = some u := hj
        have hj5 : j < 5 := by have := (List.getElem?_eq_some_iff.1 hj).1; rwa [encW_len] at this
        have h9 := hrow j hj5
        rw [hj] at h9
        exact hF.cell h9 (fun h => h)
      have hkn : (k : Int) < (n : Int) := by omega
      have hft := used_fits hU (by have := HL.out; omega) (by have := HL.out; omega)
      have HFT := Lib.hid hft
      have HLT : Hid (k + 1 ≤ n) := hlt
      have hgw : g < wr.heap.size := by omega
      clear hrow hD hU hF hft hkl
      go_upto_region 9 with (refine wpList_load_mid rfl 99 (.tmp 60) rfl g (off + k * 5) rfl _ _ HRW.out Try.underlying99 rfl (by kernel_rfl) ?_)
      have hwb : Frm (fun _ => False) wr (wr.alloc (.cells #[.int .i64 kind, .int .i64 timer, .int .i64 what, .int .u64 aa, .int .u64 bb] 99 (0, 0))) := (Frm.refl _ _).alloc _
      have hbx : (wr.alloc (.cells #[.int .i64 kind, .int .i64 timer, .int .i64 what, .int .u64 aa, .int .u64 bb] 99 (0, 0))).heap[wr.heap.size]? = some (.cells #[.int .i64 kind, .int .i64 timer, .int .i64 what, .int .u64 aa, .int .u64 bb] 99 (0, 0)) := heap_new wr _
      obtain ⟨wb, hwbe⟩ : ∃ wb, wb = wr.alloc (.cells #[.int .i64 kind, .int .i64 timer, .int .i64 what, .int .u64 aa, .int .u64 bb] 99 (0, 0)) := ⟨_, rfl⟩
      rw [← hwbe] at hwb hbx ⊢
      have hdb := HD.out.grow hwb
      have HDB := Lib.hid hdb
      have hnw : ¬ (WhS p1 bw1 bs1 wr.heap.size ∨ WhS p2 bw2 bs2 wr.heap.size) := by
        rintro (e | e)
        · exact hdb.a1.row_not hbx (by decide) e
        · exact hdb.a2.row_not hbx (by decide) e
      have HX := Lib.hid (fun (w3 : World) (hF : Frm (WhS p1 bw1 bs1) wb w3) => hF.heap hbx (fun e => hnw (.inl e)))
      have x0 : wb.cell? ⟨wr.heap.size, 0, none⟩ = some (.int .i64 kind) := cell_at hbx
      have x2 : wb.cell? ⟨wr.heap.size, 2, none⟩ = some (.int .i64 what) := cell_at hbx
      have x3 : wb.cell? ⟨wr.heap.size, 3, none⟩ = some (.int .u64 aa) := cell_at hbx
      have x4 : wb.cell? ⟨wr.heap.size, 4, none⟩ = some (.int .u64 bb) := cell_at hbx
      have HBX := Lib.hid hbx
      have HNW := Lib.hid hnw
      have HC := Lib.hid (fun W (h : Frm (fun k => WhS p1 bw1 bs1 k ∨ WhS p2 bw2 bs2 k) wb W) => (⟨(h.heap HBX.out HNW.out : W.heap[wr.heap.size]? = _), trivial⟩ : _ ∧ True))
      clear hwbe hwb hbx hdb hnw
      go_upto_block 2 with fail
      go_cut [13] (fun b wx => SlCut W p1 n1 bw1 bs1 p2 n2 bw2 bs2 k b wx)
      case first =>
        by_cases e0 : kind = 0
        · subst e0
          obtain ⟨s', m, g', hr⟩ : ∃ s' m g', s.add aa what = (s', m, g') := ⟨_, _, _, rfl⟩
          have HR := Lib.hid hr
          have HU2 := Lib.hid (add_used aa what HU.out)
          rw [hr] at HU2
          have HA1 := Lib.hid (wadd_any wb p1 n1 bw1 bs1 s aa what HDB.out.a1 HFT.out)
          rw [hr] at HA1
          unfold ptrW at HA1
          clear hr
          go_wp2_with (first | (go_at_call 44; (with_reducible refine HA1.out.mono ?_); clear HA1; rintro e w3 ⟨rfl, hA3, hF3⟩; have hx3 := HX.out w3 hF3; have y2 : w3.cell? ⟨wr.heap.size, 2, none⟩ = some (.int .i64 what) := cell_at hx3; have y3 : w3.cell? ⟨wr.heap.size, 3, none⟩ = some (.int .u64 aa) := cell_at hx3; have y4 : w3.cell? ⟨wr.heap.size, 4, none⟩ = some (.int .u64 bb) := cell_at hx3; have HB1 := Lib.hid (wadd_any w3 p2 n2 bw2 bs2 s aa what (HDB.out.one hF3) HFT.out); rw [HR.out] at HB1; unfold ptrW at HB1; have HA3 := Lib.hid hA3; have HF3 := Lib.hid hF3; clear hA3 hF3 hx3) | (go_at_call 44; refine HB1.out.mono ?_; rintro e w4 ⟨rfl, hA4, hF4⟩; have HA4 := Lib.hid hA4; have HF4 := Lib.hid hF4; clear hA4 hF4))
          go_meet
          exact ⟨rfl, s', HDB.out.two HA3.out HF3.out HA4.out HF4.out, HU2.out⟩
        have g0 : (kind == 0) = false := by simp [e0]
        by_cases e1 : kind = 1
        · subst e1
          obtain ⟨s', m, g', hr⟩ : ∃ s' m g', s.every aa bb what = (s', m, g') := ⟨_, _, _, rfl⟩
          have HR := Lib.hid hr
          have HU2 := Lib.hid (every_used aa bb what HU.out)
          rw [hr] at HU2
          have HA1 := Lib.hid (wevery_any wb p1 n1 bw1 bs1 s aa bb what HDB.out.a1 HFT.out)
          rw [hr] at HA1
          unfold ptrW at HA1
          clear hr g0 e0
          go_wp2_with (first | (go_at_call 45; (with_reducible refine HA1.out.mono ?_); clear HA1; rintro e w3 ⟨rfl, hA3, hF3⟩; have hx3 := HX.out w3 hF3; have y2 : w3.cell? ⟨wr.heap.size, 2, none⟩ = some (.int .i64 what) := cell_at hx3; have y3 : w3.cell? ⟨wr.heap.size, 3, none⟩ = some (.int .u64 aa) := cell_at hx3; have y4 : w3.cell? ⟨wr.heap.size, 4, none⟩ = some (.int .u64 bb) := cell_at hx3; have HB1 := Lib.hid (wevery_any w3 p2 n2 bw2 bs2 s aa bb what (HDB.out.one hF3) HFT.out); rw [HR.out] at HB1; unfold ptrW at HB1; have HA3 := Lib.hid hA3; have HF3 := Lib.hid hF3; clear hA3 hF3 hx3) | (go_at_call 45; refine HB1.out.mono ?_; rintro e w4 ⟨rfl, hA4, hF4⟩; have HA4 := Lib.hid hA4; have HF4 := Lib.hid hF4; clear hA4 hF4))
          go_meet
          exact ⟨rfl, s', HDB.out.two HA3.out HF3.out HA4.out HF4.out, HU2.out⟩
        have g1 : (kind == 1) = false := by simp [e1]
        by_cases e2 : kind = 2
        · subst e2
          obtain ⟨s', m, hr⟩ : ∃ s' m, s.cancel timer = (s', m) := ⟨_, _, rfl⟩
          have HR := Lib.hid hr
          have HU2 := Lib.hid (cancel_used timer HU.out)
          rw [hr] at HU2
          have x1 : wb.cell? ⟨wr.heap.size, 1, none⟩ = some (.int .i64 timer) := cell_at HBX.out
          have HC1 := Lib.hid (fun W (h : Frm (fun k => WhS p1 bw1 bs1 k ∨ WhS p2 bw2 bs2 k) wb W) => h.cell x1 HNW.out)
          have HA1 := Lib.hid (wcancel_any wb.drew p1 n1 bw1 bs1 s timer (HDB.out.a1.grow ((Frm.refl _ _).drew)) HFT.out.ok)
          rw [hr] at HA1
          unfold ptrW at HA1
          clear hr g0 e0 e1 x1 x2 x3 x4
          go_wp2_with fail
          refine wp_region_held_drew (S := fun W => Frm (fun k => WhS p1 bw1 bs1 k ∨ WhS p2 bw2 bs2 k) wb W) (by kernel_rfl) ((Frm.refl _ _).drew) (fun hHeld => ?_)
          refine wpAnyH_take (i := 0) (v := ?_) rfl (by kernel_rfl) (by kernel_rfl) (by kernel_rfl) (fun _ _ _ h => h) (Or.inl ⟨by rfl, ?_⟩) (by assumption) ?_; rotate_left; · (intro wq hSq; have hq := HC1.out wq hSq; go_split_ands; go_simp; (try with_reducible rfl))
          try simp only [Act.put, getElem_toArray, getElem_cons_zero, getElem_cons_succ, setIfInBounds_toArray, set_cons_zero, set_cons_succ]
          refine wpAnyH_take (i := 1) (v := ?_) rfl (by kernel_rfl) (by kernel_rfl) (by kernel_rfl) (fun _ _ _ h => h) (Or.inl ⟨by rfl, ?_⟩) (by assumption) ?_; rotate_left; · (intro wq hSq; have hq := HC1.out wq hSq; go_split_ands; go_simp; (try with_reducible rfl))
          try simp only [Act.put, getElem_toArray, getElem_cons_zero, getElem_cons_succ, setIfInBounds_toArray, set_cons_zero, set_cons_succ]
          refine wpAnyH_take (i := 2) (v := ?_) rfl (by kernel_rfl) (by kernel_rfl) (by kernel_rfl) (fun _ _ _ h => h) (Or.inl ⟨by rfl, ?_⟩) (by assumption) ?_; rotate_left; · (intro wq hSq; have hq := HC1.out wq hSq; go_split_ands; go_simp; (try with_reducible rfl))
          try simp only [Act.put, getElem_toArray, getElem_cons_zero, getElem_cons_succ, setIfInBounds_toArray, set_cons_zero, set_cons_succ]
          refine wpAnyH_take (i := 4) (v := ?_) rfl (by kernel_rfl) (by kernel_rfl) (by kernel_rfl) (fun _ _ _ h => h) (Or.inl ⟨by rfl, ?_⟩) (by assumption) ?_; rotate_left; · (intro wq hSq; have hq := HC1.out wq hSq; go_split_ands; go_simp; (try with_reducible rfl))
          try simp only [Act.put, getElem_toArray, getElem_cons_zero, getElem_cons_succ, setIfInBounds_toArray, set_cons_zero, set_cons_succ]
          refine wpAnyH_take (i := 5) (v := ?_) rfl (by kernel_rfl) (by kernel_rfl) (by kernel_rfl) (fun _ _ _ h => h) (Or.inl ⟨by rfl, ?_⟩) (by assumption) ?_; rotate_left; · (intro wq hSq; have hq := HC1.out wq hSq; go_split_ands; go_simp; (try with_reducible rfl))
          try simp only [Act.put, getElem_toArray, getElem_cons_zero, getElem_cons_succ, setIfInBounds_toArray, set_cons_zero, set_cons_succ]
          refine wpAnyH_take (i := 6) (v := ?_) rfl (by kernel_rfl) (by kernel_rfl) (by kernel_rfl) (fun _ _ _ h => h) (Or.inl ⟨by rfl, ?_⟩) (by assumption) ?_; rotate_left; · (intro wq hSq; have hq := HC1.out wq hSq; go_split_ands; go_simp; (try with_reducible rfl))
          try simp only [Act.put, getElem_toArray, getElem_cons_zero, getElem_cons_succ, setIfInBounds_toArray, set_cons_zero, set_cons_succ]
          refine wpAnyH_ready (rs := [3]) (by kernel_rfl) (by simp) ?_
          refine AllReadyH.cons rfl (fun K hK => ?_) AllReadyH.nil
          try simp only [getElem_toArray, getElem_cons_zero, getElem_cons_succ]
          go_simp
          refine HA1.out.mono ?_
          rintro e w3 ⟨rfl, hA3, hF3⟩
          have HB1 := Lib.hid (wcancel_any w3 p2 n2 bw2 bs2 s timer ((HDB.out.grow ((Frm.refl _ _).drew)).one hF3) HFT.out.ok)
          rw [HR.out] at HB1
          unfold ptrW at HB1
          have HA3 := Lib.hid hA3
          have HF3 := Lib.hid hF3
          clear hA3 hF3
          go_wp2_with fail
          refine hK.out _ _ (hHeld.trans HF3.out (fun _ _ h => .inl h)) (fun hHeld => ?_)
          clear hK K
          try simp only [Act.put, setIfInBounds_toArray, set_cons_zero, set_cons_succ]
          refine wpAnyH_ready (rs := [7]) (by kernel_rfl) (by simp) ?_
          refine AllReadyH.cons rfl (fun K hK => ?_) AllReadyH.nil
          try simp only [getElem_toArray, getElem_cons_zero, getElem_cons_succ]
          go_simp
          refine HB1.out.mono ?_
          rintro e w4 ⟨rfl, hA4, hF4⟩
          have HA4 := Lib.hid hA4
          have HF4 := Lib.hid hF4
          clear hA4 hF4
          go_wp2_with fail
          refine hK.out _ _ (hHeld.trans HF4.out (fun _ _ h => .inr h)) (fun hHeld => ?_)
          clear hK K
          try simp only [Act.put, setIfInBounds_toArray, set_cons_zero, set_cons_succ]
          refine wpAnyH_take (i := 8) (v := ?_) rfl (by kernel_rfl) (by kernel_rfl) (by kernel_rfl) (fun _ _ _ h => h) (Or.inl ⟨by rfl, ?_⟩) (by assumption) ?_; rotate_left; · (intro wq hSq; have hq := (fun _ _ => trivial) wq hSq; go_split_ands; go_simp; (try with_reducible rfl))
          try simp only [Act.put, getElem_toArray, getElem_cons_zero, getElem_cons_succ, setIfInBounds_toArray, set_cons_zero, set_cons_succ]
          refine wpAnyH_take (i := 9) (v := ?_) rfl (by kernel_rfl) (by kernel_rfl) (by kernel_rfl) (fun _ _ _ h => h) (Or.inl ⟨by rfl, ?_⟩) (by assumption) ?_; rotate_left; · (intro wq hSq; have hq := (fun _ _ => trivial) wq hSq; go_split_ands; go_simp; (try with_reducible rfl))
          try simp only [Act.put, getElem_toArray, getElem_cons_zero, getElem_cons_succ, setIfInBounds_toArray, set_cons_zero, set_cons_succ]
          refine wpAnyH_done (by kernel_rfl) ?_ _
          go_wp2_with fail
          go_meet
          exact ⟨by simp, s', (HDB.out.grow ((Frm.refl _ _).drew)).two HA3.out HF3.out HA4.out HF4.out, HU2.out⟩
        have g2 : (kind == 2) = false := by simp [e2]
        by_cases e4 : kind = 4
        · subst e4
          obtain ⟨y, hy⟩ : ∃ y, y = aa % 500 := ⟨_, rfl⟩
          have q1 : aa.tmod 500 = y := by rw [hy]; exact Int.tmod_eq_emod_of_nonneg haa
          have hy0 : 0 ≤ y := by omega
          have hy1 : y ≤ 500 := by omega
          obtain ⟨s', told, hr⟩ : ∃ s' told, s.tick y = (s', told) := ⟨_, _, rfl⟩
          have HR := Lib.hid hr
          have HU2 := Lib.hid (tick_used y HU.out hy0 (by omega))
          rw [hr] at HU2
          have HC1 := Lib.hid (fun W (h : Frm (fun k => WhS p1 bw1 bs1 k ∨ WhS p2 bw2 bs2 k) wb W) => h.cell x3 HNW.out)
          have HA1 := Lib.hid (wtick_any wb.drew p1 n1 bw1 bs1 s y (HDB.out.a1.grow ((Frm.refl _ _).drew)) HFT.out hy0)
          rw [hr] at HA1
          unfold ptrW at HA1
          have HY0 := Lib.hid hy0
          clear hr g0 e0 e1 e2 g1 x2 x3 x4 hy hy0 hy1
          go_wp2_with fail
          refine wp_region_held_drew (S := fun W => Frm (fun k => WhS p1 bw1 bs1 k ∨ WhS p2 bw2 bs2 k) wb W) (by kernel_rfl) ((Frm.refl _ _).drew) (fun hHeld => ?_)
          refine wpAnyH_take (i := 0) (v := ?_) rfl (by kernel_rfl) (by kernel_rfl) (by kernel_rfl) (fun _ _ _ h => h) (Or.inl ⟨by rfl, ?_⟩) (by assumption) ?_; rotate_left; · (intro wq hSq; have hq := HC1.out wq hSq; go_split_ands; go_simp; (try with_reducible rfl))
          try simp only [Act.put, getElem_toArray, getElem_cons_zero, getElem_cons_succ, setIfInBounds_toArray, set_cons_zero, set_cons_succ]
          refine wpAnyH_take (i := 1) (v := ?_) rfl (by kernel_rfl) (by kernel_rfl) (by kernel_rfl) (fun _ _ _ h => h) (Or.inl ⟨by rfl, ?_⟩) (by assumption) ?_; rotate_left; · (intro wq hSq; have hq := HC1.out wq hSq; go_split_ands; go_simp; (try with_reducible rfl))
          try simp only [Act.put, getElem_toArray, getElem_cons_zero, getElem_cons_succ, setIfInBounds_toArray, set_cons_zero, set_cons_succ]
          refine wpAnyH_take (i := 2) (v := ?_) rfl (by kernel_rfl) (by kernel_rfl) (by kernel_rfl) (fun _ _ _ h => h) (Or.inl ⟨by rfl, ?_⟩) (by assumption) ?_; rotate_left; · (intro wq hSq; have hq := HC1.out wq hSq; go_split_ands; go_simp; (try with_reducible rfl))
          try simp only [Act.put, getElem_toArray, getElem_cons_zero, getElem_cons_succ, setIfInBounds_toArray, set_cons_zero, set_cons_succ]
          refine wpAnyH_take (i := 3) (v := ?_) rfl (by kernel_rfl) (by kernel_rfl) (by kernel_rfl) (fun _ _ _ h => h) (Or.inl ⟨by rfl, ?_⟩) (by assumption) ?_; rotate_left; · (intro wq hSq; have hq := HC1.out wq hSq; go_split_ands; go_simp; (try with_reducible rfl))
          try simp only [Act.put, getElem_toArray, getElem_cons_zero, getElem_cons_succ, setIfInBounds_toArray, set_cons_zero, set_cons_succ]
          refine wpAnyH_take (i := 5) (v := ?_) rfl (by kernel_rfl) (by kernel_rfl) (by kernel_rfl) (fun _ _ _ h => h) (Or.inl ⟨by rfl, ?_⟩) (by assumption) ?_; rotate_left; · (intro wq hSq; have hq := HC1.out wq hSq; go_split_ands; go_simp; (try with_reducible rfl))
          try simp only [Act.put, getElem_toArray, getElem_cons_zero, getElem_cons_succ, setIfInBounds_toArray, set_cons_zero, set_cons_succ]
          refine wpAnyH_take (i := 6) (v := ?_) rfl (by kernel_rfl) (by kernel_rfl) (by kernel_rfl) (fun _ _ _ h => h) (Or.inl ⟨by rfl, ?_⟩) (by assumption) ?_; rotate_left; · (intro wq hSq; have hq := HC1.out wq hSq; go_split_ands; go_simp; (try with_reducible rfl))
          try simp only [Act.put, getElem_toArray, getElem_cons_zero, getElem_cons_succ, setIfInBounds_toArray, set_cons_zero, set_cons_succ]
          refine wpAnyH_take (i := 7) (v := ?_) rfl (by kernel_rfl) (by kernel_rfl) (by kernel_rfl) (fun _ _ _ h => h) (Or.inl ⟨by rfl, ?_⟩) (by assumption) ?_; rotate_left; · (intro wq hSq; have hq := HC1.out wq hSq; go_split_ands; go_simp; (try with_reducible rfl))
          try simp only [Act.put, getElem_toArray, getElem_cons_zero, getElem_cons_succ, setIfInBounds_toArray, set_cons_zero, set_cons_succ]
          refine wpAnyH_take (i := 8) (v := ?_) rfl (by kernel_rfl) (by kernel_rfl) (by kernel_rfl) (fun _ _ _ h => h) (Or.inl ⟨by rfl, ?_⟩) (by assumption) ?_; rotate_left; · (intro wq hSq; have hq := HC1.out wq hSq; go_split_ands; go_simp; (try with_reducible rfl))
          try simp only [Act.put, getElem_toArray, getElem_cons_zero, getElem_cons_succ, setIfInBounds_toArray, set_cons_zero, set_cons_succ]
          refine wpAnyH_ready (rs := [4]) (by kernel_rfl) (by simp) ?_
          refine AllReadyH.cons rfl (fun K hK => ?_) AllReadyH.nil
          try simp only [getElem_toArray, getElem_cons_zero, getElem_cons_succ]
          go_simp
          refine HA1.out.mono ?_
          rintro e w3 ⟨v3, rfl, hA3, hr3, hF3⟩
          have hA2 := (HDB.out.grow ((Frm.refl _ _).drew)).one hF3
          have HB1 := Lib.hid (wtick_any w3 p2 n2 bw2 bs2 s y hA2 HFT.out HY0.out)
          rw [HR.out] at HB1
          unfold ptrW at HB1
          have HA3 := Lib.hid hA3
          have HF3 := Lib.hid hF3
          have HR3 := Lib.hid (fun (w4 : World) (hF4 : Frm (WhS p2 bw2 bs2) w3 w4) => (hF4.row hr3 (fun j hj e => by obtain ⟨cur, hcur⟩ := hr3.blk hj; exact hA2.row_not hcur (by decide) e) : RowI w4 _ v3 told))
          clear hA3 hF3 hA2 hr3
          go_wp2_with fail
          refine hK.out _ _ (hHeld.trans HF3.out (fun _ _ h => .inl h)) (fun hHeld => ?_)
          clear hK K
          try simp only [Act.put, setIfInBounds_toArray, set_cons_zero, set_cons_succ]
          refine wpAnyH_ready (rs := [9]) (by kernel_rfl) (by simp) ?_
          refine AllReadyH.cons rfl (fun K hK => ?_) AllReadyH.nil
          try simp only [getElem_toArray, getElem_cons_zero, getElem_cons_succ]
          go_simp
          refine HB1.out.mono ?_
          rintro e w4 ⟨v4, rfl, hA4, hr4, hF4⟩
          have HSM := Lib.hid (wsame_any w4 _ _ v3 v4 told (HR3.out w4 hF4) hr4)
          have HA4 := Lib.hid hA4
          have HF4 := Lib.hid hF4
          clear hA4 hF4 hr4
          go_wp2_with fail
          refine hK.out _ _ (hHeld.trans HF4.out (fun _ _ h => .inr h)) (fun hHeld => ?_)
          clear hK K
          try simp only [Act.put, setIfInBounds_toArray, set_cons_zero, set_cons_succ]
          refine wpAnyH_ready (rs := [10]) (by kernel_rfl) (by simp) ?_
          refine AllReadyH.cons rfl (fun K hK => ?_) AllReadyH.nil
          try simp only [getElem_toArray, getElem_cons_zero, getElem_cons_succ]
          go_simp
          refine HSM.out.mono ?_
          rintro e w5 ⟨rfl, hF5⟩
          have HF5 := Lib.hid hF5
          clear hF5
          go_wp2_with fail
          refine hK.out _ _ (hHeld.trans HF5.out (fun _ _ h => h.elim)) (fun hHeld => ?_)
          clear hK K
          try simp only [Act.put, setIfInBounds_toArray, set_cons_zero, set_cons_succ]
          refine wpAnyH_take (i := 11) (v := ?_) rfl (by kernel_rfl) (by kernel_rfl) (by kernel_rfl) (fun _ _ _ h => h) (Or.inl ⟨by rfl, ?_⟩) (by assumption) ?_; rotate_left; · (intro wq hSq; have hq := (fun _ _ => trivial) wq hSq; go_split_ands; go_simp; (try with_reducible rfl))
          try simp only [Act.put, getElem_toArray, getElem_cons_zero, getElem_cons_succ, setIfInBounds_toArray, set_cons_zero, set_cons_succ]
          refine wpAnyH_done (by kernel_rfl) ?_ _
          go_wp2_with fail
          go_meet
          exact ⟨rfl, s', ((HDB.out.grow ((Frm.refl _ _).drew)).two HA3.out HF3.out HA4.out HF4.out).grow HF5.out, HU2.out⟩
        have g4 : (kind == 4) = false := by simp [e4]
        clear e0 e1 e2 e4
        go_wp2_with fail
        go_meet
        exact ⟨rfl, s, HDB.out, HU.out.le⟩
      case rest =>
        obtain ⟨rfl, s', hD', hU'⟩ := hcut
        have HD' := Lib.hid hD'
        have HU' := Lib.hid hU'
        have HL1 := Lib.hid (wlen_any wc p1 n1 bw1 bs1 s' hD'.a1)
        have HL2 := Lib.hid (wlen_any wc p2 n2 bw2 bs2 s' hD'.a2)
        have HO1 := Lib.hid (wnow_any wc p1 n1 bw1 bs1 s' hD'.a1)
        have HO2 := Lib.hid (wnow_any wc p2 n2 bw2 bs2 s' hD'.a2)
        obtain ⟨ll, hll⟩ : ∃ ll, ll = s'.tm.length := ⟨_, rfl⟩
        rw [← hll] at HL1 HL2
        unfold ptrW at HL1 HL2 HO1 HO2
        clear hD' hU' hll
        go_wp2_with (first | (go_at_call 49; (with_reducible refine HL1.out.mono ?_); clear HL1; rintro e w7 ⟨rfl, rfl⟩) | (go_at_call 49; refine HL2.out.mono ?_; rintro e w7 ⟨rfl, rfl⟩) | (go_at_call 50; (with_reducible refine HO1.out.mono ?_); clear HO1; rintro e w7 ⟨rfl, rfl⟩) | (go_at_call 50; refine HO2.out.mono ?_; rintro e w7 ⟨rfl, rfl⟩))
        go_roundw
        case rel => exact ⟨k + 1, s', HLT.out, by go_num, HD'.out, HU'.out⟩
        case measure => have := HLT.out; simp [intOf]; omega
    · obtain rfl : k = n := by omega
      have hkn : ¬ (k : Int) < (k : Int) := by omega
      go_wp2_with (go_at_call 51; refine (wlives_any _).mono ?_; rintro e w9 ⟨rfl, hF9⟩; have HF9 := Lib.hid hF9; clear hF9)
      go_ret
      exact ⟨rfl, HD.out.frm.trans' HF9.out⟩
end Go.Proofs.Ytmkkeglcjbogcaa
namespace Go.Proofs.Ytmkkeglcjbogcaa
open Go.ChangeShapes Go.WideShapes Go.ChangeAt Go.RowKit
set_option linter.unusedVariables false

theorem own : ownKnob Try.prog.godebug = none := by kernel_rfl
theorem laid : laidOutB Try.prog = true := by kernel_rfl

/-- What a law's walk shows: it returns true, and below the heap's size nothing has turned. -/
def LawPost (w : World) (e : Ending) (w' : World) : Prop := e = .returned (.bool true) ∧ Below w.heap.size w w'

section
variable {H : Type} {enc : TypeId × Value → H}

theorem trodAll_below {W W' : World} (hb : Below W.heap.size W W') (sp : Nat → Bool) : ∀ {ts : List TypeId} {vs : List Value} {ds : List (DataW H)} {ps : List MemPlace},
    (∀ t ∈ ts, Try.prog.readableRec t = true ∧ t < Try.prog.types.size) → DataW.TrodAll enc Try.prog W 0 (fun _ => true) true ts vs ds ps → (∀ x ∈ ps, x.block < W.heap.size) → (∀ x ∈ ps, sp x.block = true) → DataW.TrodAll enc Try.prog W' 0 sp true ts vs ds ps := by
  intro ts
  induction ts with
  | nil =>
    intro vs ds ps _ h _ _
    cases vs <;> cases ds <;> simp [DataW.TrodAll] at h ⊢
    exact h
  | cons t ts ih =>
    intro vs ds ps ht h hlt hsp
    cases vs <;> cases ds <;> simp [DataW.TrodAll] at h ⊢
    obtain ⟨p, hp, q, hq, rfl⟩ := h
    have h1 := ht t (by simp)
    refine ⟨p, WideElems.Trod_stays laid h1.1 h1.2 hp (fun x hx => hb.same (hlt x (by simp [hx]))) (fun x hx => hsp x (by simp [hx])), q, ih (fun t' ht' => ht t' (by simp [ht'])) hq (fun x hx => hlt x (by simp [hx])) (fun x hx => hsp x (by simp [hx])), rfl⟩

set_option maxRecDepth 100000 in
theorem law_post {fn : Func} {s : ChangeSpec} {W W' : World} {args : Array Value} {ds gs : List (DataW H)} {before : List MemPlace} {tb : TypeId}
    (hW : DataW.Whole enc Try.prog fn.params.toList s.vars false W args.toList ds gs before) (hp : ∀ t ∈ fn.params.toList, Try.prog.readableRec t = true ∧ t < Try.prog.types.size)
    (hr : fn.resultTypes = #[tb]) (htb : Try.prog.underlying tb = some .bool) (hs0 : s.vars = [])
    (hs1 : (s.fn H (ds ++ gs)).results = [.lit (.bool true)]) (hs2 : (s.fn H (ds ++ gs)).args = ds) (hs3 : (s.fn H (ds ++ gs)).vars = []) (hb : Below W.heap.size W W') :
    s.post enc Try.prog fn false true false false W args (.bool true) W' := by
  have hlt : ∀ p ∈ before, p.block < W.heap.size := fun p hp => hW.lt p hp
  have hW' := hW
  obtain ⟨p, q, hA, hV, rfl, hz, hn⟩ := hW
  rw [hs0] at hV
  obtain ⟨rfl, rfl⟩ := trodVars_none hV
  have hargs : ∀ sp : Nat → Bool, (∀ x ∈ p ++ [], sp x.block = true) → DataW.TrodAll enc Try.prog W' 0 sp true fn.params.toList args.toList (s.fn H (ds ++ [])).args p := fun sp hsp => by
    rw [hs2]; exact trodAll_below hb sp hp hA (fun x hx => hlt x (by simpa using hx)) (fun x hx => hsp x (by simpa using hx))
  have hres : ∀ (b : Nat) (sp : Nat → Bool) (hd : Bool), DataW.TrodAll enc Try.prog W' b sp hd fn.resultTypes.toList ((Value.bool true).resultList fn.resultTypes.size) (s.fn H (ds ++ [])).results [] := fun b sp hd => by
    rw [hs1, hr]; exact trodAll_mk1 (shut_bool htb _)
  have hvars : ∀ sp : Nat → Bool, DataW.TrodVars enc Try.prog W' sp s.vars (s.fn H (ds ++ [])).vars [] := fun sp => by rw [hs0, hs3]; rfl
  have hold : ∀ x ∈ p ++ [], (fun b => decide (b < W.heap.size)) x.block = true := fun x hx => by simpa using hlt x hx
  refine ⟨ds, [], p ++ [], [], p, [], hW', hres _ _ _, hargs _ hold, hvars _, World.keptBut_mono (fun x hx => ⟨hx, ?_⟩) (hb.frame (· ∈ p ++ [])), fun _ => ?_⟩
  · exact Or.inr (List.mem_append.1 hx)
  · refine ⟨ok_one hr rfl (okWide_bool_mk htb _), _, _, ([] ++ p) ++ [], ⟨[] ++ p, [], trodAll_append (hargs _ (fun _ _ => rfl)) (hres _ _ _), hvars _, rfl, ?_, ?_⟩, ?_⟩
    · intro b off hx
      have hin : MemPlace.cell b off ∈ p ++ [] := by simpa using hx
      rw [hb.frozen (hlt _ hin)]
      exact hz b off hin
    · intro ha; cases ha
    · intro x hx _
      simpa using hx

set_option maxRecDepth 100000 in
/-- A walk, for every argument that reads as data, is the row's step. -/
theorem law_lift {f : FuncId} {fn : Func} {s : ChangeSpec} {conds : List PathCond} (os : Os) (started : os.Started) (noInit : Try.prog.inits.idxOf? f = none) (hfn : Try.prog.funcs[f]? = some fn) {tb : TypeId}
    (hp : ∀ t ∈ fn.params.toList, Try.prog.readableRec t = true ∧ t < Try.prog.types.size) (hr : fn.resultTypes = #[tb]) (htb : Try.prog.underlying tb = some .bool) (hs0 : s.vars = [])
    (hs : ∀ ds : List (DataW H), ds.length = fn.params.toList.length → (s.fn H ds).results = [.lit (.bool true)] ∧ (s.fn H ds).args = ds ∧ (s.fn H ds).vars = [])
    (witness : ∃ (w : World) (tape : Tape) (i : Input), w.os = os ∧ (w.forCall tape i).Shaped Try.prog ∧ i.vars = [] ∧ Input.okWide Try.prog (w.forCall tape i) .any w.heap.size f i ∧
      s.pre6 enc Try.prog fn conds false (w.forCall tape i).memory i.args ∧ ({} : Assume).holds Try.prog (lone (Frame.enter Try.prog f i.args .normal) [] (w.forCall tape i)))
    (walk : ∀ (W : World) (base : Nat) (vs : List Value) (ds : List (DataW H)) (ps : List MemPlace), (∀ (j : Nat) t v, fn.params[j]? = some t → vs[j]? = some v → Value.okWide Try.prog W .any base t v) → DataW.TrodAll enc Try.prog W 0 (fun _ => true) true fn.params.toList vs ds ps → (∀ x ∈ ps, x.block < W.heap.size) →
      (DataW.weightsEach Try.prog fn.params.toList ds).all (· ≤ reachBytes) = true → Calls Try.prog f vs.toArray W (LawPost W)) :
    ReturnsInHanded {} Try.checked os f .any (s.pre6 enc Try.prog fn conds false) (s.post enc Try.prog fn false true false false) := by
  refine returnsInHanded_of_change_shaped (C := Try.checked) own started noInit hfn witness ?_
  intro W base args ds gs before hval hW hcnd hwt hsh hh
  have hlt : ∀ p ∈ before, p.block < W.heap.size := fun p hp => DataW.Whole.lt hW p hp
  have hW' := hW
  obtain ⟨p, q, hA, hV, rfl, hz, hn⟩ := hW
  rw [hs0] at hV
  obtain ⟨rfl, rfl⟩ := trodVars_none hV
  have hlen : ∀ {ts : List TypeId} {vs : List Value} {ds : List (DataW H)} {ps : List MemPlace}, DataW.TrodAll enc Try.prog W 0 (fun _ => true) true ts vs ds ps → ds.length = ts.length := by
    intro ts
    induction ts with
    | nil => intro vs ds ps h; cases vs <;> cases ds <;> simp [DataW.TrodAll] at h ⊢
    | cons t ts ih =>
      intro vs ds ps h
      cases vs <;> cases ds <;> simp [DataW.TrodAll] at h ⊢
      obtain ⟨_, _, _, hq, _⟩ := h
      exact ih hq
  have hl := hlen hA
  have hvt : DataSpec.varTypes Try.checked.prog s.plain = [] := by
    have : s.plain.vars = [] := hs0
    simp [DataSpec.varTypes, this]
  refine (walk W base args.toList ds p (fun j t v h1 h2 => hval j t v h1 (by simpa using h2)) hA (fun x hx => hlt x (by simpa using hx)) (by rw [hvt, List.append_nil, List.append_nil] at hwt; exact hwt)).mono ?_
  rintro e W' ⟨rfl, hb⟩
  obtain ⟨s1, s2, s3⟩ := hs (ds ++ []) (by simpa using hl)
  exact ⟨_, rfl, law_post hW' hp hr htb hs0 s1 (by simpa using s2) s3 hb⟩
end
end Go.Proofs.Ytmkkeglcjbogcaa
namespace Go.Proofs.Ytmkkeglcjbogcaa
open Go.ChangeShapes Go.WideShapes Go.ChangeAt Go.RowKit Go.Deep
set_option linter.unusedVariables false

section
variable {H : Type} {enc : TypeId × Value → H}

/-- The cells cs read as the datum d of type t. -/
def Rd (enc : TypeId × Value → H) (W : World) (t : TypeId) (cs : List Value) (d : DataW H) : Prop := ∃ fuel ps, DataW.trod enc Try.prog W 0 (fun _ => true) true fuel t cs = some (d, ps)

theorem rd_int {W : World} {t : TypeId} {k : IntKind} {cs : List Value} {d : DataW H} (ht : Try.prog.underlying t = some (.int k)) (h : Rd enc W t cs d) : ∃ n, cs = [.int k n] ∧ (Lit.int k n).wf = true := by
  obtain ⟨fuel, ps, h⟩ := h
  obtain ⟨n, h1, _, h3⟩ := DataW.trod_int ht h
  exact ⟨n, h1, h3⟩

theorem rd_bool {W : World} {t : TypeId} {cs : List Value} {d : DataW H} (ht : Try.prog.underlying t = some .bool) (h : Rd enc W t cs d) : ∃ b, cs = [.bool b] := by
  obtain ⟨fuel, ps, h⟩ := h
  obtain ⟨n, h1, _⟩ := DataW.trod_bool ht h
  exact ⟨n, h1⟩

theorem rd_slice {W : World} {t e : TypeId} {sz : Nat} {cs : List Value} {d : DataW H} (ht : Try.prog.underlying t = some (.slice e)) (hz : Try.prog.cellsOf e = sz) (hz0 : 0 < sz) (h : Rd enc W t cs d) :
    ∃ (A : Option Addr) (n cap : Nat) (D : Nat → DataW H), cs = [.slice A n cap] ∧ n ≤ cap ∧ cap ≤ maxLen ∧ ((n = 0 ∧ cap = 0 ∧ d = .nil) ∨ ∃ sp, d = .slice ((List.range n).map D) sp ∧ sp.length = cap - n) ∧
      (0 < n → ∃ g off, A = some ⟨g, off, none⟩ ∧ g < W.heap.size ∧ ∀ i, i < n → ∃ cs', cs'.length = sz ∧ (∀ j, j < sz → W.cell? ⟨g, off + i * sz + j, none⟩ = cs'[j]?) ∧ Rd enc W e cs' (D i)) := by
  obtain ⟨fuel, ps, h⟩ := h
  rcases open_slice ht h with ⟨rfl, hx⟩ | ⟨a, len, cap, m, n, D, Pl, rfl, hb, hl, hm, hmm, hx, hel⟩
  · simp only [Prod.mk.injEq] at hx
    exact ⟨none, 0, 0, fun _ => .nil, rfl, Nat.le_refl _, Nat.zero_le _, .inl ⟨rfl, rfl, hx.1⟩, fun h => absurd h (by omega)⟩
  · simp only [if_true] at hmm
    subst hmm
    simp only [Prod.mk.injEq] at hx
    refine ⟨some a, len, m, D, rfl, hl, hm, .inr ⟨_, hx.1, by simp⟩, fun h0 => ?_⟩
    have hcell : ∀ i, i < len → ∃ cs', cs'.length = sz ∧ (∀ j, j < sz → W.cell? (a.add (i * sz + j)) = cs'[j]?) ∧ Rd enc W e cs' (D i) := fun i hi => by
      obtain ⟨cs', h1, h2⟩ := hel i (by omega)
      rw [hz] at h1
      obtain ⟨_, h3, h4⟩ := World.cells?_some h1
      exact ⟨cs', h3, fun j hj => by rw [← h4 j hj, add_add], _, _, h2⟩
    obtain ⟨cs0, l0, c0, _⟩ := hcell 0 h0
    have c00 := c0 0 hz0
    obtain ⟨ab, ao, asp⟩ := a
    have hsp : asp = none := by
      have : W.cell? ⟨ab, ao, asp⟩ = cs0[0]? := by simpa [Addr.add] using c00
      rw [List.getElem?_eq_getElem (by omega)] at this
      cases asp with
      | none => rfl
      | some s =>
        unfold World.cell? at this
        split at this <;> simp at this
    subst hsp
    refine ⟨ab, ao, rfl, ?_, fun i hi => ?_⟩
    · rw [List.getElem?_eq_getElem (by omega)] at c00
      have := World.block_lt_of_cell? W _ c00
      simpa [Addr.add] using this
    · obtain ⟨cs', l', c', r'⟩ := hcell i hi
      exact ⟨cs', l', fun j hj => by rw [← c' j hj, add_off, Nat.add_assoc], r'⟩

theorem rd_struct {W : World} {t : TypeId} {fs : Array Field} {cs : List Value} {d : DataW H} (ht : Try.prog.underlying t = some (.struct fs)) (h : Rd enc W t cs d) :
    cs.length = Try.prog.cellsOf t ∧ ∃ ds, d = .agg ds ∧ ds.length = fs.size ∧ ∀ (i : Nat) (f : Field), fs[i]? = some f → ∃ di, ds[i]? = some di ∧ Rd enc W f.type ((cs.drop f.offset).take (Try.prog.cellsOf f.type)) di := by
  obtain ⟨fuel, ps, h⟩ := h
  obtain ⟨xs, n, _, hx, hl, hl2, hf⟩ := DataW.trod_struct ht h
  simp only [Prod.mk.injEq] at hx
  refine ⟨hl, _, hx.1, by simpa using hl2, fun i f hi => ?_⟩
  have := hf i f hi
  have hi' : i < fs.size := (Array.getElem?_eq_some_iff.1 hi).1
  rw [List.getElem?_eq_getElem (by omega)] at this
  exact ⟨(xs[i]'(by omega)).1, by simp [hl2, hi'], n, (xs[i]'(by omega)).2, this⟩

theorem u8_wf {n : Int} (h : (Lit.int .u8 n).wf = true) : 0 ≤ n ∧ n ≤ 255 := by simpa [Lit.wf, IntKind.min, IntKind.max, IntKind.signed, IntKind.bits] using h
theorem u16_wf {n : Int} (h : (Lit.int .u16 n).wf = true) : 0 ≤ n ∧ n ≤ 65535 := by simpa [Lit.wf, IntKind.min, IntKind.max, IntKind.signed, IntKind.bits] using h
theorem u32_wf {n : Int} (h : (Lit.int .u32 n).wf = true) : 0 ≤ n ∧ n ≤ 4294967295 := by simpa [Lit.wf, IntKind.min, IntKind.max, IntKind.signed, IntKind.bits] using h
theorem u64_wf {n : Int} (h : (Lit.int .u64 n).wf = true) : 0 ≤ n ∧ n ≤ 18446744073709551615 := by simpa [Lit.wf, IntKind.min, IntKind.max, IntKind.signed, IntKind.bits] using h
theorem i64_wf {n : Int} (h : (Lit.int .i64 n).wf = true) : -9223372036854775808 ≤ n ∧ n ≤ 9223372036854775807 := by simpa [Lit.wf, IntKind.min, IntKind.max, IntKind.signed, IntKind.bits] using h

/-- From 'for every i < n there is an x' to one list. -/
theorem choose_list {α : Type} {n : Nat} {p : Nat → α → Prop} (h : ∀ i, i < n → ∃ x, p i x) : ∃ l : List α, l.length = n ∧ ∀ i (hi : i < l.length), p i l[i] := by
  induction n with
  | zero => exact ⟨[], rfl, fun i hi => absurd hi (by simp)⟩
  | succ n ih =>
    obtain ⟨l, hl, hp⟩ := ih (fun i hi => h i (by omega))
    obtain ⟨x, hx⟩ := h n (by omega)
    refine ⟨l ++ [x], by simp [hl], fun i hi => ?_⟩
    by_cases hi' : i < l.length
    · rw [List.getElem_append_left hi']; exact hp i hi'
    · have : i = n := by simp at hi; omega
      subst this
      simp only [List.getElem_append, hl, Nat.lt_irrefl, dite_false, Nat.sub_self, List.getElem_cons_zero]
      exact hx

theorem rd_bytes {W : World} {t e : TypeId} {cs : List Value} {d : DataW H} (ht : Try.prog.underlying t = some (.slice e)) (he : Try.prog.underlying e = some (.int .u8)) (hz : Try.prog.cellsOf e = 1) (h : Rd enc W t cs d) :
    ∃ v bs, cs = [v] ∧ BytesAt W v bs ∧ ((bs.length = 0 ∧ d = .nil) ∨ ∃ el sp, d = .slice el sp ∧ el.length = bs.length) := by
  obtain ⟨A, n, cap, D, rfl, h1, h2, hd, hA⟩ := rd_slice ht hz (by decide) h
  obtain ⟨bs, hl, hb⟩ := choose_list (n := n) (p := fun i (b : UInt8) => ∀ g off, A = some ⟨g, off, none⟩ → W.cell? ⟨g, off + i, none⟩ = some (.int .u8 b.toNat)) (fun i hi => by
    obtain ⟨g, off, rfl, _, hc⟩ := hA (by omega)
    obtain ⟨cs', l', c', r'⟩ := hc i hi
    obtain ⟨m, rfl, hw⟩ := rd_int he r'
    have hw := u8_wf hw
    refine ⟨UInt8.ofNat m.toNat, fun g2 off2 e2 => ?_⟩
    cases e2
    have := c' 0 (by decide)
    simp only [Nat.mul_one, Nat.add_zero] at this
    rw [this]
    simp only [List.getElem?_cons_zero, Option.some.injEq, Value.int.injEq, true_and]
    have hm : (UInt8.ofNat m.toNat).toNat = m.toNat := UInt8.toNat_ofNat_of_lt' (by simp only [UInt8.size]; omega)
    rw [hm]
    omega)
  subst hl
  refine ⟨_, bs, rfl, ⟨A, cap, rfl, h1, h2, fun h0 => ?_⟩, ?_⟩
  · obtain ⟨g, off, rfl, _, _⟩ := hA h0
    refine ⟨g, off, rfl, fun i hi => ?_⟩
    have := hb i hi g off rfl
    rw [this]
    simp [hi]
  · rcases hd with ⟨h0, _, hd⟩ | ⟨sp, hd, _⟩
    · exact .inl ⟨h0, hd⟩
    · exact .inr ⟨_, sp, hd, by simp⟩

set_option maxRecDepth 100000 in
theorem arg_slice {W : World} {base : Nat} {t e : TypeId} {v : Value} {d : DataW H} {ps : List MemPlace} (ht : Try.prog.underlying t = some (.slice e)) (hval : Value.okWide Try.prog W .any base t v) (h : DataW.Trod enc Try.prog W 0 (fun _ => true) true t v d ps) : Rd enc W t [v] d := by
  obtain ⟨a, len, cap, rfl⟩ := okWide_slice ht hval
  obtain ⟨fuel, hf⟩ := h
  exact ⟨fuel, ps, hf⟩
end
end Go.Proofs.Ytmkkeglcjbogcaa
namespace Go.Proofs.Ytmkkeglcjbogcaa
open Go.ChangeShapes Go.WideShapes Go.ChangeAt Go.RowKit Go.Deep
set_option linter.unusedVariables false

section
variable {H : Type} {enc : TypeId × Value → H}

theorem rd_sl {α : Type} {encα : α → List Value} {sz : Nat} {W : World} {t e : TypeId} {cs : List Value} {d : DataW H} (good : α → Prop) (ht : Try.prog.underlying t = some (.slice e)) (hz : Try.prog.cellsOf e = sz) (hz0 : 0 < sz)
    (hel : ∀ cs d, Rd enc W e cs d → ∃ x, cs = encα x ∧ good x) (h : Rd enc W t cs d) :
    ∃ v xs, cs = [v] ∧ SlAt encα sz W v xs ∧ (∀ x ∈ xs, good x) ∧ (xs.length = 0 ∨ ∃ el sp, d = .slice el sp ∧ el.length = xs.length) := by
  obtain ⟨A, n, cap, D, rfl, h1, h2, hd, hA⟩ := rd_slice ht hz hz0 h
  obtain ⟨xs, hl, hx⟩ := choose_list (n := n) (p := fun i (x : α) => good x ∧ ∀ g off, A = some ⟨g, off, none⟩ → ∀ j, j < sz → W.cell? ⟨g, off + i * sz + j, none⟩ = (encα x)[j]?) (fun i hi => by
    obtain ⟨g, off, rfl, _, hc⟩ := hA (by omega)
    obtain ⟨cs', l', c', r'⟩ := hc i hi
    obtain ⟨x, rfl, hg⟩ := hel _ _ r'
    exact ⟨x, hg, fun g2 off2 e2 => by cases e2; exact c'⟩)
  subst hl
  refine ⟨_, xs, rfl, ⟨A, cap, rfl, h1, h2, fun h0 => ?_⟩, fun x hx' => ?_, ?_⟩
  · obtain ⟨g, off, rfl, hg, _⟩ := hA h0
    exact ⟨g, off, rfl, hg, fun i hi j hj => (hx i hi).2 g off rfl j hj⟩
  · obtain ⟨i, hi, rfl⟩ := List.getElem_of_mem hx'
    exact (hx i hi).1
  · rcases hd with ⟨h0, _, hd⟩ | ⟨sp, hd, _⟩
    · exact .inl h0
    · exact .inr ⟨_, sp, hd, by simp⟩

set_option maxRecDepth 100000 in
theorem sl_bound {ts : List TypeId} {ds : List (DataW H)} {j : Nat} {t e : TypeId} {d : DataW H} {n b : Nat} (hw : (DataW.weightsEach Try.prog ts ds).all (· ≤ reachBytes) = true) (ht : ts[j]? = some t) (hd : ds[j]? = some d) (hu : Try.prog.underlying t = some (.slice e)) (hb : Try.prog.bytesOf e = b)
    (h : n = 0 ∨ ∃ el sp, d = .slice el sp ∧ el.length = n) : n * b ≤ 140737488351232 := by
  rcases h with h | ⟨el, sp, rfl, h⟩
  · subst h; omega
  · have := sized_slice hw ht hd hu
    rw [hb] at this
    have hr : reachBytes = 140737488351232 := rfl
    have h2 : n * b ≤ (el.length + sp.length) * b := Nat.mul_le_mul_right _ (by omega)
    omega

set_option maxRecDepth 100000 in
/-- A struct of three fields, one cell each. -/
theorem rd_struct3 {W : World} {t : TypeId} {f0 f1 f2 : Field} {cs : List Value} {d : DataW H} (ht : Try.prog.underlying t = some (.struct #[f0, f1, f2])) (hz : Try.prog.cellsOf t = 3) (z0 : f0.offset = 0) (z1 : f1.offset = 1) (z2 : f2.offset = 2)
    (y0 : Try.prog.cellsOf f0.type = 1) (y1 : Try.prog.cellsOf f1.type = 1) (y2 : Try.prog.cellsOf f2.type = 1) (h : Rd enc W t cs d) :
    ∃ c0 c1 c2 d0 d1 d2, cs = [c0, c1, c2] ∧ Rd enc W f0.type [c0] d0 ∧ Rd enc W f1.type [c1] d1 ∧ Rd enc W f2.type [c2] d2 := by
  obtain ⟨hl, ds, _, _, hf⟩ := rd_struct ht h
  rw [hz] at hl
  match cs, hl with
  | [c0, c1, c2], _ =>
    obtain ⟨d0, _, r0⟩ := hf 0 f0 rfl
    obtain ⟨d1, _, r1⟩ := hf 1 f1 rfl
    obtain ⟨d2, _, r2⟩ := hf 2 f2 rfl
    rw [z0, y0] at r0
    rw [z1, y1] at r1
    rw [z2, y2] at r2
    exact ⟨c0, c1, c2, d0, d1, d2, rfl, r0, r1, r2⟩
end
end Go.Proofs.Ytmkkeglcjbogcaa
namespace Go.Proofs.Ytmkkeglcjbogcaa
open Go.ChangeShapes Go.WideShapes Go.ChangeAt Go.RowKit Go.Deep
set_option linter.unusedVariables false
set_option maxRecDepth 100000

section
variable {H : Type} {enc : TypeId × Value → H}
theorem fldN {W : World} {t : TypeId} {fs : Array Field} {cs : List Value} {d : DataW H} (ht : Try.prog.underlying t = some (.struct fs)) (h : Rd enc W t cs d) {i off n : Nat} {f : Field} (hf : fs[i]? = some f) (ho : f.offset = off) (hn : Try.prog.cellsOf f.type = n) :
    ∃ di, Rd enc W f.type ((cs.drop off).take n) di := by
  obtain ⟨_, ds, rfl, _, hall⟩ := rd_struct ht h
  obtain ⟨di, hdi, r⟩ := hall i f hf
  subst ho hn
  exact ⟨di, r⟩
theorem rd_wact {W : World} (cs : List Value) (d : DataW H) (h : Rd enc W 99 cs d) : ∃ x : WAc, cs = encW x ∧ 0 ≤ x.a ∧ 0 ≤ x.b := by
  obtain ⟨hl, _⟩ := rd_struct Try.underlying99 h
  have h3 : Try.prog.cellsOf 99 = 5 := by kernel_rfl
  rw [h3] at hl
  obtain ⟨d0, r0⟩ := fldN Try.underlying99 h (i := 0) (off := 0) (n := 1) rfl rfl (by kernel_rfl)
  obtain ⟨d1, r1⟩ := fldN Try.underlying99 h (i := 1) (off := 1) (n := 1) rfl rfl (by kernel_rfl)
  obtain ⟨d2, r2⟩ := fldN Try.underlying99 h (i := 2) (off := 2) (n := 1) rfl rfl (by kernel_rfl)
  obtain ⟨d3, r3⟩ := fldN Try.underlying99 h (i := 3) (off := 3) (n := 1) rfl rfl (by kernel_rfl)
  obtain ⟨d4, r4⟩ := fldN Try.underlying99 h (i := 4) (off := 4) (n := 1) rfl rfl (by kernel_rfl)
  match cs, hl with
  | [e0, e1, e2, e3, e4], _ =>
    obtain ⟨a0, ha0, _⟩ := rd_int Try.underlying3 r0
    obtain ⟨a1, ha1, _⟩ := rd_int Try.underlying3 r1
    obtain ⟨a2, ha2, _⟩ := rd_int Try.underlying3 r2
    obtain ⟨a3, ha3, w3⟩ := rd_int Try.underlying32 r3
    obtain ⟨a4, ha4, w4⟩ := rd_int Try.underlying32 r4
    simp at ha0 ha1 ha2 ha3 ha4
    refine ⟨⟨a0, a1, a2, a3, a4⟩, ?_, (u64_wf w3).1, (u64_wf w4).1⟩
    rw [ha0, ha1, ha2, ha3, ha4]
    rfl
end
end Go.Proofs.Ytmkkeglcjbogcaa
namespace Go.Proofs.Ytmkkeglcjbogcaa
open Go.RowKit
set_option linter.unusedVariables false
set_option linter.unusedSimpArgs false

def cntE (p q m : Int) : Int := if m < p then 0 else 1 + (m - p) / q
theorem every_one (p q : Int) (hp : 1 ≤ p ∧ p ≤ 300) (hq : 1 ≤ q ∧ q ≤ 50) : Wh.every ⟨[], 0, 0⟩ p q 3 = (⟨[⟨1, p, q, 3⟩], 0, 1⟩, 1, 0) := by
  unfold Wh.every withinW
  rw [if_pos (by simp; omega)]
  unfold Wh.adds
  simp
theorem tick_one (p q m : Int) (hp : 1 ≤ p ∧ p ≤ 300) (hq : 1 ≤ q ∧ q ≤ 50) (hm : 0 ≤ m ∧ m < 2000) : Wh.tick ⟨[⟨1, p, q, 3⟩], 0, 1⟩ m = (⟨[⟨1, p + q * cntE p q m, q, 3⟩], m, 1⟩, List.replicate (cntE p q m).toNat 3) := by
  unfold Wh.tick
  have e : (0 : Int) + min m 1048576 = m := by omega
  show Wh.run (0 + min m 1048576) 1048577 ⟨[⟨1, p, q, 3⟩], 0, 1⟩ [] = _
  rw [e]
  have h := run_one m q hq.1 1048577 0 p [] (by omega) (by omega) (by omega) (by simp; omega)
  rw [h]
  rfl
theorem one_fits (p q : Int) (hp : 1 ≤ p ∧ p ≤ 300) (hq : 1 ≤ q ∧ q ≤ 50) : Wh.fits ⟨[⟨1, p, q, 3⟩], 0, 1⟩ := by
  refine ⟨⟨by simp, by simp, ?_, ?_, by simp, Int.le_refl 0⟩, ⟨by simp, by simp⟩, by simp⟩
  · intro t ht
    simp only [List.mem_singleton] at ht
    subst ht
    show 0 < p ∧ p ≤ 0 + 4294967296
    omega
  · intro t ht
    simp only [List.mem_singleton] at ht
    subst ht
    show 0 ≤ q ∧ q ≤ 4294967296
    omega
set_option maxRecDepth 100000 in
set_option maxHeartbeats 4000000 in
theorem wevery_law (a b c : Int) (W : World) (ha : 0 ≤ a ∧ a ≤ 65535) (hb : 0 ≤ b ∧ b ≤ 65535) (hc : 0 ≤ c ∧ c ≤ 65535) :
    Calls Try.prog 12 #[.int .u16 a, .int .u16 b, .int .u16 c] W fun e w' => e = .returned (.bool true) ∧ Frm (fun _ => False) W w' := by
  obtain ⟨ha0, ha1⟩ := ha
  obtain ⟨hb0, hb1⟩ := hb
  obtain ⟨hc0, hc1⟩ := hc
  have HN1 := Lib.hid (wnew_any 8 W (by decide) (by decide))
  obtain ⟨p, hp⟩ : ∃ p, p = 1 + a % 300 := ⟨_, rfl⟩
  obtain ⟨q, hq⟩ : ∃ q, q = 1 + b % 50 := ⟨_, rfl⟩
  obtain ⟨m, hm⟩ : ∃ m, m = c % 2000 := ⟨_, rfl⟩
  have hp1 : 1 ≤ p ∧ p ≤ 300 := by omega
  have hq1 : 1 ≤ q ∧ q ≤ 50 := by omega
  have hm1 : 0 ≤ m ∧ m < 2000 := by omega
  have HEV := Lib.hid (every_one p q hp1 hq1)
  have HTK := Lib.hid (tick_one p q m hp1 hq1 hm1)
  have HFT := Lib.hid (one_fits p q hp1 hq1)
  go_enter Try.func12, Try.ntmps12
  go_upto_region 5 with (first
    | (go_at_call 43; refine HN1.out.mono ?_; clear HN1; rintro e w1 ⟨p1, bw1, bs1, rfl, hA1, hF1, hlo1⟩; have HA1 := Lib.hid hA1; have HF1 := Lib.hid hF1; have HLO1 := Lib.hid hlo1; unfold ptrW; clear hA1 hF1 hlo1))
  rw [← hp, ← hq, ← hm]
  obtain ⟨hp2, hp3⟩ := hp1
  obtain ⟨hq2, hq3⟩ := hq1
  obtain ⟨hm2, hm3⟩ := hm1
  obtain ⟨z, hz⟩ : ∃ z, z = cntE p q m := ⟨_, rfl⟩
  rw [← hz] at HTK
  have HEA := Lib.hid (wevery_any w1 p1 8 bw1 bs1 _ p q 3 HA1.out fits0)
  rw [HEV.out] at HEA
  unfold ptrW at HEA
  have HZ := Lib.hid hz
  have hz0 : 0 ≤ z := by
    rw [hz]; unfold cntE
    split
    · omega
    · have := Int.ediv_nonneg (a := m - p) (b := q) (by omega) (by omega); omega
  have hz1 : z ≤ 2000 := by
    rw [hz]; unfold cntE
    split
    · omega
    · have := Int.ediv_le_self (a := m - p) q (by omega)
      omega
  have hmul : q * z ≤ 50 * 2000 := Int.mul_le_mul hq3 hz1 hz0 (by omega)
  have hmul0 : 0 ≤ q * z := Int.mul_nonneg (by omega) hz0
  -- when it runs out next
  have hdm : m < p + q * z ∧ p + q * z ≤ m + 300 := by
    rw [hz]; unfold cntE
    split
    · rw [Int.mul_zero]; omega
    · rename_i hpm
      have h1 := Int.mul_ediv_add_emod (m - p) q
      have h2 := Int.emod_nonneg (m - p) (b := q) (by omega)
      have h3 := Int.emod_lt_of_pos (m - p) (b := q) (by omega)
      rw [Int.mul_add, Int.mul_one]
      omega
  obtain ⟨d, hd⟩ : ∃ d, d = p + q * z := ⟨_, rfl⟩
  rw [← hd] at HTK hdm
  obtain ⟨hdm1, hdm2⟩ := hdm
  have hmod : (m + (d - m) - p).tmod q = 0 := by
    have e : m + (d - m) - p = q * z := by rw [hd]; omega
    rw [e, Int.mul_tmod_right]
  have hzl : (List.replicate z.toNat (3 : Int)).length = z.toNat := List.length_replicate
  obtain ⟨L, hL⟩ : ∃ L, L = List.replicate z.toNat (3 : Int) := ⟨_, rfl⟩
  rw [← hL] at HTK hzl
  have HDD := Lib.hid hd
  have q0 : IntKind.u64.wrap ((z.toNat : Nat) : Int) = z := by rw [Int.toNat_of_nonneg hz0]; exact IntWalk.u64_in _ (by omega)
  have HARM : Hid (∀ w2, WhAt w2 p1 8 bw1 bs1 ⟨[⟨1, p, q, 3⟩], 0, 1⟩ → Calls Try.prog 48 #[ptrW p1, .int .u64 m] w2 (TickPost p1 8 bw1 bs1 (⟨[⟨1, d, q, 3⟩], m, 1⟩, L) w2)) := fun w2 h2 => by
    have h := wtick_any w2 p1 8 bw1 bs1 ⟨[⟨1, p, q, 3⟩], 0, 1⟩ m h2 HFT.out hm2
    rw [HTK.out] at h
    exact h
  have HLF : Hid (∀ w3, WhAt w3 p1 8 bw1 bs1 ⟨[⟨1, d, q, 3⟩], m, 1⟩ → Calls Try.prog 52 #[ptrW p1, .int .i64 1] w3 fun e w' => e = .returned (.tuple #[.int .u64 (d - m), .bool true]) ∧ Frm (fun _ => False) w3 w') := fun w3 h3 =>
    wleft_hit w3 p1 8 bw1 bs1 ⟨[⟨1, d, q, 3⟩], m, 1⟩ ⟨1, d, q, 3⟩ h3 (List.mem_cons_self ..) (by show 0 ≤ d - m; omega) (by show d - m ≤ _; omega)
  unfold ptrW at HARM HLF
  clear hd hL hz hmul hmul0 hp hq hm
  have hmx : max z 0 = z := by omega
  by_cases hpm : p ≤ m
  · have hzz : 1 + (m - p) / q = z := by rw [HZ.out]; unfold cntE; rw [if_neg (by omega)]
    have hz3 : 1 ≤ z := by have := Int.ediv_nonneg (a := m - p) (b := q) (by omega) (by omega); omega
    have hdv0 : 0 ≤ (m - p) / q := Int.ediv_nonneg (by omega) (by omega)
    have hq7 : ¬ q = 0 := by omega
    go_wp2_with (first
      | (go_at_call 45; refine HEA.out.mono ?_; rintro e w2 ⟨rfl, hA2, hF2⟩; have HT := Lib.hid (HARM.out w2 hA2); have HF2 := Lib.hid hF2; clear hA2 hF2)
      | (go_at_call 48; refine HT.out.mono ?_; rintro e w3 ⟨v3, rfl, hA3, hr3, hF3⟩; obtain ⟨A3, cap3, rfl, _⟩ := row_open hr3; have HLE := Lib.hid (HLF.out w3 hA3); have HF3 := Lib.hid hF3; clear hA3 hF3 hr3)
      | (go_at_call 52; refine HLE.out.mono ?_; rintro e w4 ⟨rfl, hF4⟩; have HF4 := Lib.hid hF4; clear hF4)
      | (go_at_call 51; refine (wlives_any _).mono ?_; rintro e w9 ⟨rfl, hF9⟩; have HF9 := Lib.hid hF9; clear hF9))
    go_ret
    refine ⟨rfl, ?_⟩
    have h13 : Frm (fun _ => False) W w3 := HF1.out.trans (HF2.out.trans' HF3.out) (fun i hi h => by have := HLO1.out i h; omega)
    exact (h13.trans' HF4.out).trans' HF9.out
  · have hzz : z = 0 := by rw [HZ.out]; unfold cntE; rw [if_pos (by omega)]
    have hdp : d = p := by rw [HDD.out, hzz, Int.mul_zero]; omega
    have hlp : m < p := by omega
    subst hzz
    subst hdp
    clear hmod hmx hpm
    go_wp2_with (first
      | (go_at_call 45; refine HEA.out.mono ?_; rintro e w2 ⟨rfl, hA2, hF2⟩; have HT := Lib.hid (HARM.out w2 hA2); have HF2 := Lib.hid hF2; clear hA2 hF2)
      | (go_at_call 48; refine HT.out.mono ?_; rintro e w3 ⟨v3, rfl, hA3, hr3, hF3⟩; obtain ⟨A3, cap3, rfl, _⟩ := row_open hr3; have HLE := Lib.hid (HLF.out w3 hA3); have HF3 := Lib.hid hF3; clear hA3 hF3 hr3)
      | (go_at_call 52; refine HLE.out.mono ?_; rintro e w4 ⟨rfl, hF4⟩; have HF4 := Lib.hid hF4; clear hF4)
      | (go_at_call 51; refine (wlives_any _).mono ?_; rintro e w9 ⟨rfl, hF9⟩; have HF9 := Lib.hid hF9; clear hF9))
    go_ret
    refine ⟨rfl, ?_⟩
    have h13 : Frm (fun _ => False) W w3 := HF1.out.trans (HF2.out.trans' HF3.out) (fun i hi h => by have := HLO1.out i h; omega)
    exact (h13.trans' HF4.out).trans' HF9.out
end Go.Proofs.Ytmkkeglcjbogcaa
