/-
  The wheel as a function: what its calls keep; a wheel with one timer. The wheel's laws: two wheels side by side. The document's wheel in memory; within, find, Left, Next. The document's wheel: Left, Next. A region that draws its order, whose last operation (number z, a store that waits for all others) need not leave the condition S as it was: so that cells which that store hits may be read by takes. No Go function is named here.
-/
import Derived.Test.YtmkkeglcjbogcaaM915ebada
import Derived.Test.YtmkkeglcjbogcaaM6a490ed4
import Derived.Test.YtmkkeglcjbogcaaMc1e7d997
set_option linter.unusedVariables false
set_option linter.unusedSimpArgs false
namespace Go.Proofs.Ytmkkeglcjbogcaa
set_option linter.unusedVariables false
set_option linter.unusedSimpArgs false

theorem stop_ok {s : Wh} {e : Int} (h : s.ok) (he : s.now ≤ e) (hc : s.next.2 = false ∨ e - s.now < s.next.1) : Wh.ok ⟨s.tm, e, s.last⟩ := by
  refine ⟨h.srt, h.lo, fun t ht => ?_, h.per, h.len, by have := h.now; show 0 ≤ e; omega⟩
  have h1 := h.due t ht
  show e < t.due ∧ t.due ≤ e + 4294967296
  cases hx : s.next.2 with
  | false =>
    have : s.tm = [] := by
      unfold Wh.next at hx
      cases htm : s.tm with
      | nil => rfl
      | cons x r => rw [htm] at hx; cases hx
    rw [this] at ht; cases ht
  | true =>
    have h2 := (next_facts h hx).2.2 t ht
    rcases hc with hc | hc
    · rw [hx] at hc; cases hc
    · omega
theorem run_facts (e : Int) (f : Nat) (s : Wh) (told : List Int) (h : s.ok) (he : s.now ≤ e) (hf : e - s.now < f) : (Wh.run e f s told).1.ok ∧ (Wh.run e f s told).1.last = s.last ∧ (Wh.run e f s told).1.now = e := by
  induction f generalizing s told with
  | zero => omega
  | succ f ih =>
    unfold Wh.run
    by_cases hc : s.next.2 = false ∨ e - s.now < s.next.1
    · rw [if_pos hc]
      exact ⟨stop_ok h he hc, rfl, rfl⟩
    · rw [if_neg hc]
      have hx : s.next.2 = true := by
        cases hx : s.next.2 with
        | true => rfl
        | false => exact absurd (.inl hx) hc
      have hl : s.next.1 ≤ e - s.now := Int.not_lt.1 (fun h => hc (.inr h))
      have h1 := next_facts h hx
      obtain ⟨r1, r2, r3⟩ := ih (Wh.fires ⟨s.tm, s.now + s.next.1, s.last⟩ told).1 (Wh.fires ⟨s.tm, s.now + s.next.1, s.last⟩ told).2 (step_ok told h hx) (by show s.now + s.next.1 ≤ e; omega) (by show e - (s.now + s.next.1) < f; omega)
      exact ⟨r1, r2, r3⟩
theorem tick_facts (s : Wh) (x : Int) (h : s.ok) (hx : 0 ≤ x) : (s.tick x).1.ok ∧ (s.tick x).1.last = s.last ∧ (s.tick x).1.now = s.now + min x 1048576 :=
  run_facts _ _ s [] h (by omega) (by omega)
/-- A wheel that was used k times, at most m ticks a time. -/
structure Wh.used (s : Wh) (m k : Nat) : Prop where
  (ok : s.ok) (last : 0 ≤ s.last ∧ s.last ≤ k) (now : s.now ≤ m * k)
theorem Wh.used.le {s : Wh} {m k : Nat} (h : s.used m k) : s.used m (k + 1) := ⟨h.ok, ⟨h.last.1, by have := h.last.2; omega⟩, by have := h.now; rw [Int.natCast_add, Int.mul_add]; omega⟩
theorem adds_used {s : Wh} {m k : Nat} (after per what : Int) (h : s.used m k) (ha : 1 ≤ after ∧ after ≤ 4294967296) (hp : 0 ≤ per ∧ per ≤ 4294967296) : (s.adds after per what).1.used m (k + 1) := by
  refine ⟨adds_ok after per what h.ok ha hp h.last.1, ?_, ?_⟩
  · unfold Wh.adds
    split
    · exact h.le.last
    · have := h.last
      show 0 ≤ s.last + 1 ∧ s.last + 1 ≤ ((k + 1 : Nat) : Int)
      omega
  · unfold Wh.adds
    split
    · exact h.le.now
    · exact h.le.now
theorem add_used {s : Wh} {m k : Nat} (after what : Int) (h : s.used m k) : (s.add after what).1.used m (k + 1) := by
  unfold Wh.add
  split
  · rename_i hw
    exact adds_used after 0 what h (by unfold withinW at hw; simpa using hw) ⟨by omega, by omega⟩
  · exact h.le
theorem every_used {s : Wh} {m k : Nat} (first per what : Int) (h : s.used m k) : (s.every first per what).1.used m (k + 1) := by
  unfold Wh.every
  split
  · rename_i hw
    rw [Bool.and_eq_true] at hw
    obtain ⟨h1, h2⟩ := hw
    have a1 : 1 ≤ first ∧ first ≤ 4294967296 := by unfold withinW at h1; simpa using h1
    have a2 : 1 ≤ per ∧ per ≤ 4294967296 := by unfold withinW at h2; simpa using h2
    exact adds_used first per what h a1 ⟨by omega, a2.2⟩
  · exact h.le
theorem cancel_used {s : Wh} {m k : Nat} (no : Int) (h : s.used m k) : (s.cancel no).1.used m (k + 1) := ⟨cancel_ok no h.ok, h.le.last, h.le.now⟩
theorem tick_used {s : Wh} {m k : Nat} (x : Int) (h : s.used m k) (hx : 0 ≤ x) (hm : min x 1048576 ≤ m) : (s.tick x).1.used m (k + 1) := by
  obtain ⟨h1, h2, h3⟩ := tick_facts s x h.ok hx
  refine ⟨h1, by rw [h2]; exact h.le.last, ?_⟩
  rw [h3]
  have := h.now
  rw [Int.natCast_add, Int.mul_add]
  omega
theorem cancel_hit {s : Wh} {t : Tm} (h : s.ok) (ht : t ∈ s.tm) : (s.cancel t.no).2 = true ∧ s.tm.Perm (t :: (s.cancel t.no).1.tm) := by
  refine ⟨?_, ?_⟩
  · unfold Wh.cancel
    simp only [List.any_eq_true]
    exact ⟨t, ht, by simp⟩
  · show s.tm.Perm (t :: s.tm.filter (fun u => u.no != t.no))
    have hs := h.srt
    revert hs ht
    generalize s.tm = l
    intro ht hs
    induction l with
    | nil => cases ht
    | cons x r ih =>
      rw [List.pairwise_cons] at hs
      rcases List.mem_cons.1 ht with rfl | ht
      · rw [List.filter_cons_of_neg (by simp), List.filter_eq_self.2]
        intro u hu
        have := hs.1 u hu
        simp
        omega
      · have h1 := hs.1 t ht
        rw [List.filter_cons_of_pos (by simp; omega)]
        exact ((ih ht hs.2).cons x).trans (.swap _ _ _)
theorem cancel_miss {s : Wh} {x : Int} (h : ∀ t ∈ s.tm, t.no ≠ x) : s.cancel x = (s, false) := by
  unfold Wh.cancel
  have h1 : s.tm.filter (fun t => t.no != x) = s.tm := List.filter_eq_self.2 (fun t ht => by simp [h t ht])
  have h2 : s.tm.any (fun t => t.no == x) = false := by
    rw [Bool.eq_false_iff]
    intro e
    rw [List.any_eq_true] at e
    obtain ⟨t, ht, e⟩ := e
    exact h t ht (by simpa using e)
  rw [h1, h2]
theorem left_hit {s : Wh} {t : Tm} (h : s.ok) (ht : t ∈ s.tm) : s.left t.no = (t.due - s.now, true) := by
  have hs := h.srt
  unfold Wh.left
  have : s.tm.find? (fun u => u.no == t.no) = some t := by
    revert hs ht
    generalize s.tm = l
    intro ht hs
    induction l with
    | nil => cases ht
    | cons x r ih =>
      rw [List.pairwise_cons] at hs
      rcases List.mem_cons.1 ht with rfl | ht
      · rw [List.find?_cons_of_pos (by simp)]
      · have h1 := hs.1 t ht
        rw [List.find?_cons_of_neg (by simp; omega)]
        exact ih ht hs.2
  rw [this]
theorem left_miss {s : Wh} {x : Int} (h : ∀ t ∈ s.tm, t.no ≠ x) : s.left x = (0, false) := by
  unfold Wh.left
  have : s.tm.find? (fun u => u.no == x) = none := by
    rw [List.find?_eq_none]
    intro t ht
    simp [h t ht]
  rw [this]
/-- The only timer of a wheel, that runs out again and again. -/
theorem run_one (e q : Int) (hq : 1 ≤ q) : ∀ (f : Nat) (now d : Int) (told : List Int), now < d → now ≤ e → e - now < f → told.length + (e - now) < 65536 →
    Wh.run e f ⟨[⟨1, d, q, 3⟩], now, 1⟩ told = (⟨[⟨1, d + q * (if e < d then 0 else 1 + (e - d) / q), q, 3⟩], e, 1⟩, told ++ List.replicate (if e < d then 0 else 1 + (e - d) / q).toNat 3) := by
  intro f
  induction f with
  | zero => intro now d told h1 h2 h3; omega
  | succ f ih =>
    intro now d told h1 h2 h3 h4
    have hn : Wh.next ⟨[⟨1, d, q, 3⟩], now, 1⟩ = (d - now, true) := rfl
    unfold Wh.run
    rw [hn]
    simp only []
    by_cases hc : e - now < d - now
    · rw [if_pos (.inr hc), if_pos (by omega)]
      simp
    · rw [if_neg (by rintro (h | h); cases h; exact hc h)]
      have hde : ¬ e < d := by omega
      rw [if_neg hde]
      have hf : Wh.fires ⟨[⟨1, d, q, 3⟩], now + (d - now), 1⟩ told = (⟨[⟨1, d + q, q, 3⟩], d, 1⟩, told ++ [3]) := by
        rw [show now + (d - now) = d by omega]
        unfold Wh.fires fireT tellT
        have : told.length < 65536 := by omega
        simp [this, show 0 < q by omega]
      rw [hf]
      simp only []
      rw [ih d (d + q) (told ++ [3]) (by omega) (by omega) (by omega) (by rw [List.length_append, List.length_singleton]; omega)]
      by_cases h5 : e < d + q
      · rw [if_pos h5]
        have h6 : (e - d) / q = 0 := Int.ediv_eq_zero_of_lt (by omega) (by omega)
        rw [h6]
        simp
      · rw [if_neg h5]
        have h6 : (e - d) / q = 1 + (e - (d + q)) / q := by
          have : e - d = (e - (d + q)) + 1 * q := by omega
          rw [this, Int.add_mul_ediv_right _ _ (by omega)]
          omega
        rw [h6]
        have h7 : 0 ≤ (e - (d + q)) / q := Int.ediv_nonneg (by omega) (by omega)
        generalize (e - (d + q)) / q = z at h7 ⊢
        refine Prod.ext ?_ ?_
        · simp only [Wh.mk.injEq, and_true, List.cons.injEq, Tm.mk.injEq, true_and]
          rw [Int.mul_add q 1 (1 + z), Int.mul_one]
          omega
        · simp only [List.append_assoc]
          congr 1
          rw [show (1 + (1 + z)).toNat = (1 + z).toNat + 1 by omega]
          rfl
end Go.Proofs.Ytmkkeglcjbogcaa
namespace Go.Proofs.Ytmkkeglcjbogcaa
open Go.RowKit
set_option linter.unusedVariables false
set_option linter.unusedSimpArgs false

def CanPost (p n bw : Nat) (bs : List Nat) (r : Wh × Bool) (w : World) (e : Ending) (w' : World) : Prop := e = .returned (.bool r.2) ∧ WhAt w' p n bw bs r.1 ∧ Frm (WhS p bw bs) w w'
theorem wcancel_any (w : World) (p n bw : Nat) (bs : List Nat) (s : Wh) (x : Int) (h : WhAt w p n bw bs s) (hok : s.ok) : Calls Try.prog 46 #[ptrW p, .int .i64 x] w (CanPost p n bw bs (s.cancel x) w) := by
  by_cases hx : ∃ t ∈ s.tm, t.no = x
  · obtain ⟨t, ht, rfl⟩ := hx
    obtain ⟨h1, h2⟩ := cancel_hit hok ht
    refine (wcancel_hit w p n bw bs s t _ h h2).mono ?_
    rintro e w' ⟨rfl, hA, hF⟩
    exact ⟨by rw [h1], hA, hF.mono (fun _ _ h => .inr h)⟩
  · have hno : ∀ t ∈ s.tm, t.no ≠ x := fun t ht e => hx ⟨t, ht, e⟩
    refine (wcancel_miss w p n bw bs s x h hno).mono ?_
    rintro e w' ⟨rfl, rfl⟩
    rw [cancel_miss hno]
    exact ⟨rfl, h, Frm.refl _ _⟩
theorem wnewI_any (x : Int) (w : World) (h1 : 1 ≤ x) (h2 : x ≤ 4096) : Calls Try.prog 43 #[.int .i64 x] w (NewWPost x.toNat w) := by
  have e : x = ((x.toNat : Nat) : Int) := by omega
  have h := wnew_any x.toNat w (by omega) (by omega)
  rw [← e] at h
  exact h
theorem used_fits {s : Wh} {m k : Nat} (h : s.used m k) (hb : m * k ≤ 4611686018427387904) (hk : k ≤ 4611686018427387904) : s.fits := by
  refine ⟨h.ok, ⟨h.last.1, by have := h.last.2; omega⟩, ?_⟩
  have h1 := h.now
  have h2 : (m : Int) * (k : Int) = ((m * k : Nat) : Int) := by rw [Int.natCast_mul]
  rw [h2] at h1
  omega
/-- An act that was handed in. -/
structure WAc where
  (kind timer what a b : Int)
def encW (x : WAc) : List Value := [.int .i64 x.kind, .int .i64 x.timer, .int .i64 x.what, .int .u64 x.a, .int .u64 x.b]
theorem encW_len (x : WAc) : (encW x).length = 5 := rfl
/-- Two wheels at one state, apart, in new blocks. -/
structure Duo (W wr : World) (p1 n1 bw1 : Nat) (bs1 : List Nat) (p2 n2 bw2 : Nat) (bs2 : List Nat) (s : Wh) : Prop where
  a1 : WhAt wr p1 n1 bw1 bs1 s
  a2 : WhAt wr p2 n2 bw2 bs2 s
  sep : ∀ k, WhS p1 bw1 bs1 k → ¬ WhS p2 bw2 bs2 k
  lo1 : ∀ k, WhS p1 bw1 bs1 k → W.heap.size ≤ k
  lo2 : ∀ k, WhS p2 bw2 bs2 k → W.heap.size ≤ k
  frm : Frm (fun _ => False) W wr
theorem Duo.grow {W wr w2 : World} {p1 n1 bw1 p2 n2 bw2 : Nat} {bs1 bs2 : List Nat} {s : Wh} (h : Duo W wr p1 n1 bw1 bs1 p2 n2 bw2 bs2 s) (hF : Frm (fun _ => False) wr w2) : Duo W w2 p1 n1 bw1 bs1 p2 n2 bw2 bs2 s :=
  ⟨h.a1.grow hF, h.a2.grow hF, h.sep, h.lo1, h.lo2, h.frm.trans' hF⟩
/-- The first wheel goes ahead. -/
theorem Duo.one {W wr w2 : World} {p1 n1 bw1 p2 n2 bw2 : Nat} {bs1 bs2 : List Nat} {s : Wh} (h : Duo W wr p1 n1 bw1 bs1 p2 n2 bw2 bs2 s) (hF : Frm (WhS p1 bw1 bs1) wr w2) : WhAt w2 p2 n2 bw2 bs2 s :=
  h.a2.frm hF (fun k h2 h1 => h.sep k h1 h2) (fun k cur hc h1 => h.a1.row_not hc (by decide) h1)
/-- The second one follows. -/
theorem Duo.two {W wr w2 w3 : World} {p1 n1 bw1 p2 n2 bw2 : Nat} {bs1 bs2 : List Nat} {s s' : Wh} (h : Duo W wr p1 n1 bw1 bs1 p2 n2 bw2 bs2 s) (h1 : WhAt w2 p1 n1 bw1 bs1 s') (hF : Frm (WhS p1 bw1 bs1) wr w2) (h2 : WhAt w3 p2 n2 bw2 bs2 s') (hG : Frm (WhS p2 bw2 bs2) w2 w3) : Duo W w3 p1 n1 bw1 bs1 p2 n2 bw2 bs2 s' := by
  have h22 := h.one hF
  refine ⟨h1.frm hG (fun k => h.sep k) (fun k cur hc h2 => h22.row_not hc (by decide) h2), h2, h.sep, h.lo1, h.lo2, ?_⟩
  refine (h.frm.trans hF (fun i hi e => ?_)).trans hG (fun i hi e => ?_)
  · have := h.lo1 i e; omega
  · have := h.lo2 i e; omega
end Go.Proofs.Ytmkkeglcjbogcaa
namespace Go.Proofs.Ytmkkeglcjbogcaa
open Go.RowKit
set_option linter.unusedVariables false
set_option linter.unusedSimpArgs false

def encT (now : Int) (t : Tm) : List Value := [.int .i64 t.no, .int .u64 (t.due - now), .int .u64 t.per, .int .i64 t.what]
theorem encT_len (now : Int) (t : Tm) : (encT now t).length = 4 := rfl
/-- The document's wheel at block d. -/
structure RWAt (w : World) (d : Nat) (v : Value) (s : Wh) : Prop where
  cell : w.heap[d]? = some (.cells #[v, .int .u64 s.now, .int .i64 s.last] 115 (0, 0))
  row : w.ownsRow 0 165 4 v s.tm.length (cellsOf (encT s.now) s.tm)
theorem RWAt.ne {w : World} {d : Nat} {v : Value} {s : Wh} (h : RWAt w d v s) : ¬ v.ownBlock = some d := fun e => by
  obtain ⟨_, cur, hc⟩ := row_block h.row e
  rw [h.cell] at hc
  cases hc
theorem RWAt.frm {T : Nat → Prop} {w w' : World} {d : Nat} {v : Value} {s : Wh} (h : RWAt w d v s) (hF : Frm T w w') (hd : ¬ T d) (hv : ∀ k, v.ownBlock = some k → ¬ T k) : RWAt w' d v s := ⟨hF.heap h.cell hd, hF.row h.row hv⟩
theorem RWAt.grow {w w' : World} {d : Nat} {v : Value} {s : Wh} (h : RWAt w d v s) (hF : Frm (fun _ => False) w w') : RWAt w' d v s := h.frm hF (fun h => h) (fun _ _ h => h)
/-- The cells of a timer. -/
theorem RWAt.open_ {w : World} {d : Nat} {v : Value} {s : Wh} (h : RWAt w d v s) : ∃ A cap, v = .slice A s.tm.length cap ∧ s.tm.length ≤ cap ∧ cap ≤ maxLen ∧ (0 < s.tm.length → ∃ g, A = some ⟨g, 0, none⟩ ∧ ∀ i (hi : i < s.tm.length),
    w.cell? ⟨g, i * 4, none⟩ = some (.int .i64 s.tm[i].no) ∧ w.cell? ⟨g, i * 4 + 1, none⟩ = some (.int .u64 (s.tm[i].due - s.now)) ∧ w.cell? ⟨g, i * 4 + 2, none⟩ = some (.int .u64 s.tm[i].per) ∧ w.cell? ⟨g, i * 4 + 3, none⟩ = some (.int .i64 s.tm[i].what)) := by
  obtain ⟨A, cap, rfl, h1, h2, h3⟩ := row_open h.row
  refine ⟨A, cap, rfl, h1, h2, fun h0 => ?_⟩
  obtain ⟨g, rfl, _, _, _, hc⟩ := h3 h0
  refine ⟨g, rfl, fun i hi => ?_⟩
  have hg : ∀ j, j < 4 → w.cell? ⟨g, i * 4 + j, none⟩ = (encT s.now s.tm[i])[j]? := fun j hj => by
    rw [hc _ (by omega), cellsOf_get (encT_len s.now) s.tm i j hi hj]
  exact ⟨hg 0 (by decide), hg 1 (by decide), hg 2 (by decide), hg 3 (by decide)⟩
set_option maxRecDepth 100000 in
theorem rwwithin_any (x : Int) (w : World) : Calls Try.prog 110 #[.int .u64 x] w fun e w' => e = .returned (.bool (withinW x)) ∧ w = w' := by
  by_cases h1 : 1 ≤ x
  · by_cases h2 : x ≤ 4294967296
    · have HE : Hid (withinW x = true) := by unfold Hid withinW; simp [h1, h2]
      go_enter Try.func110, Try.ntmps110
      go_wp2
      go_ret
      exact ⟨by rw [HE.out]; rfl, rfl⟩
    · have HE : Hid (withinW x = false) := by unfold Hid withinW; simp [h2]
      go_enter Try.func110, Try.ntmps110
      go_wp2
      go_ret
      exact ⟨by rw [HE.out]; rfl, rfl⟩
  · have HE : Hid (withinW x = false) := by unfold Hid withinW; simp [h1]
    go_enter Try.func110, Try.ntmps110
    go_wp2
    go_ret
    exact ⟨by rw [HE.out]; rfl, rfl⟩
/-- What find tells. -/
def FoundAt (s : Wh) (x : Int) (r : Int) : Prop := (r = -1 ∧ ∀ t ∈ s.tm, t.no ≠ x) ∨ ∃ (i : Nat) (hi : i < s.tm.length), r = i ∧ s.tm[i].no = x
def FindPost (s : Wh) (x : Int) (w : World) (e : Ending) (w' : World) : Prop := ∃ r, e = .returned (.int .i64 r) ∧ FoundAt s x r ∧ w = w'
set_option maxRecDepth 100000 in
set_option maxHeartbeats 1000000 in
theorem rwfind_any (w : World) (d : Nat) (v : Value) (s : Wh) (x : Int) (h : RWAt w d v s) : Calls Try.prog 111 #[ptrW d, .int .i64 x] w (FindPost s x w) := by
  obtain ⟨A, cap, rfl, hc1, hc2, hcl⟩ := h.open_
  have k0 : w.cell? ⟨d, 0, none⟩ = some (.slice A s.tm.length cap) := cell_at h.cell
  obtain ⟨n, hn⟩ : ∃ n, n = s.tm.length := ⟨_, rfl⟩
  rw [← hn] at k0 hc1
  have hnm : n ≤ 9223372036854775807 := by unfold maxLen at hc2; omega
  have HN := Lib.hid hn
  have HCL := Lib.hid hcl
  unfold ptrW
  clear hcl hn h hc1 hc2
  go_enter Try.func111, Try.ntmps111
  go_wp2_with fail
  try go_frame
  go_loop [5] (fun i => ∃ k : Nat, k ≤ n ∧ i = .int .i64 k ∧ ∀ j (hj : j < s.tm.length), j < k → s.tm[j].no ≠ x) (fun i => n - (intOf i).toNat)
  case atStart => exact ⟨0, Nat.zero_le _, rfl, fun j hj h => absurd h (Nat.not_lt_zero _)⟩
  case round =>
    obtain ⟨k, hk, rfl, hno⟩ := hrel
    have HNO := Lib.hid hno
    clear hno
    by_cases hlt : k < n
    · have hkl : k < s.tm.length := by rw [← HN.out]; exact hlt
      obtain ⟨g, rfl, hc⟩ := HCL.out (by omega)
      have c0 := (hc k hkl).1
      obtain ⟨y, hy⟩ : ∃ y, y = s.tm[k].no := ⟨_, rfl⟩
      rw [← hy] at c0
      have HY := Lib.hid hy
      have HKL := Lib.hid hkl
      have hkn : (k : Int) < (n : Int) := by omega
      clear hc hy
      by_cases hyx : y = x
      · have HE : Hid (y = x) := hyx
        have g1 : (y == x) = true := by simp [hyx]
        clear hyx
        go_wp2_with fail
        go_ret
        exact ⟨_, rfl, .inr ⟨k, HKL.out, rfl, by rw [← HY.out]; exact HE.out⟩, rfl⟩
      · have HE : Hid (y ≠ x) := hyx
        have g1 : (y == x) = false := by simp [hyx]
        clear hyx
        go_wp2_with fail
        go_round
        case rel => exact ⟨k + 1, hlt, by go_num, fun j hj h => by
          by_cases hjk : j = k
          · subst hjk; rw [← HY.out]; exact HE.out
          · exact HNO.out j hj (by omega)⟩
        case measure => simp [intOf]; omega
    · obtain rfl : k = n := by omega
      have hkn : ¬ (k : Int) < (k : Int) := by omega
      go_wp2_with fail
      go_ret
      exact ⟨_, rfl, .inl ⟨rfl, fun t ht => by
        obtain ⟨j, hj, rfl⟩ := List.getElem_of_mem ht
        exact HNO.out j hj (by rw [HN.out]; exact hj)⟩, rfl⟩
end Go.Proofs.Ytmkkeglcjbogcaa
namespace Go.Proofs.Ytmkkeglcjbogcaa
open Go.RowKit
open List (getElem_toArray getElem_cons_zero getElem_cons_succ setIfInBounds_toArray set_cons_zero set_cons_succ)
set_option linter.unusedVariables false
set_option linter.unusedSimpArgs false

def LeftPost (s : Wh) (x : Int) (w : World) (e : Ending) (w' : World) : Prop := e = .returned (.tuple #[.int .u64 (s.left x).1, .bool (s.left x).2]) ∧ w = w'
set_option maxRecDepth 100000 in
theorem rwleft_any (w : World) (d : Nat) (v : Value) (s : Wh) (x : Int) (h : RWAt w d v s) (hok : s.ok) : Calls Try.prog 85 #[ptrW d, .int .i64 x] w (LeftPost s x w) := by
  obtain ⟨A, cap, rfl, hc1, hc2, hcl⟩ := h.open_
  have k0 : w.cell? ⟨d, 0, none⟩ = some (.slice A s.tm.length cap) := cell_at h.cell
  have HF := Lib.hid (rwfind_any w d _ s x h)
  have HCL := Lib.hid hcl
  have HOK := Lib.hid hok
  obtain ⟨n, hn⟩ : ∃ n, n = s.tm.length := ⟨_, rfl⟩
  rw [← hn] at k0 hc1
  have hnm : n ≤ 9223372036854775807 := by unfold maxLen at hc2; omega
  have HN := Lib.hid hn
  unfold ptrW at *
  clear hcl hn h hc1 hc2 hok
  go_enter Try.func85, Try.ntmps85
  go_upto_region 2 with (go_at_call 111; refine HF.out.mono ?_; rintro e w2 ⟨r, rfl, hr, rfl⟩; have HR := Lib.hid hr; clear hr)
  rcases HR.out with ⟨rfl, hno⟩ | ⟨i, hi, rfl, hi2⟩
  · have HE := Lib.hid (left_miss hno)
    clear hno HR
    go_wp2_with fail
    go_ret2
    unfold LeftPost
    rw [HE.out]
    exact ⟨rfl, rfl⟩
  · obtain ⟨g, rfl, hc⟩ := HCL.out (by omega)
    have c1 := (hc i hi).2.1
    have hl := left_hit HOK.out (List.getElem_mem hi)
    rw [hi2] at hl
    obtain ⟨y, hy⟩ : ∃ y, y = s.tm[i].due - s.now := ⟨_, rfl⟩
    rw [← hy] at c1 hl
    have HE := Lib.hid hl
    have hin : i < n := by rw [HN.out]; exact hi
    have hi0 : ¬ ((i : Int) < 0) := by omega
    clear hc hl hy hi2 HR hi
    go_wp2_with fail
    go_ret2
    unfold LeftPost
    rw [HE.out]
    exact ⟨rfl, rfl⟩
theorem leastL_snoc (l : List Int) (y : Int) : (leastL (l ++ [y])).1 = if l.length = 0 ∨ y < (leastL l).1 then y else (leastL l).1 := by
  cases l with
  | nil => rfl
  | cons x r =>
    show (r ++ [y]).foldl min x = _
    rw [List.foldl_append]
    show min (r.foldl min x) y = if (x :: r).length = 0 ∨ y < r.foldl min x then y else r.foldl min x
    simp only [List.length_cons, Nat.add_one_ne_zero, false_or]
    split <;> omega
set_option maxRecDepth 100000 in
set_option maxHeartbeats 1000000 in
theorem rwnext_any (w : World) (d : Nat) (v : Value) (s : Wh) (h : RWAt w d v s) : Calls Try.prog 88 #[ptrW d] w fun e w' => e = .returned (.tuple #[.int .u64 s.next.1, .bool s.next.2]) ∧ Frm (fun _ => False) w w' := by
  obtain ⟨A, cap, rfl, hc1, hc2, hcl⟩ := h.open_
  have k0 : w.cell? ⟨d, 0, none⟩ = some (.slice A s.tm.length cap) := cell_at h.cell
  have HCL := Lib.hid hcl
  obtain ⟨n, hn⟩ : ∃ n, n = s.tm.length := ⟨_, rfl⟩
  rw [← hn] at k0 hc1
  have hnm : n ≤ 9223372036854775807 := by unfold maxLen at hc2; omega
  have HN := Lib.hid hn
  obtain ⟨M, hM⟩ : ∃ M, M = s.tm.map fun t => t.due - s.now := ⟨_, rfl⟩
  have HM := Lib.hid hM
  have HML : Hid (M.length = n) := by unfold Hid; rw [hM, hn, List.length_map]
  have HNX : Hid (s.next = leastL M) := by unfold Hid; rw [hM]; rfl
  have HNX2 : Hid (s.next.2 = decide (0 < n)) := by
    unfold Hid; rw [hn]; unfold Wh.next
    cases s.tm with
    | nil => rfl
    | cons x r => simp [leastL]
  unfold ptrW at *
  clear hcl hn h hc1 hc2 hM
  go_enter Try.func88, Try.ntmps88
  go_wp2_with fail
  try go_frame
  go_loop [4, 5] (fun a i => ∃ k : Nat, k ≤ n ∧ i = .int .i64 k ∧ a = .int .u64 (leastL (M.take k)).1) (fun _ i => n - (intOf i).toNat)
  case atStart => exact ⟨0, Nat.zero_le _, rfl, rfl⟩
  case round =>
    obtain ⟨k, hk, rfl, rfl⟩ := hrel
    by_cases hlt : k < n
    · have hkl : k < s.tm.length := by rw [← HN.out]; exact hlt
      have hkM : k < M.length := by rw [HML.out]; exact hlt
      obtain ⟨g, rfl, hc⟩ := HCL.out (by omega)
      have c1 := (hc k hkl).2.1
      obtain ⟨y, hy⟩ : ∃ y, y = s.tm[k].due - s.now := ⟨_, rfl⟩
      rw [← hy] at c1
      have hst := leastL_snoc (M.take k) y
      have htk : M.take (k + 1) = M.take k ++ [y] := by
        rw [List.take_succ_eq_append_getElem hkM]
        congr 2
        have e := HM.out
        subst e
        rw [List.getElem_map, hy]
      rw [← htk, List.length_take, Nat.min_eq_left (by omega)] at hst
      have HST := Lib.hid hst
      have hkn : (k : Int) < (n : Int) := by omega
      generalize (leastL (M.take k)).1 = z at *
      clear hc hy hst htk hkM
      by_cases h0 : k = 0
      · have HE : Hid ((leastL (M.take (k + 1))).1 = y) := by have := HST.out; rw [if_pos (.inl h0)] at this; exact this
        have g1 : ((k : Int) == 0) = true := by simp [h0]
        clear h0
        go_wp2_with fail
        go_round
        case rel => exact ⟨k + 1, hlt, by go_num, by rw [HE.out]⟩
        case measure => simp [intOf]; omega
      · have g1 : ((k : Int) == 0) = false := by simp [h0]
        by_cases hyz : y < z
        · have HE : Hid ((leastL (M.take (k + 1))).1 = y) := by have := HST.out; rw [if_pos (.inr hyz)] at this; exact this
          have g2 : decide (y < z) = true := by simp [hyz]
          clear h0 hyz
          go_wp2_with fail
          go_round
          case rel => exact ⟨k + 1, hlt, by go_num, by rw [HE.out]⟩
          case measure => simp [intOf]; omega
        · have HE : Hid ((leastL (M.take (k + 1))).1 = z) := by have := HST.out; rw [if_neg (by rintro (h | h); exact h0 h; exact hyz h)] at this; exact this
          have g2 : decide (y < z) = false := by simp [hyz]
          clear h0 hyz
          go_wp2_with fail
          go_round
          case rel => exact ⟨k + 1, hlt, by go_num, by rw [HE.out]⟩
          case measure => simp [intOf]; omega
    · obtain rfl : k = n := by omega
      have hkn : ¬ (k : Int) < (k : Int) := by omega
      have HE : Hid ((leastL (M.take k)).1 = s.next.1) := by unfold Hid; rw [HNX.out, List.take_of_length_le (by rw [HML.out]; exact Nat.le_refl _)]
      generalize (leastL (M.take k)).1 = z at *
      have HC7 := Lib.hid (fun W (h : Frm (fun _ => False) w W) => h.cell k0 (fun h => h))
      go_wp2_with fail
      refine wp_region_held_drew (S := fun W => Frm (fun _ => False) w W) (by kernel_rfl) ((Frm.refl _ _).drew) (fun hHeld => ?_)
      refine wpAnyH_take (i := 0) (v := ?_) rfl (by kernel_rfl) (by kernel_rfl) (by kernel_rfl) (fun _ _ _ h => h) (Or.inl ⟨by rfl, ?_⟩) (by assumption) ?_; rotate_left; · (intro wq hSq; have hq := HC7.out wq hSq; go_split_ands; go_simp; (try with_reducible rfl))
      try simp only [Act.put, getElem_toArray, getElem_cons_zero, getElem_cons_succ, setIfInBounds_toArray, set_cons_zero, set_cons_succ]
      refine wpAnyH_take (i := 1) (v := ?_) rfl (by kernel_rfl) (by kernel_rfl) (by kernel_rfl) (fun _ _ _ h => h) (Or.inl ⟨by rfl, ?_⟩) (by assumption) ?_; rotate_left; · (intro wq hSq; have hq := HC7.out wq hSq; go_split_ands; go_simp; (try with_reducible rfl))
      try simp only [Act.put, getElem_toArray, getElem_cons_zero, getElem_cons_succ, setIfInBounds_toArray, set_cons_zero, set_cons_succ]
      refine wpAnyH_take (i := 2) (v := ?_) rfl (by kernel_rfl) (by kernel_rfl) (by kernel_rfl) (fun _ _ _ h => h) (Or.inl ⟨by rfl, ?_⟩) (by assumption) ?_; rotate_left; · (intro wq hSq; have hq := HC7.out wq hSq; go_split_ands; go_simp; (try with_reducible rfl))
      try simp only [Act.put, getElem_toArray, getElem_cons_zero, getElem_cons_succ, setIfInBounds_toArray, set_cons_zero, set_cons_succ]
      refine wpAnyH_take (i := 3) (v := ?_) rfl (by kernel_rfl) (by kernel_rfl) (by kernel_rfl) (fun _ _ _ h => h) (Or.inl ⟨by rfl, ?_⟩) (by assumption) ?_; rotate_left; · (intro wq hSq; have hq := HC7.out wq hSq; go_split_ands; go_simp; (try with_reducible rfl))
      try simp only [Act.put, getElem_toArray, getElem_cons_zero, getElem_cons_succ, setIfInBounds_toArray, set_cons_zero, set_cons_succ]
      refine wpAnyH_take (i := 4) (v := ?_) rfl (by kernel_rfl) (by kernel_rfl) (by kernel_rfl) (fun _ _ _ h => h) (Or.inl ⟨by rfl, ?_⟩) (by assumption) ?_; rotate_left; · (intro wq hSq; have hq := HC7.out wq hSq; go_split_ands; go_simp; (try with_reducible rfl))
      try simp only [Act.put, getElem_toArray, getElem_cons_zero, getElem_cons_succ, setIfInBounds_toArray, set_cons_zero, set_cons_succ]
      refine wpAnyH_take (i := 5) (v := ?_) rfl (by kernel_rfl) (by kernel_rfl) (by kernel_rfl) (fun _ _ _ h => h) (Or.inl ⟨by rfl, ?_⟩) (by assumption) ?_; rotate_left; · (intro wq hSq; have hq := HC7.out wq hSq; go_split_ands; go_simp; (try with_reducible rfl))
      try simp only [Act.put, getElem_toArray, getElem_cons_zero, getElem_cons_succ, setIfInBounds_toArray, set_cons_zero, set_cons_succ]
      refine wpAnyH_take (i := 6) (v := ?_) rfl (by kernel_rfl) (by kernel_rfl) (by kernel_rfl) (fun _ _ _ h => h) (Or.inl ⟨by rfl, ?_⟩) (by assumption) ?_; rotate_left; · (intro wq hSq; have hq := HC7.out wq hSq; go_split_ands; go_simp; (try with_reducible rfl))
      try simp only [Act.put, getElem_toArray, getElem_cons_zero, getElem_cons_succ, setIfInBounds_toArray, set_cons_zero, set_cons_succ]
      refine wpAnyH_take (i := 7) (v := ?_) rfl (by kernel_rfl) (by kernel_rfl) (by kernel_rfl) (fun _ _ _ h => h) (Or.inl ⟨by rfl, ?_⟩) (by assumption) ?_; rotate_left; · (intro wq hSq; have hq := HC7.out wq hSq; go_split_ands; go_simp; (try with_reducible rfl))
      try simp only [Act.put, getElem_toArray, getElem_cons_zero, getElem_cons_succ, setIfInBounds_toArray, set_cons_zero, set_cons_succ]
      refine wpAnyH_take (i := 8) (v := ?_) rfl (by kernel_rfl) (by kernel_rfl) (by kernel_rfl) (fun _ _ _ h => h) (Or.inl ⟨by rfl, ?_⟩) (by assumption) ?_; rotate_left; · (intro wq hSq; have hq := HC7.out wq hSq; go_split_ands; go_simp; (try with_reducible rfl))
      try simp only [Act.put, getElem_toArray, getElem_cons_zero, getElem_cons_succ, setIfInBounds_toArray, set_cons_zero, set_cons_succ]
      refine wpAnyH_done (by kernel_rfl) ?_ _
      go_wp2_with fail
      go_ret2
      rw [HNX2.out, ← HE.out]
      exact ⟨by simp, hHeld⟩
end Go.Proofs.Ytmkkeglcjbogcaa
namespace Go.Proofs.Ytmkkeglcjbogcaa
open Go.RowKit
set_option linter.unusedVariables false

section
variable {P : Program} {ops : Array Oper} {Q : Exit → Act → World → Prop} {md : Region.Mode} {S : World → Prop} {z : Nat}

/-- Whatever order is picked from here on; S holds behind every operation but z. -/
def wpAnyL (P : Program) (md : Region.Mode) (ops : Array Oper) (Q : Exit → Act → World → Prop) (S : World → Prop) (z : Nat) : Nat → Array Bool → Act → World → Prop
  | 0, listed, a, w => Region.ready md ops listed = [] ∧ Q .normal a w
  | fuel + 1, listed, a, w =>
    (Region.ready md ops listed = [] → Q .normal a w) ∧
    ∀ i ∈ Region.ready md ops listed, wpOp P ops Q i (fun a' w' => (i ≠ z → S w') ∧ wpAnyL P md ops Q S z fuel (listed.setIfInBounds i true) a' w') a w

theorem wpAny_of_L : ∀ (fuel : Nat) (listed : Array Bool) (a : Act) (w : World), wpAnyL P md ops Q S z fuel listed a w → wpAny P md ops Q fuel listed a w
  | 0, _, _, _, h => h
  | fuel + 1, _, _, _, h => ⟨h.1, fun i hi => wpOp_mono (fun a' w' h' => wpAny_of_L fuel _ a' w' h'.2) (h.2 i hi)⟩

theorem wpAnyL_first {i : Nat} {oi : Oper} {v : Value} (hi : ops[i]? = some oi) (hsel : ∀ (j : Nat) (o : Oper) cs b, ops[j]? = some o → o.op ≠ .select cs b)
    {m : Nat} (hm : m = i ∨ ∀ om, ops[m]? = some om → ∃ e ∈ om.after, Region.binds md e = true ∧ e.on = i) (hz : ∀ oz, ops[z]? = some oz → ∃ e ∈ oz.after, Region.binds md e = true ∧ e.on = m)
    (hQ : ∀ c a w, Q (.panic c) (a.put oi.dst v) w → Q (.panic c) a w) :
    ∀ (fuel : Nat) (listed : Array Bool) (a : Act) (w : World),
      (∀ j oj, ops[j]? = some oj → j ≠ i → listed.getD j true = false → (∀ e ∈ oj.after, Region.binds md e = true → e.on ≠ i) → oi.apart ops oj = true) →
      i ∈ Region.ready md ops listed → listed.getD m false = false → YieldsIf P ops S oi v a → S w →
      wpAnyL P md ops Q S z fuel (listed.setIfInBounds i true) (a.put oi.dst v) w → wpAnyL P md ops Q S z (fuel + 1) listed a w := by
  intro fuel
  induction fuel with
  | zero =>
    intro listed a w _ hr hml hy hS H
    refine ⟨fun h => (by rw [h] at hr; cases hr), fun j hj => ?_⟩
    by_cases hji : j = i
    · subst hji; exact hy.wpOp hi hS ⟨fun _ => hS, H⟩
    · have := ready_mono hj hji
      rw [H.1] at this
      cases this
  | succ fuel ih =>
    intro listed a w hfree hr hml hy hS H
    refine ⟨fun h => (by rw [h] at hr; cases hr), fun j hj => ?_⟩
    by_cases hji : j = i
    · subst hji; exact hy.wpOp hi hS ⟨fun _ => hS, H⟩
    · have h1 := H.2 j (ready_mono hj hji)
      obtain ⟨hjun, oj, hoj, hall⟩ := mem_ready.1 hj
      have hnot : ∀ e ∈ oj.after, Region.binds md e = true → e.on ≠ i := fun e he hb heq => by
        have h1 := hall e he hb
        have h0 := (mem_ready.1 hr).1
        rw [heq] at h1
        rcases Nat.lt_or_ge i listed.size with h' | h'
        · simp [h'] at h0 h1; rw [h0] at h1; cases h1
        · simp [Array.getElem?_eq_none h'] at h1
      have hjz : j ≠ z := fun e => by
        subst e
        obtain ⟨e, he, hb, heq⟩ := hz oj hoj
        have h9 := hall e he hb
        rw [heq, hml] at h9
        cases h9
      have hjm : j ≠ m := fun e => by
        subst e
        rcases hm with hm | hm
        · exact hji hm
        · obtain ⟨e, he, hb, heq⟩ := hm oj hoj
          exact hnot e he hb heq
      have h2 := wpOp_putIf hoj (hfree j oj hoj hji hjun hnot) (fun cs b => hsel i oi cs b hi) (fun cs b => hsel j oj cs b hoj) hQ hy h1
      have hfree' : ∀ k ok, ops[k]? = some ok → k ≠ i → (listed.setIfInBounds j true).getD k true = false →
          (∀ e ∈ ok.after, Region.binds md e = true → e.on ≠ i) → oi.apart ops ok = true := fun k ok hk hki hun hno => by
        refine hfree k ok hk hki ?_ hno
        by_cases hjk : j = k
        · subst hjk; exact hjun
        · rw [getD_set_ne true hjk] at hun; exact hun
      refine wpOp_mono (fun a' w' h3 => ⟨fun _ => h3.2.1 hjz, ih (listed.setIfInBounds j true) a' w' hfree' (ready_mono hr (Ne.symm hji)) (by rw [getD_set_ne false hjm]; exact hml) h3.1 (h3.2.1 hjz) ?_⟩) h2
      rw [Array.setIfInBounds_comm _ _ hji]
      exact h3.2.2

theorem edge_spec {k i : Nat} (h : ((ops[k]?).map fun o => o.after.any fun e => Region.binds md e && e.on == i) = some true) : ∀ ok, ops[k]? = some ok → ∃ e ∈ ok.after, Region.binds md e = true ∧ e.on = i := fun ok hok => by
  rw [hok] at h
  simp only [Option.map_some, Option.some.injEq, Array.any_eq_true'] at h
  obtain ⟨e, he, h2⟩ := h
  rw [Bool.and_eq_true] at h2
  exact ⟨e, he, h2.1, by simpa using h2.2⟩
theorem wpAnyL_take {i : Nat} {oi : Oper} {v : Value} {fuel : Nat} {listed : Array Bool} {a : Act} {w : World} (hi : ops[i]? = some oi)
    (hs : Region.noSelect ops = true) (hz : ((ops[z]?).map fun o => o.after.any fun e => Region.binds md e && e.on == i) = some true) (hf : Region.free md ops listed i = true) (hr : (Region.ready md ops listed).contains i = true)
    (hQ : ∀ c a w, Q (.panic c) (a.put oi.dst v) w → Q (.panic c) a w) (hy : YieldsIf P ops S oi v a) (hS : S w)
    (h : wpAnyL P md ops Q S z fuel (listed.setIfInBounds i true) (a.put oi.dst v) w) : wpAnyL P md ops Q S z (fuel + 1) listed a w := by
  have hri : i ∈ Region.ready md ops listed := by simpa using hr
  refine wpAnyL_first hi (Region.noSelect_spec hs) (.inl rfl) (edge_spec hz) hQ fuel listed a w (Region.free_spec hi hf) hri ?_ hy hS h
  have h0 := (mem_ready.1 hri).1
  rcases Nat.lt_or_ge i listed.size with h' | h'
  · simp [h'] at h0 ⊢; exact h0
  · simp [Array.getElem?_eq_none h']
/-- .. of which z hangs through m. -/
theorem wpAnyL_takem {i m : Nat} {oi : Oper} {v : Value} {fuel : Nat} {listed : Array Bool} {a : Act} {w : World} (hi : ops[i]? = some oi)
    (hs : Region.noSelect ops = true) (hm : ((ops[m]?).map fun o => o.after.any fun e => Region.binds md e && e.on == i) = some true) (hz : ((ops[z]?).map fun o => o.after.any fun e => Region.binds md e && e.on == m) = some true) (hml : listed.getD m false = false) (hf : Region.free md ops listed i = true) (hr : (Region.ready md ops listed).contains i = true)
    (hQ : ∀ c a w, Q (.panic c) (a.put oi.dst v) w → Q (.panic c) a w) (hy : YieldsIf P ops S oi v a) (hS : S w)
    (h : wpAnyL P md ops Q S z fuel (listed.setIfInBounds i true) (a.put oi.dst v) w) : wpAnyL P md ops Q S z (fuel + 1) listed a w :=
  wpAnyL_first hi (Region.noSelect_spec hs) (.inr (edge_spec hm)) (edge_spec hz) hQ fuel listed a w (Region.free_spec hi hf) (by simpa using hr) hml hy hS h

def AllReadyL (P : Program) (md : Region.Mode) (ops : Array Oper) (Q : Exit → Act → World → Prop) (S : World → Prop) (z : Nat) (fuel : Nat) (listed : Array Bool) (a : Act) (w : World) (rs : List Nat) : Prop :=
  ∀ i ∈ rs, wpOp P ops Q i (fun a' w' => (i ≠ z → S w') ∧ wpAnyL P md ops Q S z fuel (listed.setIfInBounds i true) a' w') a w
theorem AllReadyL.nil {fuel : Nat} {listed : Array Bool} {a : Act} {w : World} : AllReadyL P md ops Q S z fuel listed a w [] := fun _ h => by cases h
theorem AllReadyL.cons {fuel : Nat} {listed : Array Bool} {a : Act} {w : World} {i : Nat} {o : Oper} {rs : List Nat} (ho : ops[i]? = some o)
    (h : ∀ K' : Act → World → Prop, Shut (∀ a w, S w → (S w → wpAnyL P md ops Q S z fuel (listed.setIfInBounds i true) a w) → K' a w) → if Region.wanted o (yielded ops a.tmps) = true then Oper.wp P o a w K' Q else K' (a.put o.dst undef) w)
    (hs : AllReadyL P md ops Q S z fuel listed a w rs) : AllReadyL P md ops Q S z fuel listed a w (i :: rs) := fun j hj => by
  rcases List.mem_cons.1 hj with rfl | hj
  · exact wpOp_step ho (fun K' hK => h K' (fun a w hS hW => hK a w ⟨fun _ => hS, hW hS⟩))
  · exact hs j hj
/-- The last one: nothing is asked behind it. -/
theorem AllReadyL.last {fuel : Nat} {listed : Array Bool} {a : Act} {w : World} {o : Oper} (ho : ops[z]? = some o)
    (h : ∀ K' : Act → World → Prop, Shut (∀ a w, wpAnyL P md ops Q S z fuel (listed.setIfInBounds z true) a w → K' a w) → if Region.wanted o (yielded ops a.tmps) = true then Oper.wp P o a w K' Q else K' (a.put o.dst undef) w) :
    AllReadyL P md ops Q S z fuel listed a w [z] := fun j hj => by
  obtain rfl : j = z := by simpa using hj
  exact wpOp_step ho (fun K' hK => h K' (fun a w hW => hK a w ⟨fun h => absurd rfl h, hW⟩))
theorem wpAnyL_ready {rs : List Nat} {fuel : Nat} {listed : Array Bool} {a : Act} {w : World} (hr : Region.ready md ops listed = rs) (hne : rs ≠ [])
    (h : AllReadyL P md ops Q S z fuel listed a w rs) : wpAnyL P md ops Q S z (fuel + 1) listed a w :=
  ⟨fun h0 => absurd (hr ▸ h0) hne, hr ▸ h⟩
theorem wpAnyL_done {listed : Array Bool} {a : Act} {w : World} (hr : Region.ready md ops listed = []) (h : Q .normal a w) :
    ∀ fuel, wpAnyL P md ops Q S z fuel listed a w
  | 0 => ⟨hr, h⟩
  | _ + 1 => ⟨fun _ => h, by rw [hr]; simp⟩
theorem wp_region_L {id : Nat} {a : Act} {w : World} (z : Nat) (hm : P.follows .mixedOrders = true) (hS : S w.drew)
    (h : S w.drew → wpAnyL P .any ops Q S z ops.size (Array.replicate ops.size false) a w.drew) : (Code.region id ops true).wp P Q a w :=
  wp_region_any hm (wpAny_of_L _ _ _ _ (h hS))
end
end Go.Proofs.Ytmkkeglcjbogcaa
