/-
  Saw.
-/
import Derived.Test.YtjjmkpjclhielaaBootO
import Derived.Test.YtjjmkpjclhielaaCore3
namespace Go.Proofs.Ytjjmkpjclhielaa
open Go.RowKit
set_option linter.unusedVariables false

theorem BAt.frm {S : Nat → Prop} {w w' : World} {b : Nat} {l : List (Nat × Nd)} {t : Int} {hh : Bool} (h : BAt w b l t hh) (hF : Frm S w w') (hb : ¬ S b) (hl : ∀ q ∈ l, ¬ S q.1) (hr : ∀ k cur, S k → w.heap[k]? ≠ some (.cells cur 66 (0, 0))) : BAt w' b l t hh := by
  obtain ⟨v, hO, hw⟩ := h.row
  refine ⟨⟨v, hF.heap hO hb, hF.row hw fun j hj hs => ?_⟩, fun i hi => (h.el i hi).frm hF (hl _ (List.getElem_mem hi)), h.nd⟩
  obtain ⟨_, cur, hc⟩ := row_block hw hj
  exact hr _ cur hs hc
theorem BAt.grow {w w' : World} {b : Nat} {l : List (Nat × Nd)} {t : Int} {hh : Bool} (h : BAt w b l t hh) (hF : Frm (fun _ => False) w w') : BAt w' b l t hh := h.frm hF (fun h => h) (fun _ _ h => h) (fun _ _ h => h.elim)
theorem BAt.lt {w : World} {b : Nat} {l : List (Nat × Nd)} {t : Int} {hh : Bool} (h : BAt w b l t hh) : ∀ q ∈ l, q.1 < w.heap.size := fun q hq => by
  obtain ⟨j, hj, rfl⟩ := List.getElem_of_mem hq
  obtain ⟨A, c, _, hc⟩ := h.el j hj
  exact lt_of_block hc

/-- One node turns, and perhaps whether the boot is halted. -/
theorem BAt.upd {w w' : World} {b k : Nat} {l : List (Nat × Nd)} {t : Int} {hh hh' : Bool} (h : BAt w b l t hh) (hk : k < l.length) (x' : Nd) (hF : Frm (fun j => j = b ∨ j = l[k].1) w w')
    (hb : ∀ v, w.heap[b]? = some (.cells #[v, .int .i64 t, .bool hh] 64 (0, 0)) → w'.heap[b]? = some (.cells #[v, .int .i64 t, .bool hh'] 64 (0, 0))) (hp : NodeAt w' l[k].1 x') :
    BAt w' b (l.set k (l[k].1, x')) t hh' := by
  obtain ⟨v, hO, hr⟩ := h.row
  obtain ⟨A0, c0, _, hx⟩ := h.el k hk
  refine ⟨⟨v, hb v hO, ?_⟩, ?_, ?_⟩
  · have hm : (l.set k (l[k].1, x')).map (fun q => ptr q.1) = l.map fun q => ptr q.1 := by
      apply List.ext_getElem (by simp)
      intro i h1 h2
      by_cases e : k = i
      · subst e; simp
      · simp [e]
    rw [hm, List.length_set]
    exact hF.row hr (fun j hj hs => by
      obtain ⟨_, cur, hc⟩ := row_block hr hj
      rcases hs with rfl | rfl
      · exact block_ne hc hO (by decide) rfl
      · exact block_ne hc hx (by decide) rfl)
  · intro i hi
    have hi' : i < l.length := by simpa using hi
    by_cases e : k = i
    · subst e; simpa using hp
    · simp only [List.getElem_set, e, if_false]
      refine (h.el i hi').frm hF (fun hs => ?_)
      rcases hs with hs | hs
      · obtain ⟨A1, c1, _, hy⟩ := h.el i hi'
        rw [hs] at hy
        exact block_ne hO hy (by decide) rfl
      · exact e (nodup_at h.nd (by simpa using hk) (by simpa using hi') (by simpa using hs.symm))
  · have : (l.set k (l[k].1, x')).map (·.1) = l.map (·.1) := by
      apply List.ext_getElem (by simp)
      intro i h1 h2
      by_cases e : k = i
      · subst e; simp
      · simp [e]
    rw [this]; exact h.nd
theorem nds_set (l : List (Nat × Nd)) (k p : Nat) (x : Nd) : nds (l.set k (p, x)) = (nds l).set k x := by simp [nds, List.map_set]
theorem fst_set {l : List (Nat × Nd)} {k : Nat} (hk : k < l.length) (x : Nd) : (l.set k (l[k].1, x)).map (·.1) = l.map (·.1) := by
  apply List.ext_getElem (by simp)
  intro i h1 h2
  by_cases e : k = i
  · subst e; simp
  · simp [e]

set_option maxHeartbeats 1000000 in
theorem again_any (c : Int) (w : World) : Calls Try.prog 30 #[.int .u8 c] w fun e w' => e = .returned (.bool (againOf c)) ∧ w' = w := by
  unfold againOf
  by_cases h1 : c = 66
  · subst h1
    go_enter Try.func30, Try.ntmps30
    go_wp2_with fail
    go_ret
    exact ⟨rfl, rfl⟩
  · by_cases h2 : c = 75
    · subst h2
      go_enter Try.func30, Try.ntmps30
      go_wp2_with fail
      go_ret
      exact ⟨rfl, rfl⟩
    · by_cases h3 : c = 69
      · subst h3
        go_enter Try.func30, Try.ntmps30
        go_wp2_with fail
        go_ret
        exact ⟨rfl, rfl⟩
      · by_cases h4 : c = 71
        · subst h4
          go_enter Try.func30, Try.ntmps30
          go_wp2_with fail
          go_ret
          exact ⟨rfl, rfl⟩
        · have b1 : (c == 66) = false := by simpa using h1
          have b2 : (c == 75) = false := by simpa using h2
          have b3 : (c == 69) = false := by simpa using h3
          have b4 : (c == 71) = false := by simpa using h4
          clear h1 h2 h3 h4
          go_enter Try.func30, Try.ntmps30
          go_wp2_with fail
          go_ret
          exact ⟨by simp [b1, b2, b3, b4], rfl⟩

/-- What Saw does. -/
def SawPost (b : Nat) (l : List (Nat × Nd)) (t : Int) (r : Bs × Int × Int × Int) (w : World) (e : Ending) (w' : World) : Prop :=
  e = .returned (.tuple #[.int .u8 r.2.1, .int .i64 r.2.2.1, .int .i64 r.2.2.2]) ∧ ∃ l', BAt w' b l' t r.1.halted ∧ nds l' = r.1.l ∧ l'.map (·.1) = l.map (·.1) ∧ Frm (fun k => k = b ∨ k ∈ l.map (·.1)) w w'

def SawCut (b p : Nat) (x : Nd) (c todo : Int) (A : Option Addr) (cc : Nat) (l : List (Nat × Nd)) (t : Int) (w : World) (u v : Value) (wx : World) : Prop :=
  u = .int .u8 c ∧ v = .int .i64 todo ∧ BAt wx b l t false ∧ Frm (fun _ => False) w wx ∧ wx.heap[p]? = some (.cells (x.cells A cc) 74 (0, 0))

set_option maxRecDepth 100000 in
set_option maxHeartbeats 1000000 in
theorem saw_none (b : Nat) (l : List (Nat × Nd)) (t : Int) (hh : Bool) (n : Int) (s : Sn) (w : World) (h : BAt w b l t hh) (hp : placeN (nds l) n = none) :
    Calls Try.prog 12 #[ptr b, .int .i64 n, valS s] w (SawPost b l t (sawOf ⟨nds l, t, hh⟩ n s) w) := by
  have E : Hid (sawOf ⟨nds l, t, hh⟩ n s = (⟨nds l, t, hh⟩, 0, 0, 4)) := by unfold Hid sawOf; simp only [hp]
  have hg : Hid (BAt (w.alloc (.cells #[.bool s.there, .int .u32 s.dev, .int .u32 s.i0, .int .u32 s.i1, .int .u32 s.i2, .int .u32 s.i3, .int .u32 s.day, .int .u32 s.time, .int .i64 s.state, .int .u32 s.code, .bool s.beat] 40)) b l t hh) := h.grow (by (repeat' (first | (with_reducible exact Frm.refl _ _) | (with_reducible assumption) | (with_reducible refine Frm.alloc ?_ _) | (with_reducible refine Frm.drew ?_) | (with_reducible refine Frm.drewN ?_ _) | (with_reducible refine Frm.set1 ?_ _) | (with_reducible refine Frm.setCell ?_ ?_ _) | (exact fun h => absurd h (Nat.lt_irrefl _)) | (intro hlt; simp [World.size_alloc, One] at hlt ⊢; omega))))
  have H := Lib.hid (of_none hg.out hp)
  clear hp h
  unfold ptr valS at *
  go_enter Try.func12, Try.ntmps12
  go_wp2_with (go_at_call 26; refine H.out.mono ?_; rintro e w' ⟨rfl, m, rfl⟩)
  go_ret3
  exact ⟨by rw [E.out]; rfl, l, by rw [E.out]; exact hg.out.grow (by (repeat' (first | (with_reducible exact Frm.refl _ _) | (with_reducible assumption) | (with_reducible refine Frm.alloc ?_ _) | (with_reducible refine Frm.drew ?_) | (with_reducible refine Frm.drewN ?_ _) | (with_reducible refine Frm.set1 ?_ _) | (with_reducible refine Frm.setCell ?_ ?_ _) | (exact fun h => absurd h (Nat.lt_irrefl _)) | (intro hlt; simp [World.size_alloc, One] at hlt ⊢; omega)))), by rw [E.out], rfl, by (repeat' (first | (with_reducible exact Frm.refl _ _) | (with_reducible assumption) | (with_reducible refine Frm.alloc ?_ _) | (with_reducible refine Frm.drew ?_) | (with_reducible refine Frm.drewN ?_ _) | (with_reducible refine Frm.set1 ?_ _) | (with_reducible refine Frm.setCell ?_ ?_ _) | (exact fun h => absurd h (Nat.lt_irrefl _)) | (intro hlt; simp [World.size_alloc, One] at hlt ⊢; omega)))⟩

set_option maxRecDepth 100000 in
set_option maxHeartbeats 1000000 in
theorem saw_shut (b : Nat) (l : List (Nat × Nd)) (t : Int) (hh : Bool) (n : Int) (s : Sn) (w : World) (h : BAt w b l t hh) (k : Nat) (hp : placeN (nds l) n = some k) (hs : ∀ hk : k < l.length, l[k].2.is ≠ 0 ∨ hh = true) :
    Calls Try.prog 12 #[ptr b, .int .i64 n, valS s] w (SawPost b l t (sawOf ⟨nds l, t, hh⟩ n s) w) := by
  have hg : Hid (BAt (w.alloc (.cells #[.bool s.there, .int .u32 s.dev, .int .u32 s.i0, .int .u32 s.i1, .int .u32 s.i2, .int .u32 s.i3, .int .u32 s.day, .int .u32 s.time, .int .i64 s.state, .int .u32 s.code, .bool s.beat] 40)) b l t hh) := h.grow (by (repeat' (first | (with_reducible exact Frm.refl _ _) | (with_reducible assumption) | (with_reducible refine Frm.alloc ?_ _) | (with_reducible refine Frm.drew ?_) | (with_reducible refine Frm.drewN ?_ _) | (with_reducible refine Frm.set1 ?_ _) | (with_reducible refine Frm.setCell ?_ ?_ _) | (exact fun h => absurd h (Nat.lt_irrefl _)) | (intro hlt; simp [World.size_alloc, One] at hlt ⊢; omega))))
  obtain ⟨hk, hkn, hc⟩ := of_some hg.out hp
  have hs := hs hk
  have E : Hid (sawOf ⟨nds l, t, hh⟩ n s = (⟨nds l, t, hh⟩, 0, 0, 6)) := by unfold Hid sawOf; simp only [hp, nds_get hk]; rw [if_pos hs]
  have H := Lib.hid hc
  obtain ⟨_, _, r2, _, _⟩ := (h.el k hk).read
  obtain ⟨A, cap, hO, _, _⟩ := h.open_
  have c2 : w.cell? ⟨b, 2, none⟩ = some (.bool hh) := cell_at hO
  have hlt := World.block_lt_of_cell? w _ r2
  have hbl := lt_of_block hO
  clear hp h hc hO hkn
  generalize l[k] = q at *
  obtain ⟨p, x⟩ := q
  simp only at r2 hlt hs
  generalize x.is = xi at *
  unfold ptr valS at *
  by_cases hi : xi = 0
  · obtain rfl : hh = true := hs.resolve_left (fun h => h hi)
    have b0 : (xi != 0) = false := by simpa using hi
    clear hi hs
    go_enter Try.func12, Try.ntmps12
    go_wp2_with (go_at_call 26; refine H.out.mono ?_; rintro e w' ⟨rfl, m, rfl⟩)
    go_ret3
    exact ⟨by rw [E.out]; rfl, l, by rw [E.out]; exact hg.out.grow (by (repeat' (first | (with_reducible exact Frm.refl _ _) | (with_reducible assumption) | (with_reducible refine Frm.alloc ?_ _) | (with_reducible refine Frm.drew ?_) | (with_reducible refine Frm.drewN ?_ _) | (with_reducible refine Frm.set1 ?_ _) | (with_reducible refine Frm.setCell ?_ ?_ _) | (exact fun h => absurd h (Nat.lt_irrefl _)) | (intro hlt; simp [World.size_alloc, One] at hlt ⊢; omega)))), by rw [E.out], rfl, by (repeat' (first | (with_reducible exact Frm.refl _ _) | (with_reducible assumption) | (with_reducible refine Frm.alloc ?_ _) | (with_reducible refine Frm.drew ?_) | (with_reducible refine Frm.drewN ?_ _) | (with_reducible refine Frm.set1 ?_ _) | (with_reducible refine Frm.setCell ?_ ?_ _) | (exact fun h => absurd h (Nat.lt_irrefl _)) | (intro hlt; simp [World.size_alloc, One] at hlt ⊢; omega)))⟩
  · have b0 : (xi != 0) = true := by simpa using hi
    clear hi hs
    go_enter Try.func12, Try.ntmps12
    go_wp2_with (go_at_call 26; refine H.out.mono ?_; rintro e w' ⟨rfl, m, rfl⟩)
    go_ret3
    exact ⟨by rw [E.out]; rfl, l, by rw [E.out]; exact hg.out.grow (by (repeat' (first | (with_reducible exact Frm.refl _ _) | (with_reducible assumption) | (with_reducible refine Frm.alloc ?_ _) | (with_reducible refine Frm.drew ?_) | (with_reducible refine Frm.drewN ?_ _) | (with_reducible refine Frm.set1 ?_ _) | (with_reducible refine Frm.setCell ?_ ?_ _) | (exact fun h => absurd h (Nat.lt_irrefl _)) | (intro hlt; simp [World.size_alloc, One] at hlt ⊢; omega)))), by rw [E.out], rfl, by (repeat' (first | (with_reducible exact Frm.refl _ _) | (with_reducible assumption) | (with_reducible refine Frm.alloc ?_ _) | (with_reducible refine Frm.drew ?_) | (with_reducible refine Frm.drewN ?_ _) | (with_reducible refine Frm.set1 ?_ _) | (with_reducible refine Frm.setCell ?_ ?_ _) | (exact fun h => absurd h (Nat.lt_irrefl _)) | (intro hlt; simp [World.size_alloc, One] at hlt ⊢; omega)))⟩
end Go.Proofs.Ytjjmkpjclhielaa
