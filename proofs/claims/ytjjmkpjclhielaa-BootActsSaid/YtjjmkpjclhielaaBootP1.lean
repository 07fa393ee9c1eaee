/-
  The document's boot in memory; its Check, Find, May.
-/
import Derived.Test.YtjjmkpjclhielaaBootA
import Derived.Test.YtjjmkpjclhielaaDcfM
namespace Go.Proofs.Ytjjmkpjclhielaa
open Go.RowKit
set_option linter.unusedVariables false

set_option maxRecDepth 100000 in
set_option maxHeartbeats 1000000 in
theorem rcfg_any (p : Pl) (v : Value) (ys : List Itm) (w : World) (h : ItemsAt w v ys) (hy : ys.map bare = p.its) (hr : ∀ it ∈ p.its, Rng it) : Calls Try.prog 34 #[valP p v] w (CfgP p w) := by
  obtain ⟨A, cap, rfl, _, _⟩ := h.open_
  by_cases h1 : p.node < 1
  · have E : Hid (cfgOf p = 1) := by unfold Hid cfgOf; rw [if_pos (by omega)]
    clear h hy hr
    unfold valP CfgP
    generalize p.node = pn at *
    go_enter Try.func34, Try.ntmps34
    go_wp2_with fail
    go_ret
    exact ⟨by rw [E.out]; rfl, by (repeat' (first | (with_reducible exact Frm.refl _ _) | (with_reducible assumption) | (with_reducible refine Frm.alloc ?_ _) | (with_reducible refine Frm.drew ?_) | (with_reducible refine Frm.drewN ?_ _) | (with_reducible refine Frm.set1 ?_ _) | (with_reducible refine Frm.setCell ?_ ?_ _) | (exact fun h => absurd h (Nat.lt_irrefl _)) | (intro hlt; simp [World.size_alloc, One] at hlt ⊢; omega)))⟩
  · by_cases h2 : 127 < p.node
    · have E : Hid (cfgOf p = 1) := by unfold Hid cfgOf; rw [if_pos (by omega)]
      have h1' : 1 ≤ p.node := by omega
      clear h hy hr h1
      unfold valP CfgP
      generalize p.node = pn at *
      go_enter Try.func34, Try.ntmps34
      go_wp2_with fail
      go_ret
      exact ⟨by rw [E.out]; rfl, by (repeat' (first | (with_reducible exact Frm.refl _ _) | (with_reducible assumption) | (with_reducible refine Frm.alloc ?_ _) | (with_reducible refine Frm.drew ?_) | (with_reducible refine Frm.drewN ?_ _) | (with_reducible refine Frm.set1 ?_ _) | (with_reducible refine Frm.setCell ?_ ?_ _) | (exact fun h => absurd h (Nat.lt_irrefl _)) | (intro hlt; simp [World.size_alloc, One] at hlt ⊢; omega)))⟩
    · have h1' : 1 ≤ p.node := by omega
      have h2' : p.node ≤ 127 := by omega
      have hrg : ∀ x ∈ ys, Rng (bare x) := fun x hx => hr _ (by rw [← hy]; exact List.mem_map_of_mem hx)
      have hpost : ∀ W, Frm (fun _ => False) w W → Calls Try.prog 42 #[.slice A ys.length cap] W (fun e w' => Frm (fun _ => False) W w' ∧ ∃ x, e = .returned (.tuple #[x, .int .i64 (cfgOf p)])) := fun W hF => by
        rcases cfgOf_eq hy h1' h2' with ⟨hb, he⟩ | ⟨⟨hb1, hb2⟩, he⟩
        · by_cases hl : 1024 < ys.length
          · refine (rencode_long1 _ ys W (h.frm hF) hl).mono ?_
            rintro e w' ⟨h3, rfl⟩
            exact ⟨h3, _, by rw [he]⟩
          · refine (rencode_any _ ys W (h.frm hF) (by omega) hrg).mono ?_
            rintro e w' ⟨h3, _⟩
            obtain ⟨h4, rfl⟩ := h3 (hb.resolve_left hl)
            exact ⟨h4, _, by rw [he]⟩
        · refine (rencode_any _ ys W (h.frm hF) hb1 hrg).mono ?_
          rintro e w' ⟨_, h3⟩
          obtain ⟨h4, v, rfl, _⟩ := h3 hb2
          exact ⟨h4, v, by rw [he]⟩
      have HE := Lib.hid hpost
      clear h hy hr h1 h2 hrg hpost
      unfold valP CfgP
      generalize cfgOf p = r at *
      generalize p.node = pn at *
      go_enter Try.func34, Try.ntmps34
      go_wp2_with fail
      refine (HE.out _ (by (repeat' (first | (with_reducible exact Frm.refl _ _) | (with_reducible assumption) | (with_reducible refine Frm.alloc ?_ _) | (with_reducible refine Frm.drew ?_) | (with_reducible refine Frm.drewN ?_ _) | (with_reducible refine Frm.set1 ?_ _) | (with_reducible refine Frm.setCell ?_ ?_ _) | (exact fun h => absurd h (Nat.lt_irrefl _)) | (intro hlt; simp [World.size_alloc, One] at hlt ⊢; omega))))).mono ?_
      rintro e w3 ⟨hF3, x, rfl⟩
      have HF3 : Hid (Frm (fun _ => False) w w3) := Frm.trans' (by (repeat' (first | (with_reducible exact Frm.refl _ _) | (with_reducible assumption) | (with_reducible refine Frm.alloc ?_ _) | (with_reducible refine Frm.drew ?_) | (with_reducible refine Frm.drewN ?_ _) | (with_reducible refine Frm.set1 ?_ _) | (with_reducible refine Frm.setCell ?_ ?_ _) | (exact fun h => absurd h (Nat.lt_irrefl _)) | (intro hlt; simp [World.size_alloc, One] at hlt ⊢; omega)))) hF3
      clear hF3
      go_wp2_with fail
      go_ret
      exact ⟨rfl, HF3.out⟩

/-- The document's boot, at d: its plans are xs, of each how it stands at ib, lb, sb. -/
structure RAt (N : Nat) (w : World) (d ib lb sb : Nat) (vl : Value) (xs : List Pla) (l : List Nd) (t : Int) (hh : Bool) : Prop where
  hd : w.heap[d]? = some (.cells #[vl, .slice (some ⟨ib, 0, none⟩) l.length l.length, .slice (some ⟨lb, 0, none⟩) l.length l.length, .slice (some ⟨sb, 0, none⟩) l.length l.length, .int .i64 t, .bool hh] 80 (0, 0))
  hi : w.heap[ib]? = some (.cells (l.map fun x => Value.int .i64 x.is).toArray 3 (0, 0))
  hl : w.heap[lb]? = some (.cells (l.map fun x => Value.int .i64 x.looked).toArray 3 (0, 0))
  hs : w.heap[sb]? = some (.cells (l.map fun x => Value.int .u8 x.status).toArray 5 (0, 0))
  ps : SlAt encP 11 w vl xs
  eq : l.map (·.p) = xs.map (·.1)
  il : ib ≠ lb
  lo : N ≤ d ∧ N ≤ ib ∧ N ≤ lb ∧ N ≤ sb
  pl : ∀ A n c, vl = .slice (some A) n c → A.block < N

theorem RAt.len {N : Nat} {w : World} {d ib lb sb : Nat} {vl : Value} {xs : List Pla} {l : List Nd} {t : Int} {hh : Bool} (h : RAt N w d ib lb sb vl xs l t hh) : l.length = xs.length := by
  have := congrArg List.length h.eq
  simpa using this
/-- A field of a node, read. -/
theorem RAt.read {N : Nat} {w : World} {d ib lb sb : Nat} {vl : Value} {xs : List Pla} {l : List Nd} {t : Int} {hh : Bool} (h : RAt N w d ib lb sb vl xs l t hh) {k : Nat} (hk : k < l.length) :
    w.cell? ⟨ib, k, none⟩ = some (.int .i64 l[k].is) ∧ w.cell? ⟨lb, k, none⟩ = some (.int .i64 l[k].looked) ∧ w.cell? ⟨sb, k, none⟩ = some (.int .u8 l[k].status) ∧
    ∃ g off cap, vl = .slice (some ⟨g, off, none⟩) l.length cap ∧ w.cell? ⟨g, off + k * 11, none⟩ = some (.int .i64 l[k].p.node) ∧ w.cell? ⟨g, off + k * 11 + 9, none⟩ = some (.bool l[k].p.mand) := by
  refine ⟨by rw [cell_at h.hi]; simp [hk], by rw [cell_at h.hl]; simp [hk], by rw [cell_at h.hs]; simp [hk], ?_⟩
  obtain ⟨A, cap, hv, h1, h2, hc⟩ := h.ps
  have hl := h.len
  obtain ⟨g, off, rfl, _, hc⟩ := hc (by omega)
  have hp : l[k].p = (xs[k]'(by omega)).1 := by
    have := congrArg (fun z => z[k]?) h.eq
    simp only [List.getElem?_map, List.getElem?_eq_getElem hk, List.getElem?_eq_getElem (show k < xs.length by omega), Option.map_some, Option.some.injEq] at this
    exact this
  refine ⟨g, off, cap, by rw [hv, hl], ?_, ?_⟩
  · have := hc k (by omega) 0 (by decide)
    rw [hp]; exact this
  · have := hc k (by omega) 9 (by decide)
    rw [hp]; exact this

def FindP (l : List Nd) (n : Int) : Int := match placeN l n with | some k => (k : Int) | none => -1

set_option maxRecDepth 100000 in
set_option maxHeartbeats 1000000 in
theorem rfind_any (N d ib lb sb : Nat) (vl : Value) (xs : List Pla) (l : List Nd) (t : Int) (hh : Bool) (n : Int) (w : World) (h : RAt N w d ib lb sb vl xs l t hh) :
    Calls Try.prog 35 #[ptr d, .int .i64 n] w fun e w' => e = .returned (.int .i64 (FindP l n)) ∧ w' = w := by
  have hvl : ∃ A cap, vl = .slice A l.length cap ∧ l.length ≤ 9223372036854775807 := by
    obtain ⟨A, cap, hv, h1, h2, _⟩ := h.ps
    exact ⟨A, cap, by rw [hv, h.len], by rw [h.len]; exact Nat.le_trans h1 h2⟩
  obtain ⟨A, cap, rfl, hm⟩ := hvl
  have c0 : w.cell? ⟨d, 0, none⟩ = some (.slice A l.length cap) := cell_at h.hd
  have H := Lib.hid h
  clear h
  unfold ptr
  go_enter Try.func35, Try.ntmps35
  go_wp2_with fail
  go_loopw [5] (fun i wr => ∃ k : Nat, k ≤ l.length ∧ i = .int .i64 k ∧ wr = w ∧ ∀ j (hj : j < l.length), j < k → l[j].p.node ≠ n) (fun i _ => l.length - (intOf i).toNat)
  case atStart => exact ⟨0, Nat.zero_le _, rfl, rfl, fun j hj h => absurd h (by omega)⟩
  case round =>
    obtain ⟨k, hk, rfl, rfl, hno⟩ := hrel
    have HNO := Lib.hid hno
    clear hno
    by_cases hlt : k < l.length
    · obtain ⟨_, _, _, g, off, cap2, hv, hn0, _⟩ := H.out.read hlt
      simp only [Value.slice.injEq] at hv
      obtain ⟨rfl, _, rfl⟩ := hv
      by_cases he : l[k].p.node = n
      · have E : Hid (FindP l n = k) := by
          unfold Hid FindP
          have : placeN l n = some k := by
            unfold placeN
            rw [List.findIdx?_eq_some_iff_getElem]
            exact ⟨hlt, by simpa using he, fun j hj => by simpa using HNO.out j (by omega) hj⟩
          rw [this]
        have b1 : (l[k].p.node == n) = true := by simpa using he
        clear he
        generalize l[k].p.node = nd at *
        go_wp2_with fail
        go_ret
        exact ⟨by rw [E.out]; rfl, rfl⟩
      · have b1 : (l[k].p.node == n) = false := by simpa using he
        have HE : Hid (∀ h : k < l.length, (l[k]'h).p.node ≠ n) := fun _ => he
        clear he
        generalize hnd : l[k].p.node = nd at *
        clear hnd
        go_wp2_with fail
        go_roundw
        case rel =>
          refine ⟨k + 1, by omega, by go_num, by first | rfl | trivial, fun j hj hjk => ?_⟩
          by_cases e : j = k
          · subst e; exact HE.out hj
          · exact HNO.out j hj (by omega)
        case measure => simp [intOf]; omega
    · have E : Hid (FindP l n = -1) := by
        unfold Hid FindP
        have : placeN l n = none := by
          unfold placeN
          rw [List.findIdx?_eq_none_iff]
          intro x hx
          obtain ⟨j, hj, rfl⟩ := List.getElem_of_mem hx
          simpa using HNO.out j hj (by omega)
        rw [this]
      go_wp2_with fail
      go_ret
      exact ⟨by rw [E.out]; rfl, rfl⟩

def bestInt (l : List Nd) (k : Nat) : Int := match bestI l k with | some j => (j : Int) | none => -1
theorem bestI_succ' {l : List Nd} {k : Nat} (hk : k < l.length) : bestI l (k + 1) = if l[k].is = 0 then (match bestI l k with
    | none => some k
    | some j => (match l[j]? with
      | some y => if l[k].looked < y.looked then some k else some j
      | none => some j)) else bestI l k := by
  rw [bestI, List.getElem?_eq_getElem hk]; rfl

set_option maxRecDepth 100000 in
set_option maxHeartbeats 2000000 in
theorem rnext_any (N d ib lb sb : Nat) (vl : Value) (xs : List Pla) (l : List Nd) (t : Int) (hh : Bool) (w : World) (h : RAt N w d ib lb sb vl xs l t hh) : Calls Try.prog 20 #[ptr d] w (NextP (nextOf ⟨l, t, hh⟩) w) := by
  have hvl : ∃ A cap, vl = .slice A l.length cap ∧ l.length ≤ 9223372036854775807 := by
    obtain ⟨A, cap, hv, h1, h2, _⟩ := h.ps
    exact ⟨A, cap, by rw [hv, h.len], by rw [h.len]; exact Nat.le_trans h1 h2⟩
  obtain ⟨A, cap, rfl, hm⟩ := hvl
  have c0 : w.cell? ⟨d, 0, none⟩ = some (.slice A l.length cap) := cell_at h.hd
  have c1 : w.cell? ⟨d, 1, none⟩ = some (.slice (some ⟨ib, 0, none⟩) l.length l.length) := cell_at h.hd
  have c2 : w.cell? ⟨d, 2, none⟩ = some (.slice (some ⟨lb, 0, none⟩) l.length l.length) := cell_at h.hd
  have c5 : w.cell? ⟨d, 5, none⟩ = some (.bool hh) := cell_at h.hd
  have H := Lib.hid h
  clear h
  unfold ptr
  go_enter Try.func20, Try.ntmps20
  go_wp2_with fail
  go_loopw [4, 5] (fun bv i wr => ∃ k m : Nat, k ≤ l.length ∧ i = .int .i64 k ∧ wr = w.drewN m ∧ bv = .int .i64 (bestInt l k)) (fun _ i _ => l.length - (intOf i).toNat)
  case atStart => exact ⟨0, 0, Nat.zero_le _, rfl, rfl, rfl⟩
  case round =>
    obtain ⟨k, m, hk, rfl, rfl, rfl⟩ := hrel
    by_cases hlt : k < l.length
    · obtain ⟨r1, r2, _, _⟩ := H.out.read hlt
      have hbs := bestI_succ' hlt
      have HBS := Lib.hid hbs
      clear hbs
      have hlti : (k : Int) < (l.length : Int) := by omega
      have hlt0 : (0 : Int) ≤ (k : Int) := by omega
      generalize l[k] = x at *
      obtain ⟨xp, xis, xlk, xst⟩ := x
      simp only at r1 r2 HBS
      cases hb : bestI l k with
      | none =>
        have hbi : bestInt l k = -1 := by unfold bestInt; rw [hb]
        rw [hbi]
        rw [hb] at HBS
        simp only at HBS
        clear hb hbi
        by_cases h0 : xis = 0
        · have b0 : (xis == 0) = true := by simpa using h0
          have E : Hid (bestInt l (k + 1) = (k : Int)) := by unfold Hid bestInt; rw [HBS.out, if_pos h0]
          clear h0
          go_wp2_with fail
          go_quiet (fail)
          go_wp2_with fail
          go_roundw
          case rel => exact ⟨k + 1, _, by omega, by go_num, rfl, by rw [E.out]⟩
          case measure => simp [intOf]; omega
        · have b0 : (xis == 0) = false := by simpa using h0
          have E : Hid (bestInt l (k + 1) = -1) := by unfold Hid bestInt; rw [HBS.out, if_neg h0]
          clear h0
          go_wp2_with fail
          go_quiet (fail)
          go_wp2_with fail
          go_roundw
          case rel => exact ⟨k + 1, _, by omega, by go_num, rfl, by rw [E.out]⟩
          case measure => simp [intOf]; omega
      | some j =>
        obtain ⟨hjk, y, hy, hy0, _⟩ := bestI_some hb
        obtain ⟨hj, hyj⟩ := List.getElem?_eq_some_iff.1 hy
        obtain ⟨_, s2, _, _⟩ := H.out.read hj
        rw [hyj] at s2
        have hbi : bestInt l k = (j : Int) := by unfold bestInt; rw [hb]
        rw [hbi]
        rw [hb] at HBS
        simp only [hy] at HBS
        have hji : (j : Int) < (l.length : Int) := by omega
        have hj0 : (0 : Int) ≤ (j : Int) := by omega
        have hjn : decide ((j : Int) < 0) = false := by simp
        clear hb hy hy0 hyj hbi
        obtain ⟨ylk, hyl⟩ : ∃ n, y.looked = n := ⟨_, rfl⟩
        rw [hyl] at s2 HBS
        clear hyl
        by_cases h0 : xis = 0
        · have b0 : (xis == 0) = true := by simpa using h0
          by_cases hl : xlk < ylk
          · have E : Hid (bestInt l (k + 1) = (k : Int)) := by unfold Hid bestInt; rw [HBS.out, if_pos h0, if_pos hl]
            clear h0
            go_wp2_with fail
            go_quiet (fail)
            go_wp2_with fail
            go_roundw
            case rel => exact ⟨k + 1, _, by omega, by go_num, rfl, by rw [E.out]⟩
            case measure => simp [intOf]; omega
          · have E : Hid (bestInt l (k + 1) = (j : Int)) := by unfold Hid bestInt; rw [HBS.out, if_pos h0, if_neg hl]
            have hl' : ylk ≤ xlk := by omega
            clear h0 hl
            go_wp2_with fail
            go_quiet (fail)
            go_wp2_with fail
            go_roundw
            case rel => exact ⟨k + 1, _, by omega, by go_num, rfl, by rw [E.out]⟩
            case measure => simp [intOf]; omega
        · have b0 : (xis == 0) = false := by simpa using h0
          have E : Hid (bestInt l (k + 1) = (j : Int)) := by unfold Hid bestInt; rw [HBS.out, if_neg h0]
          clear h0
          go_wp2_with fail
          go_quiet (fail)
          go_wp2_with fail
          go_roundw
          case rel => exact ⟨k + 1, _, by omega, by go_num, rfl, by rw [E.out]⟩
          case measure => simp [intOf]; omega
    · obtain rfl : k = l.length := by omega
      cases hb : bestI l l.length with
      | none =>
        have E : Hid (nextOf ⟨l, t, hh⟩ = (0, false)) := by unfold Hid nextOf; simp only [hb]
        have hbi : bestInt l l.length = -1 := by unfold bestInt; rw [hb]
        rw [hbi]
        clear hb hbi
        go_wp2_with fail
        go_ret2
        exact ⟨by rw [E.out]; rfl, _, rfl⟩
      | some j =>
        obtain ⟨hjk, y, hy, hy0, _⟩ := bestI_some hb
        obtain ⟨hj, hyj⟩ := List.getElem?_eq_some_iff.1 hy
        obtain ⟨_, _, _, g, off, cap2, hv, hn0, _⟩ := H.out.read hj
        simp only [Value.slice.injEq] at hv
        obtain ⟨rfl, _, rfl⟩ := hv
        rw [hyj] at hn0
        have hbi : bestInt l l.length = (j : Int) := by unfold bestInt; rw [hb]
        rw [hbi]
        have hji : (j : Int) < (l.length : Int) := by omega
        have hj0 : (0 : Int) ≤ (j : Int) := by omega
        have hjn : decide ((j : Int) < 0) = false := by simp
        cases hh with
        | true =>
          have E : Hid (nextOf ⟨l, t, true⟩ = (0, false)) := by unfold Hid nextOf; simp only [hb]; simp
          clear hb hy hy0 hyj hbi
          go_wp2_with fail
          go_ret2
          exact ⟨by rw [E.out]; rfl, _, rfl⟩
        | false =>
          have E : Hid (nextOf ⟨l, t, false⟩ = (y.p.node, true)) := by unfold Hid nextOf; simp only [hb, hy]; simp
          clear hb hy hy0 hyj hbi
          generalize y.p.node = yn at *
          go_wp2_with fail
          go_ret2
          exact ⟨by rw [E.out]; rfl, _, rfl⟩
end Go.Proofs.Ytjjmkpjclhielaa
