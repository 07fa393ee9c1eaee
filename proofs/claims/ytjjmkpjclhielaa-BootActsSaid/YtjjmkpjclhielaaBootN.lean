/-
  Next, May, Halted, Status.
-/
import Derived.Test.YtjjmkpjclhielaaBootM
namespace Go.Proofs.Ytjjmkpjclhielaa
open Go.RowKit
set_option linter.unusedVariables false

def nds (l : List (Nat × Nd)) : List Nd := l.map (·.2)
theorem nds_length (l : List (Nat × Nd)) : (nds l).length = l.length := by simp [nds]
theorem nds_get {l : List (Nat × Nd)} {k : Nat} (hk : k < l.length) : (nds l)[k]? = some l[k].2 := by simp [nds, hk]

theorem of_some {b : Nat} {l : List (Nat × Nd)} {t : Int} {hh : Bool} {n : Int} {w : World} (h : BAt w b l t hh) {k : Nat} (hp : placeN (nds l) n = some k) :
    ∃ hk : k < l.length, l[k].2.p.node = n ∧ Calls Try.prog 26 #[ptr b, .int .i64 n] w fun e w' => e = .returned (ptr l[k].1) ∧ ∃ m, w' = (w.alloc (.cells #[.int .i64 n] 3)).drewN m := by
  unfold placeN at hp
  rw [List.findIdx?_eq_some_iff_getElem] at hp
  obtain ⟨hk, h1, h2⟩ := hp
  have hk' : k < l.length := by simpa [nds] using hk
  refine ⟨hk', by simpa [nds] using h1, of_hit b l t hh n w h k hk' (by simpa [nds] using h1) (fun j hj => ?_)⟩
  have := h2 j hj
  have hj' : j < l.length := by omega
  simpa [nodesN, nds, hj', List.getD_eq_getElem?_getD] using this
theorem of_none {b : Nat} {l : List (Nat × Nd)} {t : Int} {hh : Bool} {n : Int} {w : World} (h : BAt w b l t hh) (hp : placeN (nds l) n = none) :
    Calls Try.prog 26 #[ptr b, .int .i64 n] w fun e w' => e = .returned (.pointer none) ∧ ∃ m, w' = (w.alloc (.cells #[.int .i64 n] 3)).drewN m := by
  refine of_miss b l t hh n w h (fun j hj => ?_)
  have := placeN_none hp l[j].2 (by simp [nds]; exact ⟨_, List.getElem_mem hj⟩)
  simpa [nodesN, hj, List.getD_eq_getElem?_getD] using this

def bestPtr (l : List (Nat × Nd)) (k : Nat) : Value := match bestI (nds l) k with
  | none => .pointer none
  | some j => match l[j]? with
    | some q => ptr q.1
    | none => .pointer none
theorem bestPtr_none {l : List (Nat × Nd)} {k : Nat} (h : bestI (nds l) k = none) : bestPtr l k = .pointer none := by simp [bestPtr, h]
theorem bestPtr_some {l : List (Nat × Nd)} {k j : Nat} (h : bestI (nds l) k = some j) (hj : j < l.length) : bestPtr l k = ptr l[j].1 := by simp [bestPtr, h, hj]
theorem bestI_succ {l : List (Nat × Nd)} {k : Nat} (hk : k < l.length) : bestI (nds l) (k + 1) = if l[k].2.is = 0 then (match bestI (nds l) k with
    | none => some k
    | some j => (match (nds l)[j]? with
      | some y => if l[k].2.looked < y.looked then some k else some j
      | none => some j)) else bestI (nds l) k := by
  rw [bestI, nds_get hk]; rfl

/-- A node's fields, read. -/
theorem NodeAt.read {w : World} {p : Nat} {x : Nd} (h : NodeAt w p x) : w.cell? ⟨p, 0, none⟩ = some (.int .i64 x.p.node) ∧ w.cell? ⟨p, 9, none⟩ = some (.bool x.p.mand) ∧ w.cell? ⟨p, 11, none⟩ = some (.int .i64 x.is) ∧ w.cell? ⟨p, 12, none⟩ = some (.int .i64 x.looked) ∧ w.cell? ⟨p, 13, none⟩ = some (.int .u8 x.status) := by
  obtain ⟨A, c, _, h⟩ := h
  exact ⟨cell_at h, cell_at h, cell_at h, cell_at h, cell_at h⟩

theorem BAt.open_ {w : World} {b : Nat} {l : List (Nat × Nd)} {t : Int} {hh : Bool} (h : BAt w b l t hh) : ∃ A cap, w.heap[b]? = some (.cells #[.slice A l.length cap, .int .i64 t, .bool hh] 64 (0, 0)) ∧ l.length ≤ 9223372036854775807 ∧ (∀ k (hk : k < l.length), ∃ g, A = some ⟨g, 0, none⟩ ∧ w.cell? ⟨g, k, none⟩ = some (ptr l[k].1)) := by
  obtain ⟨v, hO, hr⟩ := h.row
  obtain ⟨A, cap, rfl, h1, h2, h3⟩ := row_open hr
  refine ⟨A, cap, hO, Nat.le_trans h1 h2, fun k hk => ?_⟩
  obtain ⟨g, rfl, _, _, _, hc⟩ := h3 (by omega)
  exact ⟨g, rfl, by rw [hc k (by omega)]; simp [hk]⟩

def NextP (r : Int × Bool) (w : World) (e : Ending) (w' : World) : Prop := e = .returned (.tuple #[.int .i64 r.1, .bool r.2]) ∧ ∃ m, w' = w.drewN m

set_option maxRecDepth 100000 in
set_option maxHeartbeats 2000000 in
theorem next_any (b : Nat) (l : List (Nat × Nd)) (t : Int) (hh : Bool) (w : World) (h : BAt w b l t hh) : Calls Try.prog 11 #[ptr b] w (NextP (nextOf ⟨nds l, t, hh⟩) w) := by
  obtain ⟨A, cap, hO, hm, hA⟩ := h.open_
  have c0 : w.cell? ⟨b, 0, none⟩ = some (.slice A l.length cap) := cell_at hO
  have c2 : w.cell? ⟨b, 2, none⟩ = some (.bool hh) := cell_at hO
  have HA := Lib.hid hA
  have HB := Lib.hid h
  clear hA h hO
  unfold ptr
  go_enter Try.func11, Try.ntmps11
  go_wp2_with fail
  go_loopw [4, 6, 12] (fun bv _ i wr => ∃ k m : Nat, k ≤ l.length ∧ i = .int .i64 k ∧ wr = w.drewN m ∧ bv = bestPtr l k) (fun _ _ i _ => l.length - (intOf i).toNat)
  case atStart => exact ⟨0, 0, Nat.zero_le _, rfl, rfl, rfl⟩
  case round =>
    obtain ⟨k, m, hk, rfl, rfl, rfl⟩ := hrel
    by_cases hlt : k < l.length
    · obtain ⟨g, rfl, ck⟩ := HA.out k hlt
      obtain ⟨r0, r1, r2, r3, r4⟩ := (HB.out.el k hlt).read
      have hbs := bestI_succ hlt
      have HBS := Lib.hid hbs
      have hbp : bestI (nds l) (k + 1) = some k → bestPtr l (k + 1) = ptr l[k].1 := fun h => bestPtr_some h hlt
      have HBP := Lib.hid hbp
      clear hbs hbp r0 r1 r4
      generalize l[k] = q at *
      obtain ⟨p, x⟩ := q
      obtain ⟨xp, xis, xlk, xst⟩ := x
      simp only at r2 r3 HBS HBP
      unfold ptr at *
      cases hb : bestI (nds l) k with
      | none =>
        rw [bestPtr_none hb]
        rw [hb] at HBS
        simp only at HBS
        clear hb
        by_cases h0 : xis = 0
        · have b0 : (xis == 0) = true := by simpa using h0
          have E : Hid (bestPtr l (k + 1) = .pointer (some ⟨p, 0, none⟩)) := HBP.out (by rw [HBS.out, if_pos h0])
          clear h0
          go_wp2_with fail
          go_quiet (fail)
          go_wp2_with fail
          go_roundw
          case rel => exact ⟨k + 1, _, by omega, by go_num, rfl, E.out.symm⟩
          case measure => simp [intOf]; omega
        · have b0 : (xis == 0) = false := by simpa using h0
          have E : Hid (bestPtr l (k + 1) = .pointer none) := bestPtr_none (by rw [HBS.out, if_neg h0])
          clear h0
          go_wp2_with fail
          go_quiet (fail)
          go_wp2_with fail
          go_roundw
          case rel => exact ⟨k + 1, _, by omega, by go_num, rfl, E.out.symm⟩
          case measure => simp [intOf]; omega
      | some j =>
        obtain ⟨hjk, y, hy, hy0, _⟩ := bestI_some hb
        have hj : j < l.length := by have := (List.getElem?_eq_some_iff.1 hy).1; simpa [nds] using this
        have hyj : l[j].2 = y := by rw [nds_get hj] at hy; exact Option.some.inj hy
        obtain ⟨s0, s1, s2, s3, s4⟩ := (HB.out.el j hj).read
        have hpj : ∀ i, bestI (nds l) i = some j → bestPtr l i = ptr l[j].1 := fun i h => bestPtr_some h hj
        rw [hpj k hb]
        have HPJ := Lib.hid hpj
        rw [hb] at HBS
        simp only [hy] at HBS
        rw [hyj] at s3
        clear hb hy hy0 hyj hpj s0 s1 s2 s4
        generalize l[j].1 = pj at *
        unfold ptr at *
        obtain ⟨ylk, hyl⟩ : ∃ n, y.looked = n := ⟨_, rfl⟩
        rw [hyl] at s3 HBS
        clear hyl
        by_cases h0 : xis = 0
        · have b0 : (xis == 0) = true := by simpa using h0
          by_cases hl : xlk < ylk
          · have E : Hid (bestPtr l (k + 1) = .pointer (some ⟨p, 0, none⟩)) := HBP.out (by rw [HBS.out, if_pos h0, if_pos hl])
            clear h0
            go_wp2_with fail
            go_quiet (fail)
            go_wp2_with fail
            go_roundw
            case rel => exact ⟨k + 1, _, by omega, by go_num, rfl, E.out.symm⟩
            case measure => simp [intOf]; omega
          · have E : Hid (bestPtr l (k + 1) = .pointer (some ⟨pj, 0, none⟩)) := HPJ.out _ (by rw [HBS.out, if_pos h0, if_neg hl])
            have hl' : ylk ≤ xlk := by omega
            clear h0 hl
            go_wp2_with fail
            go_quiet (fail)
            go_wp2_with fail
            go_roundw
            case rel => exact ⟨k + 1, _, by omega, by go_num, rfl, E.out.symm⟩
            case measure => simp [intOf]; omega
        · have b0 : (xis == 0) = false := by simpa using h0
          have E : Hid (bestPtr l (k + 1) = .pointer (some ⟨pj, 0, none⟩)) := HPJ.out _ (by rw [HBS.out, if_neg h0])
          clear h0
          go_wp2_with fail
          go_quiet (fail)
          go_wp2_with fail
          go_roundw
          case rel => exact ⟨k + 1, _, by omega, by go_num, rfl, E.out.symm⟩
          case measure => simp [intOf]; omega
    · obtain rfl : k = l.length := by omega
      cases hb : bestI (nds l) l.length with
      | none =>
        have E : Hid (nextOf ⟨nds l, t, hh⟩ = (0, false)) := by unfold Hid nextOf; simp only [nds_length, hb]
        rw [bestPtr_none hb]
        clear hb
        go_wp2_with fail
        go_ret2
        exact ⟨by rw [E.out]; rfl, _, rfl⟩
      | some j =>
        obtain ⟨hjk, y, hy, hy0, _⟩ := bestI_some hb
        have hj : j < l.length := hjk
        have hyj : l[j].2 = y := by rw [nds_get hj] at hy; exact Option.some.inj hy
        obtain ⟨s0, s1, s2, s3, s4⟩ := (HB.out.el j hj).read
        rw [bestPtr_some hb hj]
        rw [hyj] at s0
        cases hh with
        | true =>
          have E : Hid (nextOf ⟨nds l, t, true⟩ = (0, false)) := by unfold Hid nextOf; simp only [nds_length, hb]; simp
          clear hb hy hy0 hyj s0 s1 s2 s3 s4
          unfold ptr
          go_wp2_with fail
          go_ret2
          exact ⟨by rw [E.out]; rfl, _, rfl⟩
        | false =>
          have E : Hid (nextOf ⟨nds l, t, false⟩ = (y.p.node, true)) := by unfold Hid nextOf; simp only [nds_length, hb, hy]; simp
          clear hb hy hy0 hyj s1 s2 s3 s4
          unfold ptr
          go_wp2_with fail
          go_ret2
          exact ⟨by rw [E.out]; rfl, _, rfl⟩
end Go.Proofs.Ytjjmkpjclhielaa
