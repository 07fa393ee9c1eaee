/-
  The walk of BootEnds.
-/
import Derived.Test.YtjjmkpjclhielaaBootG
import Derived.Test.YtjjmkpjclhielaaBootH
namespace Go.Proofs.Ytjjmkpjclhielaa
open Go.RowKit
set_option linter.unusedVariables false

theorem cellsS_len (s : Sn) : (cellsS s).length = 11 := rfl

/-- What holds at the head of a round. -/
def EndR (w : World) (b : Nat) (t : Int) (well : Bool) (ps : List Pl) (k : Nat) (wq : World) : Prop :=
  ∃ (l : List (Nat × Nd)) (hh : Bool), BAt wq b l t hh ∧ EndOk (nds l) t ∧ (nds l).map (·.p) = ps ∧ (k : Int) + leftOf (nds l) t ≤ t * ps.length ∧ (well = true → WellOk (nds l) k ∧ hh = false) ∧ (∀ q ∈ l.map (·.1), w.heap.size ≤ q) ∧ Frm (fun _ => False) w wq

theorem saw_plans {b : Bs} {n : Int} {s : Sn} : (sawOf b n s).1.l.map (·.p) = b.l.map (·.p) := by
  unfold sawOf
  split
  · rfl
  · split
    · rfl
    · rename_i i _ x hx
      split
      · rfl
      · simp only
        obtain ⟨hj, rfl⟩ := List.getElem?_eq_some_iff.1 hx
        rw [List.map_set]
        apply List.ext_getElem (by simp)
        intro q h1 h2
        rw [List.getElem_set]
        split
        · rename_i e; subst e; simp [Nd.seen]
        · rfl
/-- The one plan of a number. -/
theorem plan_of {l : List Nd} {ps : List Pl} (hnd : (l.map (·.p.node)).Nodup) (hps : l.map (·.p) = ps) {y : Nd} {j : Nat} (hy : l[j]? = some y) : (∃ i, ∃ h : i < ps.length, ps[i].node = y.p.node) ∧ ∀ i (h : i < ps.length), ps[i].node = y.p.node → ps[i] = y.p := by
  subst hps
  obtain ⟨hj, rfl⟩ := List.getElem?_eq_some_iff.1 hy
  refine ⟨⟨j, by simpa using hj, by simp⟩, fun i hi e => ?_⟩
  have hi' : i < l.length := by simpa using hi
  have := nodup_at hnd (i := i) (k := j) (by simpa using hi') (by simpa using hj) (by simpa using e)
  subst this
  simp

/-- A plan, put aside: of the first i, the last that has the number. -/
def PlanCut (xs : List Pla) (n : Int) (pb i : Nat) (p : Pl) (w5 wz : World) : Prop :=
  ∃ (q : Pl) (A : Option Addr) (c m : Nat), wz.heap[pb]? = some (.cells (encP (q, .slice A m c)).toArray 38 (0, 0)) ∧ ((∃ j, ∃ h : j < xs.length, j < i ∧ xs[j].1.node = n) → q = p) ∧ Frm (One pb) w5 wz

theorem set11 (d0 d1 d2 d3 d4 d5 d6 d7 d8 d9 d10 c0 c1 c2 c3 c4 c5 c6 c7 c8 c9 c10 : Value) : (((((((((((#[d0, d1, d2, d3, d4, d5, d6, d7, d8, d9, d10].setIfInBounds 0 c0).setIfInBounds 1 c1).setIfInBounds 2 c2).setIfInBounds 3 c3).setIfInBounds 4 c4).setIfInBounds 5 c5).setIfInBounds 6 c6).setIfInBounds 7 c7).setIfInBounds 8 c8).setIfInBounds 9 c9).setIfInBounds 10 c10) = #[c0, c1, c2, c3, c4, c5, c6, c7, c8, c9, c10] := by simp only [List.setIfInBounds_toArray, List.set_cons_succ, List.set_cons_zero]
theorem store11 {w : World} {g : Nat} {t : TypeId} {fz : Nat × Nat} {d0 d1 d2 d3 d4 d5 d6 d7 d8 d9 d10 c0 c1 c2 c3 c4 c5 c6 c7 c8 c9 c10 : Value} (h : w.heap[g]? = some (.cells #[d0, d1, d2, d3, d4, d5, d6, d7, d8, d9, d10] t fz)) : (((((((((((w.setCell ⟨g, 0, none⟩ c0).setCell ⟨g, 1, none⟩ c1).setCell ⟨g, 2, none⟩ c2).setCell ⟨g, 3, none⟩ c3).setCell ⟨g, 4, none⟩ c4).setCell ⟨g, 5, none⟩ c5).setCell ⟨g, 6, none⟩ c6).setCell ⟨g, 7, none⟩ c7).setCell ⟨g, 8, none⟩ c8).setCell ⟨g, 9, none⟩ c9).setCell ⟨g, 10, none⟩ c10).heap[g]? = some (.cells #[c0, c1, c2, c3, c4, c5, c6, c7, c8, c9, c10] t fz) := by
  rw [← set11 d0 d1 d2 d3 d4 d5 d6 d7 d8 d9 d10 c0 c1 c2 c3 c4 c5 c6 c7 c8 c9 c10]
  exact heap_set_same (heap_set_same (heap_set_same (heap_set_same (heap_set_same (heap_set_same (heap_set_same (heap_set_same (heap_set_same (heap_set_same (heap_set_same h _) _) _) _) _) _) _) _) _) _) _
theorem frm11 {w0 w : World} {g : Nat} {c0 c1 c2 c3 c4 c5 c6 c7 c8 c9 c10 : Value} (h : Frm (One g) w0 w) : Frm (One g) w0 (((((((((((w.setCell ⟨g, 0, none⟩ c0).setCell ⟨g, 1, none⟩ c1).setCell ⟨g, 2, none⟩ c2).setCell ⟨g, 3, none⟩ c3).setCell ⟨g, 4, none⟩ c4).setCell ⟨g, 5, none⟩ c5).setCell ⟨g, 6, none⟩ c6).setCell ⟨g, 7, none⟩ c7).setCell ⟨g, 8, none⟩ c8).setCell ⟨g, 9, none⟩ c9).setCell ⟨g, 10, none⟩ c10) :=
  ((((((((((h.set1 _).set1 _).set1 _).set1 _).set1 _).set1 _).set1 _).set1 _).set1 _).set1 _).set1 _

/-- What is seen, put aside. -/
def SeenCut (sb : Nat) (well : Bool) (p : Pl) (w6 wx : World) : Prop := ∃ s, SeenAt wx sb s ∧ (well = true → s = seenAs p) ∧ Frm (fun _ => False) w6 wx

set_option maxRecDepth 100000 in
set_option maxHeartbeats 1000000 in
theorem lends_any (v vs : Value) (xs : List Pla) (ss : List Sn) (t0 : Int) (well : Bool) (w : World) (h : PlansAt w v xs) (hs : SlAt cellsS 11 w vs ss) (hl : xs.length * 72 ≤ 140737488351232) (hr : ∀ x ∈ xs, ∀ it ∈ x.1.its, Rng it)
    (hg : ∀ x ∈ xs, x.1.its.length * 32 ≤ 140737488351232 ∧ ∀ it ∈ x.1.its, it.2.2.length ≤ 140737488351232) (h0 : 0 ≤ t0) (h1 : t0 ≤ 255) :
    Calls Try.prog 3 #[v, .int .u8 t0, .agg #[vs, .bool well]] w (LawPost w) := by
  have H := Lib.hid (fun W hF => ownP_any v xs W (h.frm (w' := W) hF) hl hg)
  obtain ⟨A, cap, rfl, hxc, hxc2, hA⟩ := h.1
  obtain ⟨As, caps, rfl, hsc, hsc2, hS⟩ := hs
  have HA := Lib.hid hA
  have HIX := Lib.hid h.2
  have HS := Lib.hid hS
  have HR := Lib.hid hr
  have hxl : xs.length ≤ 1954687338213 := by omega
  have hsl : ss.length ≤ 9223372036854775807 := Nat.le_trans hsc hsc2
  clear h hr hg hA hS hxc hxc2 hsc hsc2
  obtain ⟨t, ht⟩ : ∃ t, t = 1 + t0 % 20 := ⟨_, rfl⟩
  have ht1 : 1 ≤ t := by omega
  have ht2 : t ≤ 20 := by omega
  have HT := Lib.hid ht
  clear ht
  go_enter Try.func3, Try.ntmps3
  go_wp2_with fail
  go_quiet (fail)
  go_wp2_with (go_at_call 9; refine (H.out _ (by (repeat' (first | (with_reducible exact Frm.refl _ _) | (with_reducible assumption) | (with_reducible refine Frm.alloc ?_ _) | (with_reducible refine Frm.drew ?_) | (with_reducible refine Frm.drewN ?_ _) | (with_reducible refine Frm.set1 ?_ _) | (with_reducible refine Frm.setCell ?_ ?_ _) | (exact fun h => absurd h (Nat.lt_irrefl _)) | (intro hlt; simp [World.size_alloc, One] at hlt ⊢; omega))))).mono ?_; rintro e w1 ⟨hF1, v1, zs, rfl, hz1, hz2⟩; obtain ⟨A1, cap1, rfl, _⟩ := row_open hz2.1)
  have hF1' : Frm (fun _ => False) w w1 := Frm.trans' (by (repeat' (first | (with_reducible exact Frm.refl _ _) | (with_reducible assumption) | (with_reducible refine Frm.alloc ?_ _) | (with_reducible refine Frm.drew ?_) | (with_reducible refine Frm.drewN ?_ _) | (with_reducible refine Frm.set1 ?_ _) | (with_reducible refine Frm.setCell ?_ ?_ _) | (exact fun h => absurd h (Nat.lt_irrefl _)) | (intro hlt; simp [World.size_alloc, One] at hlt ⊢; omega)))) hF1
  have hrg : ∀ x ∈ zs, ∀ it ∈ x.1.its, Rng it := fun x hx => by
    have : x.1 ∈ xs.map (·.1) := by rw [← hz1]; exact List.mem_map_of_mem hx
    obtain ⟨y, hy, e⟩ := List.mem_map.1 this
    rw [← e]
    exact HR.out y hy
  have HN := Lib.hid (bnew_any _ zs t w1 hz2.at_ hrg)
  rw [hz1] at HN
  have HF1 := Lib.hid hF1'
  clear hz1 hz2 hF1 hrg hF1'
  rw [← HT.out]
  refine HN.out.mono ?_
  rintro e w2 ⟨hF2, hpost⟩
  have HF2 := Lib.hid (HF1.out.trans' hF2)
  clear hF2
  rcases hpost with ⟨hne, rfl⟩ | ⟨hn0, b, l, rfl, hB, hll, hb, hq⟩
  · have hb : (newOf (xs.map (·.1)) t != 0) = true := by simpa using hne
    generalize newOf (xs.map (·.1)) t = er at *
    clear hne
    go_wp2_with fail
    refine (livesB_any _).mono ?_
    rintro e w3 ⟨rfl, hF3⟩
    have HF3 := Lib.hid (HF2.out.trans' hF3)
    clear hF3
    go_wp2_with fail
    go_ret
    exact ⟨rfl, HF3.out.below (Nat.le_refl _) (fun _ _ h => h)⟩
  · obtain ⟨hnd, hl127, _⟩ := newOf_nodup hn0
    have hend := EndOk.new hnd ht1
    have hps : (nds l).map (·.p) = xs.map (·.1) := by rw [hll]; simp [Function.comp_def, Nd.new]
    have hqw : ∀ q ∈ l.map (·.1), w.heap.size ≤ q := fun q hq' => by
      obtain ⟨x, hx, rfl⟩ := List.mem_map.1 hq'
      exact Nat.le_trans HF1.out.size (hq x hx)
    have hbw : w.heap.size ≤ b := Nat.le_trans HF1.out.size hb
    have hl127' : xs.length ≤ 127 := by simpa using hl127
    have HST : Hid (EndR w b t well (xs.map (·.1)) 0 w2) := ⟨l, false, hB, by rw [hll]; exact hend.1, hps, by rw [hll, hend.2]; simp, fun _ => ⟨by rw [hll]; exact WellOk.new _, rfl⟩, hqw, HF2.out⟩
    have hmul0 : 0 ≤ t * (xs.length : Int) := Int.mul_nonneg (by omega) (by omega)
    have hmul1 : t * (xs.length : Int) ≤ 2540 := by
      have := Int.mul_le_mul ht2 (show (xs.length : Int) ≤ 127 by omega) (by omega) (by omega)
      omega
    clear hB hll hb hq hn0 hnd hl127 hend hqw hps HN HF1 HF2
    unfold ptr
    go_wp2_with fail
    go_loopw [12] (fun i wq => ∃ (k : Nat), (k : Int) ≤ t * (xs.length : Int) ∧ i = .int .i64 k ∧ EndR w b t well (xs.map (·.1)) k wq) (fun i _ => (t * (xs.length : Int) - intOf i).toNat)
    case atStart => exact ⟨0, by simpa using hmul0, rfl, HST.out⟩
    case round =>
      clear HST
      obtain ⟨k, hk, rfl, l, hh, hB, hend, hps, hleft, hwell, hq, hF⟩ := hrel
      have HB := Lib.hid hB
      have HEND := Lib.hid hend
      have HPS := Lib.hid hps
      have HLEFT := Lib.hid hleft
      have HWELL := Lib.hid hwell
      have HQ := Lib.hid hq
      have HF := Lib.hid hF
      clear hB hend hps hleft hwell hq hF
      cases hn : nextOf ⟨nds l, t, hh⟩ with
      | mk n bo =>
        have HNX := Lib.hid (next_any b l t hh _ HB.out)
        rw [hn] at HNX
        unfold ptr at HNX
        cases bo with
        | false =>
          cases well with
          | false =>
            clear hn
            go_wp2_with fail
            refine HNX.out.mono ?_
            rintro e w5 ⟨rfl, m6, rfl⟩
            simp only
            go_wp2_with fail
            refine (livesB_any _).mono ?_
            rintro e w6 ⟨rfl, hF6⟩
            have HF6 := Lib.hid (HF.out.trans' (Frm.trans' (b := _) (by (repeat' (first | (with_reducible exact Frm.refl _ _) | (with_reducible assumption) | (with_reducible refine Frm.alloc ?_ _) | (with_reducible refine Frm.drew ?_) | (with_reducible refine Frm.drewN ?_ _) | (with_reducible refine Frm.set1 ?_ _) | (with_reducible refine Frm.setCell ?_ ?_ _) | (exact fun h => absurd h (Nat.lt_irrefl _)) | (intro hlt; simp [World.size_alloc, One] at hlt ⊢; omega)))) hF6))
            clear hF6
            go_wp2_with fail
            go_ret
            exact ⟨rfl, HF6.out.below (Nat.le_refl _) (fun _ _ h => h)⟩
          | true =>
            obtain ⟨hwok, rfl⟩ := HWELL.out rfl
            obtain ⟨hkl, hmay, hrun⟩ := hwok.fin hn
            have hkx : k = xs.length := by
              have h1 := congrArg List.length HPS.out
              simp at h1
              omega
            have hll : l.length = xs.length := by
              have h1 := congrArg List.length HPS.out
              simp [nds] at h1
              exact h1
            have HMAY := Lib.hid (fun m => may_any b l t false _ (HB.out.grow (w' := wr.drewN m) (by (repeat' (first | (with_reducible exact Frm.refl _ _) | (with_reducible assumption) | (with_reducible refine Frm.alloc ?_ _) | (with_reducible refine Frm.drew ?_) | (with_reducible refine Frm.drewN ?_ _) | (with_reducible refine Frm.set1 ?_ _) | (with_reducible refine Frm.setCell ?_ ?_ _) | (exact fun h => absurd h (Nat.lt_irrefl _)) | (intro hlt; simp [World.size_alloc, One] at hlt ⊢; omega))))))
            rw [hmay] at HMAY
            have HRUN := Lib.hid (fun m => run_any b l t false _ (HB.out.grow (w' := wr.drewN m) (by (repeat' (first | (with_reducible exact Frm.refl _ _) | (with_reducible assumption) | (with_reducible refine Frm.alloc ?_ _) | (with_reducible refine Frm.drew ?_) | (with_reducible refine Frm.drewN ?_ _) | (with_reducible refine Frm.set1 ?_ _) | (with_reducible refine Frm.setCell ?_ ?_ _) | (exact fun h => absurd h (Nat.lt_irrefl _)) | (intro hlt; simp [World.size_alloc, One] at hlt ⊢; omega))))) (by omega))
            have HRL := Lib.hid (hrun.trans ((nds_length l).trans hll))
            subst hkx
            clear hn hwok hkl hmay hrun hll
            unfold ptr at HMAY HRUN
            go_wp2_with fail
            refine HNX.out.mono ?_
            rintro e w5 ⟨rfl, m6, rfl⟩
            simp only
            go_wp2_with fail
            refine (HMAY.out _).mono ?_
            rintro e w5 ⟨rfl, m7, rfl⟩
            go_wp2_with fail
            refine (HRUN.out _).mono ?_
            rintro e w8 ⟨v8, rfl, hr8, hF8⟩
            obtain ⟨A8, c8, rfl, _⟩ := row_open hr8
            have HF8 := Lib.hid (HF.out.trans' (Frm.trans' (b := _) (by (repeat' (first | (with_reducible exact Frm.refl _ _) | (with_reducible assumption) | (with_reducible refine Frm.alloc ?_ _) | (with_reducible refine Frm.drew ?_) | (with_reducible refine Frm.drewN ?_ _) | (with_reducible refine Frm.set1 ?_ _) | (with_reducible refine Frm.setCell ?_ ?_ _) | (exact fun h => absurd h (Nat.lt_irrefl _)) | (intro hlt; simp [World.size_alloc, One] at hlt ⊢; omega)))) hF8))
            rw [HRL.out]
            clear hr8 hF8
            go_wp2_with fail
            refine (livesB_any _).mono ?_
            rintro e w6 ⟨rfl, hF6⟩
            have HF6 := Lib.hid (HF8.out.trans' hF6)
            clear hF6
            go_wp2_with fail
            go_ret
            exact ⟨rfl, HF6.out.below (Nat.le_refl _) (fun _ _ h => h)⟩
        | true =>
          obtain ⟨rfl, j, y, hpj, hyj, hyn, hy0, _⟩ := HEND.out.saw hn s5
          obtain ⟨hpe, hpa⟩ := plan_of HEND.out.1 HPS.out hyj
          have HPE : Hid (∃ i, ∃ h : i < xs.length, xs[i].1.node = n) := by
            obtain ⟨i, hi, e⟩ := hpe
            exact ⟨i, by simpa using hi, by rw [← hyn, ← e]; simp⟩
          have HPA : Hid (∀ i (h : i < xs.length), xs[i].1.node = n → xs[i].1 = y.p) := fun i hi e => by
            have := hpa i (by simpa using hi) (by rw [hyn, ← e]; simp)
            simpa using this
          have HNEXT := Lib.hid hn
          have HPJ := Lib.hid hpj
          have HYJ := Lib.hid hyj
          have HY0 := Lib.hid hy0
          clear hn hpj hyj hyn hy0 hpe hpa
          obtain ⟨wo, hwo⟩ : ∃ wo : World, wo = wr := ⟨_, rfl⟩
          subst hwo
          go_wp2_with fail
          refine HNX.out.mono ?_
          rintro e w5 ⟨rfl, m6, rfl⟩
          simp only
          go_wp2_with fail
          go_loopw [16] (fun iv wz => ∃ (i : Nat), i ≤ xs.length ∧ iv = .int .i64 i ∧ PlanCut xs n wo.heap.size i y.p (wo.alloc (.cells (encP (⟨0, 0, 0, 0, 0, 0, 0, 0, [], false, false⟩, .slice none 0 0)).toArray 38)) wz) (fun iv _ => xs.length - (intOf iv).toNat)
          case atStart => exact ⟨0, Nat.zero_le _, rfl, ⟨0, 0, 0, 0, 0, 0, 0, 0, [], false, false⟩, none, 0, 0, heap_new _ _, fun ⟨j, _, h, _⟩ => absurd h (Nat.not_lt_zero _), Frm.drewN (Frm.refl _ _) _⟩
          case round =>
            obtain ⟨i, hi, rfl, q, A9, c9, m9, hpb, hfound, hFz⟩ := hrel
            have hlo : ∀ (a : Addr) (u : Value), w.cell? a = some u → wr.cell? a = some u := fun a u h => by
              have h1 := World.block_lt_of_cell? w a h
              exact hFz.cell (cell_alloc_old (HF.out.cell h (fun h => h))) (fun e => by have e : a.block = _ := e; have := HF.out.size; omega)
            have HLO := Lib.hid hlo
            have HFD := Lib.hid hfound
            have HFZ := Lib.hid hFz
            have HPB := Lib.hid hpb
            clear hlo hfound hFz
            by_cases hil : i < xs.length
            · obtain ⟨g, off, rfl, hgl, hcell⟩ := HA.out (by omega)
              obtain ⟨ys, hys, _⟩ := HIX.out _ (List.getElem_mem hil)
              obtain ⟨Ai, ci, hiv, _⟩ := hys.open_
              have hcl := hcell i hil
              have HPAi := Lib.hid (HPA.out i hil)
              have hfz := frees hpb
              have hpl := lt_of_block hpb
              have HXI : Hid (∀ z, z = xs[i] → True) := fun _ _ => trivial
              have hnd : ∀ (u : Int), xs[i].1.node = u → Hid (xs[i].1.node = u) := fun u h => h
              have hiN : Hid (i < xs.length) := hil
              generalize hxe : xs[i] = x at *
              have HXE := Lib.hid hxe
              have hc8 : w.cell? ⟨g, off + i * 11 + 8, none⟩ = some (.slice Ai ys.length ci) := by rw [hcl 8 (by decide), ← hiv]; rfl
              have a0 : wr.cell? ⟨g, off + i * 11, none⟩ = some (Value.int .i64 x.1.node) := HLO.out _ _ (hcl 0 (by decide))
              have a1 : wr.cell? ⟨g, off + i * 11 + 1, none⟩ = some (Value.int .u32 x.1.dev) := HLO.out _ _ (hcl 1 (by decide))
              have a2 : wr.cell? ⟨g, off + i * 11 + 2, none⟩ = some (Value.int .u32 x.1.i0) := HLO.out _ _ (hcl 2 (by decide))
              have a3 : wr.cell? ⟨g, off + i * 11 + 3, none⟩ = some (Value.int .u32 x.1.i1) := HLO.out _ _ (hcl 3 (by decide))
              have a4 : wr.cell? ⟨g, off + i * 11 + 4, none⟩ = some (Value.int .u32 x.1.i2) := HLO.out _ _ (hcl 4 (by decide))
              have a5 : wr.cell? ⟨g, off + i * 11 + 5, none⟩ = some (Value.int .u32 x.1.i3) := HLO.out _ _ (hcl 5 (by decide))
              have a6 : wr.cell? ⟨g, off + i * 11 + 6, none⟩ = some (Value.int .u32 x.1.day) := HLO.out _ _ (hcl 6 (by decide))
              have a7 : wr.cell? ⟨g, off + i * 11 + 7, none⟩ = some (Value.int .u32 x.1.time) := HLO.out _ _ (hcl 7 (by decide))
              have a8 : wr.cell? ⟨g, off + i * 11 + 8, none⟩ = some (Value.slice Ai ys.length ci) := HLO.out _ _ (hc8)
              have a9 : wr.cell? ⟨g, off + i * 11 + 9, none⟩ = some (Value.bool x.1.mand) := HLO.out _ _ (hcl 9 (by decide))
              have a10 : wr.cell? ⟨g, off + i * 11 + 10, none⟩ = some (Value.bool x.1.keep) := HLO.out _ _ (hcl 10 (by decide))
              have z0 : wr.cell? ⟨wo.heap.size, 0, none⟩ = some (Value.int .i64 q.node) := cell_at HPB.out
              have z1 : wr.cell? ⟨wo.heap.size, 1, none⟩ = some (Value.int .u32 q.dev) := cell_at HPB.out
              have z2 : wr.cell? ⟨wo.heap.size, 2, none⟩ = some (Value.int .u32 q.i0) := cell_at HPB.out
              have z3 : wr.cell? ⟨wo.heap.size, 3, none⟩ = some (Value.int .u32 q.i1) := cell_at HPB.out
              have z4 : wr.cell? ⟨wo.heap.size, 4, none⟩ = some (Value.int .u32 q.i2) := cell_at HPB.out
              have z5 : wr.cell? ⟨wo.heap.size, 5, none⟩ = some (Value.int .u32 q.i3) := cell_at HPB.out
              have z6 : wr.cell? ⟨wo.heap.size, 6, none⟩ = some (Value.int .u32 q.day) := cell_at HPB.out
              have z7 : wr.cell? ⟨wo.heap.size, 7, none⟩ = some (Value.int .u32 q.time) := cell_at HPB.out
              have z8 : wr.cell? ⟨wo.heap.size, 8, none⟩ = some (Value.slice A9 m9 c9) := cell_at HPB.out
              have z9 : wr.cell? ⟨wo.heap.size, 9, none⟩ = some (Value.bool q.mand) := cell_at HPB.out
              have z10 : wr.cell? ⟨wo.heap.size, 10, none⟩ = some (Value.bool q.keep) := cell_at HPB.out
              clear hcell hcl hc8 hpb hys hiv hnd HXI hxe
              by_cases he : x.1.node = n
              · have b1 : (x.1.node == n) = true := by simpa using he
                have HXP := Lib.hid (HPAi.out he)
                clear he
                go_wp2_with fail
                go_roundw
                case rel =>
                  refine ⟨i + 1, by omega, by go_num, x.1, Ai, ci, ys.length, ?_, fun _ => HXP.out, ?_⟩
                  · exact store11 HPB.out
                  · exact frm11 HFZ.out
                case measure => simp [intOf]; omega
              · have b1 : (x.1.node == n) = false := by simpa using he
                have HE := Lib.hid he
                clear he
                go_wp2_with fail
                go_roundw
                case rel =>
                  refine ⟨i + 1, by omega, by go_num, q, A9, c9, m9, HPB.out, fun ⟨j, hj, hji, e⟩ => ?_, HFZ.out⟩
                  by_cases hje : j = i
                  · subst hje
                    exact absurd (by rw [← HXE.out]; exact e) HE.out
                  · exact HFD.out ⟨j, hj, by omega, e⟩
                case measure => simp [intOf]; omega
            · have hq : q = y.p := HFD.out (by obtain ⟨j0, hj0, e⟩ := HPE.out; exact ⟨j0, hj0, by omega, e⟩)
              subst hq
              have hpl := lt_of_block hpb
              have z1 : wr.cell? ⟨wo.heap.size, 1, none⟩ = some (Value.int .u32 y.p.dev) := cell_at HPB.out
              have z2 : wr.cell? ⟨wo.heap.size, 2, none⟩ = some (Value.int .u32 y.p.i0) := cell_at HPB.out
              have z3 : wr.cell? ⟨wo.heap.size, 3, none⟩ = some (Value.int .u32 y.p.i1) := cell_at HPB.out
              have z4 : wr.cell? ⟨wo.heap.size, 4, none⟩ = some (Value.int .u32 y.p.i2) := cell_at HPB.out
              have z5 : wr.cell? ⟨wo.heap.size, 5, none⟩ = some (Value.int .u32 y.p.i3) := cell_at HPB.out
              have z6 : wr.cell? ⟨wo.heap.size, 6, none⟩ = some (Value.int .u32 y.p.day) := cell_at HPB.out
              have z7 : wr.cell? ⟨wo.heap.size, 7, none⟩ = some (Value.int .u32 y.p.time) := cell_at HPB.out
              clear hpb
              go_upto_if 78 with fail
              go_cut [12] (fun u wx => u = .int .i64 k ∧ SeenCut wr.heap.size well y.p wr wx)
              case first =>
                cases well with
                | true =>
                  go_wp2_with fail
                  go_meet
                  exact ⟨rfl, seenAs y.p, heap_new _ _, fun _ => rfl, Frm.alloc (Frm.refl _ _) _⟩
                | false =>
                  by_cases hs0 : 0 < ss.length
                  · obtain ⟨gs, offs, rfl, hgs, hcs⟩ := HS.out hs0
                    obtain ⟨r, hr⟩ : ∃ r : Nat, r = k % ss.length := ⟨_, rfl⟩
                    have hrl : r < ss.length := by rw [hr]; exact Nat.mod_lt _ hs0
                    have hr2 : (k : Int) % (ss.length : Int) = (r : Int) := by rw [hr]; exact (Int.natCast_emod k ss.length).symm
                    have hr3 : ((k : Int) % (ss.length : Int)).toNat = r := by rw [hr2]; simp
                    have hcs := hcs r hrl
                    have HCS := Lib.hid hcs
                    generalize ss[r] = z at *
                    have x0 : wr.cell? ⟨gs, offs + r * 11, none⟩ = some (Value.bool z.there) := HLO.out _ _ (hcs 0 (by decide))
                    have x1 : wr.cell? ⟨gs, offs + r * 11 + 1, none⟩ = some (Value.int .u32 z.dev) := HLO.out _ _ (hcs 1 (by decide))
                    have x2 : wr.cell? ⟨gs, offs + r * 11 + 2, none⟩ = some (Value.int .u32 z.i0) := HLO.out _ _ (hcs 2 (by decide))
                    have x3 : wr.cell? ⟨gs, offs + r * 11 + 3, none⟩ = some (Value.int .u32 z.i1) := HLO.out _ _ (hcs 3 (by decide))
                    have x4 : wr.cell? ⟨gs, offs + r * 11 + 4, none⟩ = some (Value.int .u32 z.i2) := HLO.out _ _ (hcs 4 (by decide))
                    have x5 : wr.cell? ⟨gs, offs + r * 11 + 5, none⟩ = some (Value.int .u32 z.i3) := HLO.out _ _ (hcs 5 (by decide))
                    have x6 : wr.cell? ⟨gs, offs + r * 11 + 6, none⟩ = some (Value.int .u32 z.day) := HLO.out _ _ (hcs 6 (by decide))
                    have x7 : wr.cell? ⟨gs, offs + r * 11 + 7, none⟩ = some (Value.int .u32 z.time) := HLO.out _ _ (hcs 7 (by decide))
                    have x8 : wr.cell? ⟨gs, offs + r * 11 + 8, none⟩ = some (Value.int .i64 z.state) := HLO.out _ _ (hcs 8 (by decide))
                    have x9 : wr.cell? ⟨gs, offs + r * 11 + 9, none⟩ = some (Value.int .u32 z.code) := HLO.out _ _ (hcs 9 (by decide))
                    have x10 : wr.cell? ⟨gs, offs + r * 11 + 10, none⟩ = some (Value.bool z.beat) := HLO.out _ _ (hcs 10 (by decide))
                    have hgw : gs < wr.heap.size := World.block_lt_of_cell? wr _ x0
                    have hgn : gs ≠ wr.heap.size := by omega
                    have r0 : 0 ≤ (k : Int) % (ss.length : Int) := by omega
                    have r1 : (k : Int) % (ss.length : Int) < (ss.length : Int) := by omega
                    have hss : ((ss.length : Int) == 0) = false := beq_eq_false_iff_ne.2 (by omega)
                    clear hr hr2 hcs z1 z2 z3 z4 z5 z6 z7
                    go_wp2_with fail
                    go_meet
                    exact ⟨rfl, z, heap_new _ _, fun h => (by cases h), Frm.alloc (Frm.refl _ _) _⟩
                  · have hs1 : ss.length ≤ 0 := by omega
                    clear hs0 z1 z2 z3 z4 z5 z6 z7
                    go_wp2_with fail
                    go_meet
                    exact ⟨rfl, ⟨false, 0, 0, 0, 0, 0, 0, 0, 0, 0, false⟩, heap_new _ _, fun h => (by cases h), Frm.alloc (Frm.refl _ _) _⟩
              case rest =>
                obtain ⟨rfl, s, hS, hwl, hF6⟩ := hcut
                have hFc : Frm (fun _ => False) wo wc := ((Frm.alloc (Frm.refl _ _) _).trans HFZ.out (fun i hi e => by have e : i = wo.heap.size := e; omega)).trans' hF6
                obtain ⟨_, j', y', hpj', hyj', hyn', hy0', hend', hlt', hf0'⟩ := HEND.out.saw HNEXT.out s
                have hjj : j' = j := by rw [HPJ.out] at hpj'; exact (Option.some.inj hpj').symm
                subst hjj
                have hwl2 : well = true → WellOk (sawOf ⟨nds l, t, false⟩ n s).1.l ((k : Int) + 1) ∧ (sawOf ⟨nds l, t, false⟩ n s).1.halted = false := fun hw => by
                  rw [hwl hw]
                  exact (HWELL.out hw).1.saw HEND.out.1 HPJ.out HYJ.out HY0.out
                have hps2 : (sawOf ⟨nds l, t, false⟩ n s).1.l.map (·.p) = xs.map (·.1) := by rw [saw_plans]; exact HPS.out
                have HSAW := Lib.hid (saw_open b l t n s wc (HB.out.grow hFc) j' HPJ.out (fun hj => by have := nds_get hj; rw [HYJ.out] at this; cases this; exact HY0.out) (fun q hq => by
                  have := HEND.out.2 q.2 (by simp [nds]; exact ⟨q.1, hq⟩)
                  omega))
                have hnn := leftOf_nn hend'
                have hleft := HLEFT.out
                generalize sawOf ⟨nds l, t, false⟩ n s = r at *
                obtain ⟨⟨rl, rt, rh⟩, r1, r2, r3⟩ := r
                simp only at hend' hlt' hf0' hwl2 hps2 hnn HSAW
                subst hf0'
                have hxm : ((xs.map (·.1)).length : Int) = (xs.length : Int) := by simp
                rw [hxm] at hleft
                have hk1 : (k : Int) + 1 ≤ t * (xs.length : Int) := by omega
                have HK2 : Hid ((k : Int) + 1 + leftOf rl t ≤ t * (xs.length : Int)) := by unfold Hid; omega
                have HWL2 := Lib.hid hwl2
                have HPS2 := Lib.hid hps2
                have HEND2 := Lib.hid hend'
                have HFC := Lib.hid hFc
                have y0 : wc.cell? ⟨wr.heap.size, 0, none⟩ = some (Value.bool s.there) := cell_at hS
                have y1 : wc.cell? ⟨wr.heap.size, 1, none⟩ = some (Value.int .u32 s.dev) := cell_at hS
                have y2 : wc.cell? ⟨wr.heap.size, 2, none⟩ = some (Value.int .u32 s.i0) := cell_at hS
                have y3 : wc.cell? ⟨wr.heap.size, 3, none⟩ = some (Value.int .u32 s.i1) := cell_at hS
                have y4 : wc.cell? ⟨wr.heap.size, 4, none⟩ = some (Value.int .u32 s.i2) := cell_at hS
                have y5 : wc.cell? ⟨wr.heap.size, 5, none⟩ = some (Value.int .u32 s.i3) := cell_at hS
                have y6 : wc.cell? ⟨wr.heap.size, 6, none⟩ = some (Value.int .u32 s.day) := cell_at hS
                have y7 : wc.cell? ⟨wr.heap.size, 7, none⟩ = some (Value.int .u32 s.time) := cell_at hS
                have y8 : wc.cell? ⟨wr.heap.size, 8, none⟩ = some (Value.int .i64 s.state) := cell_at hS
                have y9 : wc.cell? ⟨wr.heap.size, 9, none⟩ = some (Value.int .u32 s.code) := cell_at hS
                have y10 : wc.cell? ⟨wr.heap.size, 10, none⟩ = some (Value.bool s.beat) := cell_at hS
                clear hF6 hFc hpj' hyj' hyn' hy0' hend' hlt' hwl2 hps2 hnn hleft hwl hS HPA HPE HFZ HLO HFD hxm z1 z2 z3 z4 z5 z6 z7
                unfold ptr valS at HSAW
                go_wp2_with fail
                refine HSAW.out.mono ?_
                rintro e w7 ⟨rfl, l7, hB7, hl7, hp7, hF7⟩
                have HB7 := Lib.hid hB7
                have HL7 := Lib.hid hl7
                have HP7 := Lib.hid hp7
                have HF7 : Hid (Frm (fun _ => False) w w7) := (HF.out.trans' HFC.out).trans hF7 (fun i hi h => by
                  rcases h with h | h
                  · omega
                  · have := HQ.out i h; omega)
                clear hB7 hl7 hp7 hF7 y0 y1 y2 y3 y4 y5 y6 y7 y8 y9 y10
                (try simp only)
                go_wp2_with fail
                go_roundw
                case rel =>
                  have hl7 : nds l7 = rl := HL7.out
                  refine ⟨k + 1, by omega, by go_num, l7, rh, HB7.out, by rw [hl7]; exact HEND2.out, by rw [hl7]; exact HPS2.out, ?_, fun hw => ?_, by rw [HP7.out]; exact HQ.out, HF7.out⟩
                  · rw [hl7]
                    have := HK2.out
                    simp only [List.length_map]
                    omega
                  · rw [hl7]
                    have := HWL2.out hw
                    exact ⟨by simpa using this.1, this.2⟩
                case measure => simp [intOf]; omega
end Go.Proofs.Ytjjmkpjclhielaa
