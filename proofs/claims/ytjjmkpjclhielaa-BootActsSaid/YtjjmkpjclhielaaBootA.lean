/-
  The walk of BootMay.
-/
import Derived.Test.YtjjmkpjclhielaaBootL
import Derived.Test.YtjjmkpjclhielaaBootV
import Derived.Test.YtjjmkpjclhielaaRow
namespace Go.Proofs.Ytjjmkpjclhielaa
open Go.RowKit
set_option linter.unusedVariables false

def s0 : Sn := ⟨false, 0, 0, 0, 0, 0, 0, 0, 0, 0, false⟩
theorem judge_away (p : Pl) (s : Sn) (h : s.there = false) : judgeOf p s = (66, 4) := by rw [judgeOf, if_pos h]

/-- What holds all along, where no node must be there, and each is tried once. -/
def MayOk (l : List Nd) : Prop := (l.map (·.p.node)).Nodup ∧ ∀ x ∈ l, x.p.mand = false ∧ 0 ≤ x.looked ∧ x.looked ≤ 1 ∧ ((x.is = 0 ∧ x.looked = 0) ∨ x.is = 2)
theorem MayOk.new {ps : List Pl} (hn : (ps.map (·.node)).Nodup) (hm : ∀ p ∈ ps, p.mand = false) : MayOk (ps.map Nd.new) := by
  refine ⟨by simpa [Function.comp_def, Nd.new] using hn, fun x hx => ?_⟩
  obtain ⟨p, hp, rfl⟩ := List.mem_map.1 hx
  exact ⟨hm p hp, by simp [Nd.new], by simp [Nd.new], .inl ⟨rfl, rfl⟩⟩
theorem MayOk.may {l : List Nd} (h : MayOk l) (t : Int) : mayOf ⟨l, t, false⟩ = true := by
  unfold mayOf
  have : (l.any fun x => x.p.mand && !(x.is == 1)) = false := by
    rw [List.any_eq_false]
    intro x hx
    simp [(h.2 x hx).1]
  simp [this]
theorem MayOk.run {l : List Nd} (h : MayOk l) : runN l = [] := by
  unfold runN
  have : (l.filter fun x => x.is == 1) = [] := by
    rw [List.filter_eq_nil_iff]
    intro x hx
    rcases (h.2 x hx).2.2.2 with h | h
    · simp [h.1]
    · simp [h]
  rw [this]; rfl
theorem MayOk.saw {l : List Nd} (h : MayOk l) {n : Int} (hn : nextOf ⟨l, 1, false⟩ = (n, true)) (s : Sn) (hs : s.there = false) :
    ∃ k, placeN l n = some k ∧ (∀ x, l[k]? = some x → x.is = 0) ∧ MayOk (sawOf ⟨l, 1, false⟩ n s).1.l ∧ (sawOf ⟨l, 1, false⟩ n s).1.halted = false := by
  obtain ⟨_, j, y, hp, hy, hyn, hy0, _⟩ := nextOf_some (b := ⟨l, 1, false⟩) h.1 hn
  have hmem : y ∈ l := List.mem_of_getElem? hy
  obtain ⟨hm, hl0, hl1, hst⟩ := h.2 y hmem
  have hs2 : (y.seen s 1) = ⟨y.p, 2, y.looked + 1, 66⟩ := by
    simp only [Nd.seen, judge_away y.p s hs]
    rw [if_neg (by omega), if_pos (.inr (by omega))]
  have hsw := sawOf_open (b := ⟨l, 1, false⟩) s hp hy hy0 rfl
  rw [hsw]
  refine ⟨j, hp, fun x hx => by rw [hy] at hx; cases hx; exact hy0, ?_, by simp [hm]⟩
  simp only [hs2]
  have e : (l.set j ⟨y.p, 2, y.looked + 1, 66⟩).map (·.p.node) = l.map (·.p.node) := set_own (b := ⟨l, 1, false⟩) h.1 hy rfl
  refine ⟨by rw [e]; exact h.1, fun x hx => ?_⟩
  rcases List.mem_or_eq_of_mem_set hx with hx | rfl
  · exact h.2 x hx
  · refine ⟨hm, by simp only; omega, ?_, .inr rfl⟩
    rcases hst with h | h
    · simp only; omega
    · rw [h] at hy0; cases hy0

theorem newErr_nodup {ps : List Pl} {seen : List Int} (h : newErr seen ps = 0) : (ps.map (·.node)).Nodup ∧ (∀ n ∈ ps.map (·.node), n ∉ seen) ∧ ∀ p ∈ ps, 1 ≤ p.node ∧ p.node ≤ 127 := by
  induction ps generalizing seen with
  | nil => simp
  | cons p r ih =>
    rw [newErr] at h
    split at h
    · rename_i hc; rw [h] at hc; exact absurd rfl hc
    · rename_i hc
      split at h
      · cases h
      · rename_i hs
        obtain ⟨h1, h2, h3⟩ := ih h
        refine ⟨?_, fun n hn => ?_, fun q hq => ?_⟩
        · simp only [List.map_cons, List.nodup_cons]
          exact ⟨fun hm => h2 p.node hm (by simp), h1⟩
        · simp only [List.map_cons, List.mem_cons] at hn
          rcases hn with rfl | hn
          · exact hs
          · exact fun hm => h2 n hn (by simp [hm])
        · rcases List.mem_cons.1 hq with rfl | hq
          · simp only [Decidable.not_not] at hc
            unfold cfgOf at hc
            split at hc
            · cases hc
            · omega
          · exact h3 q hq
theorem newOf_nodup {ps : List Pl} {t : Int} (h : newOf ps t = 0) : (ps.map (·.node)).Nodup ∧ ps.length ≤ 127 ∧ 1 ≤ t ∧ t ≤ 1000 ∧ ∀ p ∈ ps, 1 ≤ p.node ∧ p.node ≤ 127 := by
  unfold newOf at h
  split at h
  · cases h
  · split at h
    · cases h
    · obtain ⟨h1, _, h3⟩ := newErr_nodup h
      exact ⟨h1, by omega, by omega, by omega, h3⟩

/-- Plans of which the first k need not be there. -/
def unmand (p : Pl) : Pl := ⟨p.node, p.dev, p.i0, p.i1, p.i2, p.i3, p.day, p.time, p.its, false, p.keep⟩

/-- The first k plans need not be there. -/
def Freed (xs zs : List Pla) (k : Nat) : Prop := zs.length = xs.length ∧ (∀ j (hj : j < zs.length), j < k → zs[j].1.mand = false) ∧ ∀ x ∈ zs, ∀ it ∈ x.1.its, Rng it

theorem PlansRow.frmP {B : Nat} {g : Nat} {w w' : World} {xs : List Pla} (h : ∀ x ∈ xs, ∃ ys, ItemsRow B w x.2 ys ∧ ys.map bare = x.1.its) {cur : Array Value} (hg : w.heap[g]? = some (.cells cur 38 (0, 0))) (hF : Frm (One g) w w') : ∀ x ∈ xs, ∃ ys, ItemsRow B w' x.2 ys ∧ ys.map bare = x.1.its := fun x hx => by
  obtain ⟨ys, h1, h2⟩ := h x hx
  exact ⟨ys, h1.frm hF (fun q cur t (e : q = g) hc => by
    subst e
    rw [hg] at hc
    cases hc
    exact ⟨by decide, by decide⟩), h2⟩

set_option maxRecDepth 100000 in
set_option maxHeartbeats 2000000 in
theorem lmay_any (v : Value) (xs : List Pla) (w : World) (h : PlansAt w v xs) (hl : xs.length * 72 ≤ 140737488351232) (hr : ∀ x ∈ xs, ∀ it ∈ x.1.its, Rng it)
    (hg : ∀ x ∈ xs, x.1.its.length * 32 ≤ 140737488351232 ∧ ∀ it ∈ x.1.its, it.2.2.length ≤ 140737488351232) :
    Calls Try.prog 5 #[v] w (LawPost w) := by
  have H := Lib.hid (ownP_any v xs w h hl hg)
  obtain ⟨A, cap, rfl, _⟩ := h.1
  have HR := Lib.hid hr
  have hxl : xs.length ≤ 1954687338213 := by omega
  clear h hr hg
  go_enter Try.func5, Try.ntmps5
  go_wp2_with (go_at_call 9; refine H.out.mono ?_; rintro e w1 ⟨hF1, v1, zs0, rfl, hz1, hz2⟩)
  have hzl0 : zs0.length = xs.length := by have := congrArg List.length hz1; simpa using this
  obtain ⟨A1, cap1, rfl, _⟩ := row_open hz2.1
  have hrow := hz2.1
  rw [hzl0] at hrow ⊢
  have HROW := Lib.hid hrow
  have HIT := Lib.hid (fun x hx => hz2.2 x hx)
  have HFR : Hid (∀ x ∈ zs0, ∀ it ∈ x.1.its, Rng it) := fun x hx => by
    have : x.1 ∈ xs.map (·.1) := by rw [← hz1]; exact List.mem_map_of_mem hx
    obtain ⟨y, hy, e⟩ := List.mem_map.1 this
    rw [← e]
    exact HR.out y hy
  have HZL0 := Lib.hid hzl0
  have HF1 := Lib.hid hF1
  clear hz1 hz2 hzl0 hrow hF1
  go_wp2_with fail
  go_loopw [3] (fun i wr => ∃ (k : Nat) (zs : List Pla), k ≤ xs.length ∧ i = .int .i64 k ∧ wr.ownsRow w.heap.size 38 11 (.slice A1 xs.length cap1) xs.length (cellsOf encP zs) ∧ (∀ x ∈ zs, ∃ ys, ItemsRow w.heap.size wr x.2 ys ∧ ys.map bare = x.1.its) ∧ Freed xs zs k ∧ Frm (fun _ => False) w wr) (fun i _ => xs.length - (intOf i).toNat)
  case atStart => exact ⟨0, zs0, Nat.zero_le _, rfl, HROW.out, HIT.out, ⟨HZL0.out, fun j hj h => absurd h (by omega), HFR.out⟩, HF1.out⟩
  case round =>
    obtain ⟨k, zs, hk, rfl, hO, hit, ⟨hzl, hfr, hrg⟩, hF⟩ := hrel
    clear HROW HIT HFR HZL0 HF1
    by_cases hlt : k < xs.length
    · obtain ⟨A9, c9, e9, _, _, hrow⟩ := row_open hO
      simp only [Value.slice.injEq] at e9
      obtain ⟨rfl, _, rfl⟩ := e9
      obtain ⟨g3, rfl, hg3, ⟨cur3, hcur3⟩, hfz3, hc3⟩ := hrow (by omega)
      have hkz : k < zs.length := by omega
      obtain ⟨u9, c9⟩ : ∃ u, wr.cell? ⟨g3, k * 11 + 9, none⟩ = some u := by
        refine ⟨.bool zs[k].1.mand, ?_⟩
        rw [hc3 _ (by omega), cellsOf_get encP_len zs k 9 hkz (by decide)]
        rfl
      have hlt3 := lt_of_block hcur3
      have HO := Lib.hid hO
      have HIT := Lib.hid hit
      have HFD : Hid (Freed xs zs k) := ⟨hzl, hfr, hrg⟩
      have HF := Lib.hid hF
      have HCUR := Lib.hid hcur3
      have HKZ := Lib.hid hkz
      clear hO hit hzl hfr hrg hF hrow hc3 hcur3 hkz
      go_wp2_with fail
      go_roundw
      case rel =>
        have hkz := HKZ.out
        obtain ⟨hzl, hfr, hrg⟩ := HFD.out
        refine ⟨k + 1, zs.set k (unmand zs[k].1, zs[k].2), by omega, by go_num, ?_, ?_, ⟨by simpa using hzl, fun j hj hjk => ?_, fun x hx => ?_⟩, ?_⟩
        · rw [← cellsOf_set1 k hkz (unmand zs[k].1, zs[k].2) 9 (by decide) (.bool false) rfl]
          exact row_set HO.out _ (by omega) _
        · have h1 := PlansRow.frmP HIT.out HCUR.out ((Frm.refl (One g3) wr).set1 (o := k * 11 + 9) (.bool false))
          intro x hx
          rcases List.mem_or_eq_of_mem_set hx with hx | rfl
          · exact h1 x hx
          · exact h1 zs[k] (List.getElem_mem hkz)
        · by_cases e : k = j
          · subst e; simp [unmand]
          · simp only [List.getElem_set_ne e]
            exact hfr j (by simpa using hj) (by omega)
        · rcases List.mem_or_eq_of_mem_set hx with hx | rfl
          · exact hrg x hx
          · exact hrg zs[k] (List.getElem_mem hkz)
        · exact HF.out.setCell (p := ⟨g3, k * 11 + 9, none⟩) (fun h => by simp only at h; omega) _
      case measure => simp [intOf]; omega
    · obtain rfl : k = xs.length := by omega
      have hpl : PlansRow w.heap.size wr (.slice A1 xs.length cap1) zs := ⟨by rw [hzl]; exact hO, hit⟩
      have HN := Lib.hid (bnew_any (.slice A1 xs.length cap1) zs 1 wr hpl.at_ hrg)
      have HMD : Hid (∀ p ∈ zs.map (·.1), p.mand = false) := fun p hp => by
        obtain ⟨x, hx, rfl⟩ := List.mem_map.1 hp
        obtain ⟨j, hj, rfl⟩ := List.getElem_of_mem hx
        exact hfr j hj (by omega)
      have HF := Lib.hid hF
      clear hO hit hzl hfr hrg hF hpl
      go_wp2_with fail
      refine HN.out.mono ?_
      rintro e w2 ⟨hF2, hpost⟩
      have HF2 := Lib.hid (HF.out.trans' hF2)
      clear hF2
      rcases hpost with ⟨hne, rfl⟩ | ⟨hn0, b, l, rfl, hB, hl, hb, hq⟩
      · have hb : (newOf (zs.map (·.1)) 1 != 0) = true := by simpa using hne
        generalize newOf (zs.map (·.1)) 1 = er at *
        clear hne
        go_wp2_with fail
        refine (livesB_any _).mono ?_
        rintro e w3 ⟨rfl, hF3⟩
        have HF3 := Lib.hid (HF2.out.trans' hF3)
        clear hF3
        go_wp2_with fail
        go_ret
        exact ⟨rfl, HF3.out.below (Nat.le_refl _) (fun _ _ h => h)⟩
      · obtain ⟨hnd, hl127, _⟩ := newOf_nodup hn0
        have hok : MayOk (nds l) := by rw [hl]; exact MayOk.new hnd HMD.out
        have hll : l.length ≤ 1000 := by
          have := congrArg List.length hl
          simp [nds] at this hl127
          omega
        have hbw : w.heap.size ≤ b := Nat.le_trans HF.out.size hb
        have hqw : ∀ q ∈ l.map (·.1), w.heap.size ≤ q := fun q hq' => by
          obtain ⟨x, hx, rfl⟩ := List.mem_map.1 hq'
          exact Nat.le_trans HF.out.size (hq x hx)
        have HB := Lib.hid hB
        have HOK := Lib.hid hok
        have HQ := Lib.hid hqw
        have HLL := Lib.hid hll
        clear hB hl hb hq hn0 hnd hl127 hok hqw hll HN HMD
        unfold ptr
        go_wp2_with fail
        go_loopw [6] (fun i wq => ∃ (k : Nat) (l : List (Nat × Nd)), k ≤ 200 ∧ i = .int .i64 k ∧ BAt wq b l 1 false ∧ MayOk (nds l) ∧ l.length ≤ 1000 ∧ (∀ q ∈ l.map (·.1), w.heap.size ≤ q) ∧ Frm (fun _ => False) w wq) (fun i _ => 200 - (intOf i).toNat)
        case atStart => exact ⟨0, l, by omega, rfl, HB.out, HOK.out, HLL.out, HQ.out, HF2.out⟩
        case round =>
          clear HB HOK HLL HQ HF2 HF
          obtain ⟨k, l, hk, rfl, hB, hok, hll, hq, hF⟩ := hrel
          have HB := Lib.hid hB
          have HOK := Lib.hid hok
          have HQ := Lib.hid hq
          have HF := Lib.hid hF
          clear hB hok hq hF
          by_cases hlt : k < 200
          · have HM := Lib.hid (may_any b l 1 false _ HB.out)
            rw [HOK.out.may 1] at HM
            have hm2 := HOK.out
            cases hn : nextOf ⟨nds l, 1, false⟩ with
            | mk n bo =>
              have HNX := Lib.hid (fun m => next_any b l 1 false (wr.drewN m) (HB.out.grow (by (repeat' (first | (with_reducible exact Frm.refl _ _) | (with_reducible assumption) | (with_reducible refine Frm.alloc ?_ _) | (with_reducible refine Frm.drew ?_) | (with_reducible refine Frm.drewN ?_ _) | (with_reducible refine Frm.set1 ?_ _) | (with_reducible refine Frm.setCell ?_ ?_ _) | (exact fun h => absurd h (Nat.lt_irrefl _)) | (intro hlt; simp [World.size_alloc, One] at hlt ⊢; omega))))))
              rw [hn] at HNX
              have HHL := Lib.hid (fun m => halted_any b l 1 false (wr.drewN m) (HB.out.grow (by (repeat' (first | (with_reducible exact Frm.refl _ _) | (with_reducible assumption) | (with_reducible refine Frm.alloc ?_ _) | (with_reducible refine Frm.drew ?_) | (with_reducible refine Frm.drewN ?_ _) | (with_reducible refine Frm.set1 ?_ _) | (with_reducible refine Frm.setCell ?_ ?_ _) | (exact fun h => absurd h (Nat.lt_irrefl _)) | (intro hlt; simp [World.size_alloc, One] at hlt ⊢; omega))))))
              unfold ptr at HM HNX HHL
              cases bo with
              | false =>
                clear hn hm2
                go_wp2_with fail
                refine HM.out.mono ?_
                rintro e w5 ⟨rfl, m5, rfl⟩
                go_wp2_with fail
                refine (HHL.out _).mono ?_
                rintro e w5 ⟨rfl, hw5⟩
                subst w5
                go_wp2_with fail
                refine (HNX.out _).mono ?_
                rintro e w5 ⟨rfl, m6, rfl⟩
                have HRUN := Lib.hid (run_any b l 1 false (wr.drewN (m5 + m6)) (HB.out.grow (by (repeat' (first | (with_reducible exact Frm.refl _ _) | (with_reducible assumption) | (with_reducible refine Frm.alloc ?_ _) | (with_reducible refine Frm.drew ?_) | (with_reducible refine Frm.drewN ?_ _) | (with_reducible refine Frm.set1 ?_ _) | (with_reducible refine Frm.setCell ?_ ?_ _) | (exact fun h => absurd h (Nat.lt_irrefl _)) | (intro hlt; simp [World.size_alloc, One] at hlt ⊢; omega))))) hll)
                have HF' : Hid (Frm (fun _ => False) w (wr.drewN (m5 + m6))) := HF.out.trans' (by (repeat' (first | (with_reducible exact Frm.refl _ _) | (with_reducible assumption) | (with_reducible refine Frm.alloc ?_ _) | (with_reducible refine Frm.drew ?_) | (with_reducible refine Frm.drewN ?_ _) | (with_reducible refine Frm.set1 ?_ _) | (with_reducible refine Frm.setCell ?_ ?_ _) | (exact fun h => absurd h (Nat.lt_irrefl _)) | (intro hlt; simp [World.size_alloc, One] at hlt ⊢; omega))))
                unfold ptr at HRUN
                simp only
                go_wp2_with fail
                refine HRUN.out.mono ?_
                rintro e w5 ⟨v5, rfl, hr5, hF5⟩
                rw [HOK.out.run] at hr5
                obtain ⟨A5, c5, rfl, _⟩ := row_open hr5
                have HF5 := Lib.hid (HF'.out.trans' hF5)
                clear hr5 hF5
                simp only [List.length_nil]
                go_wp2_with fail
                refine (livesB_any _).mono ?_
                rintro e w6 ⟨rfl, hF6⟩
                have HF6 := Lib.hid (HF5.out.trans' hF6)
                clear hF6
                go_wp2_with fail
                go_ret
                exact ⟨rfl, HF6.out.below (Nat.le_refl _) (fun _ _ h => h)⟩
              | true =>
                obtain ⟨j, hpj, hj0, hok2, hh2⟩ := hm2.saw hn s0 rfl
                have HSAW := Lib.hid (fun W hF => saw_open b l 1 n s0 W (HB.out.grow (w' := W) hF) j hpj (fun hj => hj0 _ (nds_get hj)) (fun q hq => by
                  have := HOK.out.2 q.2 (by simp [nds]; exact ⟨q.1, hq⟩)
                  omega))
                have HOK2 := Lib.hid hok2
                have HH2 := Lib.hid hh2
                clear hn hm2 hpj hj0 hok2 hh2
                unfold ptr valS s0 at HSAW
                go_wp2_with fail
                refine HM.out.mono ?_
                rintro e w5 ⟨rfl, m5, rfl⟩
                go_wp2_with fail
                refine (HHL.out _).mono ?_
                rintro e w5 ⟨rfl, hw5⟩
                subst w5
                go_wp2_with fail
                refine (HNX.out _).mono ?_
                rintro e w5 ⟨rfl, m6, rfl⟩
                simp only
                go_wp2_with fail
                refine (HSAW.out _ (by (repeat' (first | (with_reducible exact Frm.refl _ _) | (with_reducible assumption) | (with_reducible refine Frm.alloc ?_ _) | (with_reducible refine Frm.drew ?_) | (with_reducible refine Frm.drewN ?_ _) | (with_reducible refine Frm.set1 ?_ _) | (with_reducible refine Frm.setCell ?_ ?_ _) | (exact fun h => absurd h (Nat.lt_irrefl _)) | (intro hlt; simp [World.size_alloc, One] at hlt ⊢; omega))))).mono ?_
                rintro e w7 ⟨rfl, l7, hB7, hl7, hp7, hF7⟩
                have HB7 := Lib.hid hB7
                have HL7 := Lib.hid hl7
                have HP7 := Lib.hid hp7
                have HF7 := Lib.hid hF7
                clear hB7 hl7 hp7 hF7
                go_wp2_with fail
                go_roundw
                case rel =>
                  refine ⟨k + 1, l7, by omega, by go_num, ?_, ?_, ?_, ?_, ?_⟩
                  · have := HB7.out
                    rw [show (sawOf ⟨nds l, 1, false⟩ n ⟨false, 0, 0, 0, 0, 0, 0, 0, 0, 0, false⟩).1.halted = false from HH2.out] at this
                    exact this
                  · rw [HL7.out]; exact HOK2.out
                  · have := congrArg List.length HP7.out
                    simp at this
                    omega
                  · rw [HP7.out]; exact HQ.out
                  · refine (HF.out.trans' (by (repeat' (first | (with_reducible exact Frm.refl _ _) | (with_reducible assumption) | (with_reducible refine Frm.alloc ?_ _) | (with_reducible refine Frm.drew ?_) | (with_reducible refine Frm.drewN ?_ _) | (with_reducible refine Frm.set1 ?_ _) | (with_reducible refine Frm.setCell ?_ ?_ _) | (exact fun h => absurd h (Nat.lt_irrefl _)) | (intro hlt; simp [World.size_alloc, One] at hlt ⊢; omega))))).trans HF7.out (fun i hi h => ?_)
                    rcases h with h | h
                    · omega
                    · have := HQ.out i h; omega
                case measure => simp [intOf]; omega
          · have HRUN := Lib.hid (run_any b l 1 false _ HB.out hll)
            unfold ptr at HRUN
            go_wp2_with fail
            refine HRUN.out.mono ?_
            rintro e w5 ⟨v5, rfl, hr5, hF5⟩
            rw [HOK.out.run] at hr5
            obtain ⟨A5, c5, rfl, _⟩ := row_open hr5
            have HF5 := Lib.hid (HF.out.trans' hF5)
            clear hr5 hF5
            simp only [List.length_nil]
            go_wp2_with fail
            refine (livesB_any _).mono ?_
            rintro e w6 ⟨rfl, hF6⟩
            have HF6 := Lib.hid (HF5.out.trans' hF6)
            clear hF6
            go_wp2_with fail
            go_ret
            exact ⟨rfl, HF6.out.below (Nat.le_refl _) (fun _ _ h => h)⟩
end Go.Proofs.Ytjjmkpjclhielaa
