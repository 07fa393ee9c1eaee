/-
  The walk of BootFair.
-/
import Derived.Test.YtjjmkpjclhielaaBootF
namespace Go.Proofs.Ytjjmkpjclhielaa
open Go.RowKit
set_option linter.unusedVariables false

/-- The block in which what is seen lies. -/
def SeenAt (w : World) (g : Nat) (s : Sn) : Prop := w.heap[g]? = some (.cells #[.bool s.there, .int .u32 s.dev, .int .u32 s.i0, .int .u32 s.i1, .int .u32 s.i2, .int .u32 s.i3, .int .u32 s.day, .int .u32 s.time, .int .i64 s.state, .int .u32 s.code, .bool s.beat] 40 (0, 0))
theorem SeenAt.frm {S : Nat → Prop} {w w' : World} {g : Nat} {s : Sn} (h : SeenAt w g s) (hF : Frm S w w') (hS : ¬ S g) : SeenAt w' g s := hF.heap h hS
/-- Nor a boot nor a node lies there. -/
theorem SeenAt.ne {w : World} {g b : Nat} {s : Sn} {l : List (Nat × Nd)} {t : Int} {hh : Bool} (h : SeenAt w g s) (hB : BAt w b l t hh) : ¬ (g = b ∨ g ∈ l.map (·.1)) := by
  rintro (e | e)
  · obtain ⟨A, cap, hO, _⟩ := hB.open_
    rw [e] at h
    exact block_ne h hO (by decide) rfl
  · obtain ⟨q, hq, e⟩ := List.mem_map.1 e
    obtain ⟨j, hj, rfl⟩ := List.getElem_of_mem hq
    obtain ⟨A, c, _, hx⟩ := hB.el j hj
    rw [← e] at h
    exact block_ne h hx (by decide) rfl

/-- What holds at the head of a round. -/
def FairR (w : World) (b g : Nat) (s : Sn) (t : Int) (ns : List Int) (wq : World) : Prop :=
  ∃ (l : List (Nat × Nd)) (hh : Bool) (m : Int), BAt wq b l t hh ∧ FairAt (nds l) t m ∧ (nds l).map (·.p.node) = ns ∧ (∀ q ∈ l.map (·.1), w.heap.size ≤ q) ∧ Frm (fun _ => False) w wq ∧ SeenAt wq g s

set_option maxRecDepth 100000 in
set_option maxHeartbeats 2000000 in
theorem lfair_any (v : Value) (xs : List Pla) (t0 : Int) (s : Sn) (w : World) (h : PlansAt w v xs) (hl : xs.length * 72 ≤ 140737488351232) (hr : ∀ x ∈ xs, ∀ it ∈ x.1.its, Rng it)
    (hg : ∀ x ∈ xs, x.1.its.length * 32 ≤ 140737488351232 ∧ ∀ it ∈ x.1.its, it.2.2.length ≤ 140737488351232) (h0 : 0 ≤ t0) (h1 : t0 ≤ 255) :
    Calls Try.prog 6 #[v, .int .u8 t0, valS s] w (LawPost w) := by
  have H := Lib.hid (fun W hF => ownP_any v xs W (h.frm (w' := W) hF) hl hg)
  obtain ⟨A, cap, rfl, hxc, hxc2, hA⟩ := h.1
  have HA := Lib.hid hA
  have HR := Lib.hid hr
  have hxl : xs.length ≤ 1954687338213 := by omega
  clear h hr hg hA hxc hxc2
  unfold valS
  go_enter Try.func6, Try.ntmps6
  go_wp2_with (go_at_call 9; refine (H.out _ (by (repeat' (first | (with_reducible exact Frm.refl _ _) | (with_reducible assumption) | (with_reducible refine Frm.alloc ?_ _) | (with_reducible refine Frm.drew ?_) | (with_reducible refine Frm.drewN ?_ _) | (with_reducible refine Frm.set1 ?_ _) | (with_reducible refine Frm.setCell ?_ ?_ _) | (exact fun h => absurd h (Nat.lt_irrefl _)) | (intro hlt; simp [World.size_alloc, One] at hlt ⊢; omega))))).mono ?_; rintro e w1 ⟨hF1, v1, zs, rfl, hz1, hz2⟩; obtain ⟨A1, cap1, rfl, _⟩ := row_open hz2.1)
  have hs1 : SeenAt w1 w.heap.size s := hF1.heap (heap_new _ _) (fun h => h)
  have hF1' : Frm (fun _ => False) w w1 := Frm.trans' (by (repeat' (first | (with_reducible exact Frm.refl _ _) | (with_reducible assumption) | (with_reducible refine Frm.alloc ?_ _) | (with_reducible refine Frm.drew ?_) | (with_reducible refine Frm.drewN ?_ _) | (with_reducible refine Frm.set1 ?_ _) | (with_reducible refine Frm.setCell ?_ ?_ _) | (exact fun h => absurd h (Nat.lt_irrefl _)) | (intro hlt; simp [World.size_alloc, One] at hlt ⊢; omega)))) hF1
  have hrg : ∀ x ∈ zs, ∀ it ∈ x.1.its, Rng it := fun x hx => by
    have : x.1 ∈ xs.map (·.1) := by rw [← hz1]; exact List.mem_map_of_mem hx
    obtain ⟨y, hy, e⟩ := List.mem_map.1 this
    rw [← e]
    exact HR.out y hy
  have HN := Lib.hid (bnew_any _ zs (2 + t0) w1 hz2.at_ hrg)
  rw [hz1] at HN
  have HS1 := Lib.hid hs1
  have HF1 := Lib.hid hF1'
  clear hz1 hz2 hF1 hrg hs1 hF1'
  refine HN.out.mono ?_
  rintro e w2 ⟨hF2, hpost⟩
  have HF2 := Lib.hid (HF1.out.trans' hF2)
  have HS2 := Lib.hid (HS1.out.frm hF2 (fun h => h))
  clear hF2
  rcases hpost with ⟨hne, rfl⟩ | ⟨hn0, b, l, rfl, hB, hll, hb, hq⟩
  · have hb : (newOf (xs.map (·.1)) (2 + t0) != 0) = true := by simpa using hne
    generalize newOf (xs.map (·.1)) (2 + t0) = er at *
    clear hne
    go_wp2_with fail
    refine (livesB_any _).mono ?_
    rintro e w3 ⟨rfl, hF3⟩
    have HF3 := Lib.hid (HF2.out.trans' hF3)
    clear hF3
    go_wp2_with fail
    go_ret
    exact ⟨rfl, HF3.out.below (Nat.le_refl _) (fun _ _ h => h)⟩
  · obtain ⟨hnd, hl127, ht1, ht2, _⟩ := newOf_nodup hn0
    have hok : FairAt (nds l) (2 + t0) 0 := by rw [hll]; exact FairAt.new hnd (by omega)
    have hns : (nds l).map (·.p.node) = xs.map (·.1.node) := by rw [hll]; simp [Function.comp_def, Nd.new]
    have hqw : ∀ q ∈ l.map (·.1), w.heap.size ≤ q := fun q hq' => by
      obtain ⟨x, hx, rfl⟩ := List.mem_map.1 hq'
      exact Nat.le_trans HF1.out.size (hq x hx)
    have hbw : w.heap.size ≤ b := Nat.le_trans HF1.out.size hb
    have hl127' : xs.length ≤ 127 := by simpa using hl127
    have hne2 := HS2.out.ne hB
    have ht3 : 2 + t0 ≤ 1000 := ht2
    obtain ⟨t, htt⟩ : ∃ t, 2 + t0 = t := ⟨_, rfl⟩
    have hlt2 := lt_of_block HS2.out
    have hfz2 := frees HS2.out
    have q0 : w2.cell? ⟨w.heap.size, 0, none⟩ = some (.bool s.there) := cell_at HS2.out
    have hss : SeenAt (w2.setCell ⟨w.heap.size, 0, none⟩ (.bool false)) w.heap.size ⟨false, s.dev, s.i0, s.i1, s.i2, s.i3, s.day, s.time, s.state, s.code, s.beat⟩ := heap_set_at HS2.out rfl
    have hBs : BAt (w2.setCell ⟨w.heap.size, 0, none⟩ (.bool false)) b l (2 + t0) false := hB.frm (S := One w.heap.size) ((Frm.refl _ _).set1 _) (fun (e : b = w.heap.size) => hne2 (.inl e.symm)) (fun q hq (e : q.1 = w.heap.size) => hne2 (.inr (by rw [← e]; exact List.mem_map_of_mem hq))) (fun k cur (e : k = w.heap.size) hc => by
      rw [e] at hc
      exact block_ne hc HS2.out (by decide) rfl)
    have hFs : Frm (fun _ => False) w (w2.setCell ⟨w.heap.size, 0, none⟩ (.bool false)) := HF2.out.setCell (p := ⟨w.heap.size, 0, none⟩) (fun h => absurd h (Nat.lt_irrefl _)) _
    have HST : Hid (FairR w b w.heap.size ⟨false, s.dev, s.i0, s.i1, s.i2, s.i3, s.day, s.time, s.state, s.code, s.beat⟩ t (xs.map (·.1.node)) (w2.setCell ⟨w.heap.size, 0, none⟩ (.bool false))) := ⟨l, false, 0, by rw [← htt]; exact hBs, by rw [← htt]; exact hok, hns, hqw, hFs, hss⟩
    have htb : 1 ≤ t ∧ t ≤ 257 := by omega
    have HTT := Lib.hid htt
    have HTB := Lib.hid htb
    clear hB hll hb hq hn0 hnd hl127 hok hqw hns HN HS1 HS2 HF1 HF2 hne2 hss hBs hFs htt htb ht1 ht2 ht3
    unfold ptr
    go_wp2_with fail
    go_loopw [9] (fun i wq => ∃ (k : Nat), k ≤ 300 ∧ i = .int .i64 k ∧ FairR w b w.heap.size ⟨false, s.dev, s.i0, s.i1, s.i2, s.i3, s.day, s.time, s.state, s.code, s.beat⟩ t (xs.map (·.1.node)) wq) (fun i _ => 300 - (intOf i).toNat)
    case atStart => exact ⟨0, by omega, rfl, HST.out⟩
    case round =>
      clear HST
      obtain ⟨k, hk, rfl, l, hh, m, hB, hok, hns, hq, hF, hS⟩ := hrel
      have HB := Lib.hid hB
      have HOK := Lib.hid hok
      have HQ := Lib.hid hq
      have HF := Lib.hid hF
      have HS := Lib.hid hS
      have HNS := Lib.hid hns
      clear hB hok hq hF hS hns
      by_cases hlt : k < 300
      · cases hn : nextOf ⟨nds l, t, hh⟩ with
        | mk n bo =>
          have HNX := Lib.hid (next_any b l t hh _ HB.out)
          rw [hn] at HNX
          unfold ptr at HNX
          cases bo with
          | false =>
            clear hn
            go_wp2_with fail
            refine HNX.out.mono ?_
            rintro e w5 ⟨rfl, m6, rfl⟩
            simp only
            go_wp2_with fail
            refine (livesB_any _).mono ?_
            rintro e w6 ⟨rfl, hF6⟩
            have HF6 := Lib.hid (HF.out.trans' (Frm.trans' (b := _) (by (repeat' (first | (with_reducible exact Frm.refl _ _) | (with_reducible assumption) | (with_reducible refine Frm.alloc ?_ _) | (with_reducible refine Frm.drew ?_) | (with_reducible refine Frm.drewN ?_ _) | (with_reducible refine Frm.set1 ?_ _) | (with_reducible refine Frm.setCell ?_ ?_ _) | (exact fun h => absurd h (Nat.lt_irrefl _)) | (intro hlt; simp [World.size_alloc, One] at hlt ⊢; omega)))) hF6))
            clear hF6
            go_wp2_with fail
            go_ret
            exact ⟨rfl, HF6.out.below (Nat.le_refl _) (fun _ _ h => h)⟩
          | true =>
            obtain ⟨rfl, j, hpj, hj0, m', hok2⟩ := HOK.out.saw hn ⟨false, s.dev, s.i0, s.i1, s.i2, s.i3, s.day, s.time, s.state, s.code, s.beat⟩ rfl
            have HSAW := Lib.hid (fun W hF => saw_open b l t n ⟨false, s.dev, s.i0, s.i1, s.i2, s.i3, s.day, s.time, s.state, s.code, s.beat⟩ W (HB.out.grow (w' := W) hF) j hpj (fun hj => hj0 _ (nds_get hj)) (fun q hq => by
              have h1 := HOK.out.2.2.2 q.2 (by simp [nds]; exact ⟨q.1, hq⟩)
              have h2 := HOK.out.2.1
              have h3 := HOK.out.2.2.1
              have h4 := HTB.out
              rcases h1 with h | h <;> omega))
            have HOK2 := Lib.hid hok2
            have HND2 := Lib.hid (saw_nodes (b := ⟨nds l, t, false⟩) (n := n) (s := ⟨false, s.dev, s.i0, s.i1, s.i2, s.i3, s.day, s.time, s.state, s.code, s.beat⟩))
            generalize hrr : sawOf ⟨nds l, t, false⟩ n ⟨false, s.dev, s.i0, s.i1, s.i2, s.i3, s.day, s.time, s.state, s.code, s.beat⟩ = r at *
            obtain ⟨⟨rl, rt, rh⟩, r1, r2, r3⟩ := r
            clear hn hpj hj0 hok2 hrr
            unfold ptr valS at HSAW
            simp only at HSAW HOK2 HND2
            have y0 : wr.cell? ⟨w.heap.size, 0, none⟩ = some (.bool false) := cell_at HS.out
            have y1 : wr.cell? ⟨w.heap.size, 1, none⟩ = some (.int .u32 s.dev) := cell_at HS.out
            have y2 : wr.cell? ⟨w.heap.size, 2, none⟩ = some (.int .u32 s.i0) := cell_at HS.out
            have y3 : wr.cell? ⟨w.heap.size, 3, none⟩ = some (.int .u32 s.i1) := cell_at HS.out
            have y4 : wr.cell? ⟨w.heap.size, 4, none⟩ = some (.int .u32 s.i2) := cell_at HS.out
            have y5 : wr.cell? ⟨w.heap.size, 5, none⟩ = some (.int .u32 s.i3) := cell_at HS.out
            have y6 : wr.cell? ⟨w.heap.size, 6, none⟩ = some (.int .u32 s.day) := cell_at HS.out
            have y7 : wr.cell? ⟨w.heap.size, 7, none⟩ = some (.int .u32 s.time) := cell_at HS.out
            have y8 : wr.cell? ⟨w.heap.size, 8, none⟩ = some (.int .i64 s.state) := cell_at HS.out
            have y9 : wr.cell? ⟨w.heap.size, 9, none⟩ = some (.int .u32 s.code) := cell_at HS.out
            have y10 : wr.cell? ⟨w.heap.size, 10, none⟩ = some (.bool s.beat) := cell_at HS.out
            go_wp2_with fail
            refine HNX.out.mono ?_
            rintro e w5 ⟨rfl, m6, rfl⟩
            simp only
            go_wp2_with fail
            refine (HSAW.out _ (by (repeat' (first | (with_reducible exact Frm.refl _ _) | (with_reducible assumption) | (with_reducible refine Frm.alloc ?_ _) | (with_reducible refine Frm.drew ?_) | (with_reducible refine Frm.drewN ?_ _) | (with_reducible refine Frm.set1 ?_ _) | (with_reducible refine Frm.setCell ?_ ?_ _) | (exact fun h => absurd h (Nat.lt_irrefl _)) | (intro hlt; simp [World.size_alloc, One] at hlt ⊢; omega))))).mono ?_
            rintro e w7 ⟨rfl, l7, hB7, hl7, hp7, hF7⟩
            have hF7w : Frm (fun _ => False) w w7 := (HF.out.trans' (by (repeat' (first | (with_reducible exact Frm.refl _ _) | (with_reducible assumption) | (with_reducible refine Frm.alloc ?_ _) | (with_reducible refine Frm.drew ?_) | (with_reducible refine Frm.drewN ?_ _) | (with_reducible refine Frm.set1 ?_ _) | (with_reducible refine Frm.setCell ?_ ?_ _) | (exact fun h => absurd h (Nat.lt_irrefl _)) | (intro hlt; simp [World.size_alloc, One] at hlt ⊢; omega))))).trans hF7 (fun i hi h => by
              rcases h with h | h
              · omega
              · have := HQ.out i h; omega)
            have hS7 : SeenAt w7 w.heap.size ⟨false, s.dev, s.i0, s.i1, s.i2, s.i3, s.day, s.time, s.state, s.code, s.beat⟩ := (HS.out.frm (S := fun _ => False) (by (repeat' (first | (with_reducible exact Frm.refl _ _) | (with_reducible assumption) | (with_reducible refine Frm.alloc ?_ _) | (with_reducible refine Frm.drew ?_) | (with_reducible refine Frm.drewN ?_ _) | (with_reducible refine Frm.set1 ?_ _) | (with_reducible refine Frm.setCell ?_ ?_ _) | (exact fun h => absurd h (Nat.lt_irrefl _)) | (intro hlt; simp [World.size_alloc, One] at hlt ⊢; omega)))) (fun h => h)).frm hF7 (HS.out.ne HB.out)
            have hok7 : FairAt (nds l7) t m' := by rw [hl7]; exact HOK2.out
            have hns7 : (nds l7).map (·.p.node) = xs.map (·.1.node) := by rw [hl7, HND2.out]; exact HNS.out
            have hq7 : ∀ q ∈ l7.map (·.1), w.heap.size ≤ q := by rw [hp7]; exact HQ.out
            have HB7 := Lib.hid hB7
            have HF7 := Lib.hid hF7w
            have HS7 := Lib.hid hS7
            have HOK7 := Lib.hid hok7
            have HNS7 := Lib.hid hns7
            have HQ7 := Lib.hid hq7
            have hm0 := hok7.2.1
            have hm1 : m' ≤ 300 := by have := hok7.2.2.1; have := HTB.out; omega
            clear hB7 hl7 hp7 hF7 hF7w hS7 hok7 hns7 hq7 y0 y1 y2 y3 y4 y5 y6 y7 y8 y9 y10 HB HOK HNS HS HF HQ HSAW HNX HOK2 HND2
            simp only
            go_wp2_with fail
            go_loopw [12, 13, 14] (fun av bv iv wq => ∃ (i : Nat) (a c : Int), i ≤ xs.length ∧ iv = .int .i64 i ∧ av = .int .i64 a ∧ bv = .int .i64 c ∧ m' ≤ a ∧ a ≤ 1000 ∧ 0 ≤ c ∧ c ≤ m' + 1 ∧ Frm (fun _ => False) w7 wq) (fun _ _ iv _ => xs.length - (intOf iv).toNat)
            case atStart => exact ⟨0, 1000, 0, Nat.zero_le _, rfl, rfl, rfl, by omega, by omega, by omega, by omega, Frm.refl _ _⟩
            case round =>
              obtain ⟨i, a, c, hi, rfl, rfl, rfl, ha0, ha1, hc0, hc1, hFi⟩ := hrel
              by_cases hil : i < xs.length
              · obtain ⟨g, off, rfl, _, hcell⟩ := HA.out (by omega)
                have x0 := (HF7.out.trans' hFi).cell (hcell i hil 0 (by decide)) (fun h => h)
                have hmem : xs[i].1.node ∈ (nds l7).map (·.p.node) := by rw [HNS7.out]; exact List.mem_map_of_mem (f := fun x : Pla => x.1.node) (List.getElem_mem hil)
                obtain ⟨st, lk, hst, hlk0, hlk1⟩ := HOK7.out.status hmem
                have x0 : wr.cell? ⟨g, off + i * 11, none⟩ = some (.int .i64 xs[i].1.node) := x0
                have HSTA := Lib.hid (status_any b l7 t rh xs[i].1.node wr (HB7.out.grow hFi))
                rw [hst] at HSTA
                have HFi := Lib.hid hFi
                clear hcell hmem hst hFi
                generalize xs[i].1.node = nd at *
                unfold ptr at HSTA
                go_wp2_with fail
                refine HSTA.out.mono ?_
                rintro e w8 ⟨rfl, hF8⟩
                have HF8 := Lib.hid (HFi.out.trans' hF8)
                clear hF8 x0
                simp only
                by_cases ca : lk < a
                · by_cases cb : c < lk
                  · go_wp2_with fail
                    go_roundw
                    case rel => exact ⟨i + 1, lk, lk, by omega, by go_num, rfl, rfl, by omega, by omega, by omega, by omega, HF8.out⟩
                    case measure => simp [intOf]; omega
                  · have cb' : lk ≤ c := by omega
                    clear cb
                    go_wp2_with fail
                    go_roundw
                    case rel => exact ⟨i + 1, lk, c, by omega, by go_num, rfl, rfl, by omega, by omega, by omega, by omega, HF8.out⟩
                    case measure => simp [intOf]; omega
                · have ca' : a ≤ lk := by omega
                  clear ca
                  by_cases cb : c < lk
                  · go_wp2_with fail
                    go_roundw
                    case rel => exact ⟨i + 1, a, lk, by omega, by go_num, rfl, rfl, by omega, by omega, by omega, by omega, HF8.out⟩
                    case measure => simp [intOf]; omega
                  · have cb' : lk ≤ c := by omega
                    clear cb
                    go_wp2_with fail
                    go_roundw
                    case rel => exact ⟨i + 1, a, c, by omega, by go_num, rfl, rfl, by omega, by omega, by omega, by omega, HF8.out⟩
                    case measure => simp [intOf]; omega
              · have hca : c - a ≤ 1 := by omega
                have HFi := Lib.hid hFi
                clear hFi
                go_wp2_with fail
                go_roundw
                case rel => exact ⟨k + 1, by omega, by go_num, l7, rh, m', HB7.out.grow HFi.out, HOK7.out, HNS7.out, HQ7.out, HF7.out.trans' HFi.out, HS7.out.frm HFi.out (fun h => h)⟩
                case measure => simp [intOf]; omega
      · go_wp2_with fail
        refine (livesB_any _).mono ?_
        rintro e w6 ⟨rfl, hF6⟩
        have HF6 := Lib.hid (HF.out.trans' hF6)
        clear hF6
        go_wp2_with fail
        go_ret
        exact ⟨rfl, HF6.out.below (Nat.le_refl _) (fun _ _ h => h)⟩
end Go.Proofs.Ytjjmkpjclhielaa
