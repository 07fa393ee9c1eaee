/-
  The walk of BeatBack.
-/
import Derived.Test.YtmkkeglcjbogcaaLost
import Derived.Test.YtmkkeglcjbogcaaInTime
import Derived.Test.YtmkkeglcjbogcaaApart
namespace Go.Proofs.Ytmkkeglcjbogcaa
open Go.RowKit
set_option linter.unusedVariables false

/-- s ticks behind its last beat: there, or lost. -/
def threeAt (n c s : Int) : Wd := if s < n then ⟨3, n, c, true, false, s⟩ else ⟨3, n, c, true, true, n⟩
theorem threeAt_tick (n c s : Int) (h1 : 1 ≤ n) : (threeAt n c s).tick.1 = threeAt n c (s + 1) := by
  unfold threeAt
  by_cases h : s < n
  · rw [if_pos h]
    by_cases h2 : s + 1 = n
    · rw [if_neg (by omega)]
      unfold Wd.tick
      rw [if_neg (by simp), if_pos (by simp only; omega)]
      simp [h2]
    · rw [if_pos (by omega)]
      unfold Wd.tick
      rw [if_neg (by simp), if_neg (by simp only; omega)]
  · rw [if_neg h, if_neg (by omega)]
    unfold Wd.tick
    rw [if_pos (by simp)]
theorem threeAt_since (n c s : Int) (h0 : 0 ≤ s) (h1 : 1 ≤ n) (h2 : n ≤ 256) : 0 ≤ (threeAt n c s).since ∧ (threeAt n c s).since ≤ 4294967296 := by
  unfold threeAt
  split <;> simp only <;> omega
theorem three_new (p : Nat) (n : Int) (c : UInt8) (hc : c = 5 ∨ c = 127) (h1 : 1 ≤ n) : takeOf [(p, Wd.new (3, n))] 3 [c] = ([(p, threeAt n c.toNat 0)], [(3, 1, (c.toNat : Int))], true) := by
  unfold threeAt
  rw [if_pos (by omega)]
  rcases hc with rfl | rfl <;> simp [takeOf, Wd.new, Wd.take, List.findIdx?, List.findIdx?.go]
theorem three_back (p : Nat) (n : Int) (c : UInt8) (hc : c = 5 ∨ c = 127) (h1 : 1 ≤ n) {s : Int} (hs : n ≤ s) : takeOf [(p, threeAt n c.toNat s)] 3 [c] = ([(p, threeAt n c.toNat 0)], [(3, 1, (c.toNat : Int))], true) := by
  unfold threeAt
  rw [if_neg (by omega), if_pos (by omega)]
  rcases hc with rfl | rfl <;> simp [takeOf, Wd.take, List.findIdx?, List.findIdx?.go]
theorem three_again (p : Nat) (n : Int) (c : UInt8) (hc : c = 5 ∨ c = 127) (h1 : 1 ≤ n) : takeOf [(p, threeAt n c.toNat 0)] 3 [c] = ([(p, threeAt n c.toNat 0)], [], true) := by
  unfold threeAt
  rw [if_pos (by omega)]
  rcases hc with rfl | rfl <;> simp [takeOf, Wd.take, List.findIdx?, List.findIdx?.go]
theorem three_lost (p : Nat) (n c : Int) {s : Int} (hs : n ≤ s) : lostOf [(p, threeAt n c s)] = [3] := by
  unfold threeAt lostOf
  rw [if_neg (by omega)]
  simp
theorem three_kept (p : Nat) (n c : Int) (h1 : 1 ≤ n) : lostOf [(p, threeAt n c 0)] = [] := by
  unfold threeAt lostOf
  rw [if_pos (by omega)]
  simp

def BackCut (w : World) (b p : Nat) (n : Int) (bv : Value) (wx : World) : Prop :=
  ∃ (gb : Nat) (c : UInt8), (c = 5 ∨ c = 127) ∧ bv = .slice (some ⟨gb, 0, none⟩) 1 1 ∧ wx.heap[gb]? = some (.cells #[.int .u8 c.toNat] 5 (0, 0)) ∧ WAt wx b [(p, Wd.new (3, n))] ∧ Frm (fun _ => False) w wx

/-- What the rest of the walk keeps. -/
def Kept (w : World) (b p gb : Nat) (x : Wd) (c : UInt8) (wx : World) : Prop :=
  wx.heap[gb]? = some (.cells #[.int .u8 c.toNat] 5 (0, 0)) ∧ WAt wx b [(p, x)] ∧ Frm (fun _ => False) w wx
theorem Kept.step {w w1 w2 : World} {b p gb : Nat} {x y : Wd} {c : UInt8} (h : Kept w b p gb x c w1) (hp : w.heap.size ≤ p) (hW : WAt w2 b [(p, y)]) (hF : Frm (fun k => k ∈ [(p, x)].map (·.1)) w1 w2) : Kept w b p gb y c w2 := by
  refine ⟨hF.heap h.1 (fun hm => ?_), hW, h.2.2.trans hF (fun i hi hm => by simp at hm; omega)⟩
  obtain ⟨cur, hc⟩ := h.2.1.mem _ hm
  exact block_ne h.1 hc (by decide) rfl
theorem Kept.grow {w w1 w2 : World} {b p gb : Nat} {x : Wd} {c : UInt8} (h : Kept w b p gb x c w1) (hF : Frm (fun _ => False) w1 w2) : Kept w b p gb x c w2 :=
  ⟨hF.heap h.1 (fun h => h), h.2.1.frm hF (fun h => h) (fun _ _ _ _ _ h => h), h.2.2.trans' hF⟩
theorem Kept.bytes {w w1 : World} {b p gb : Nat} {x : Wd} {c : UInt8} (h : Kept w b p gb x c w1) : BytesAt w1 (.slice (some ⟨gb, 0, none⟩) 1 1) [c] := one_byte rfl (cell_at h.1) rfl

set_option maxRecDepth 100000 in
set_option maxHeartbeats 2000000 in
theorem back_any (ticks : Int) (state later : Bool) (w : World) (h0 : 0 ≤ ticks) (h1 : ticks ≤ 255) :
    Calls Try.prog 9 #[.int .u8 ticks, .bool state, .bool later] w (LawPost w) := by
  go_enter Try.func9, Try.ntmps9
  go_wp2_with fail
  refine (new_any _ [(3, 1 + ticks)] _ (one_watch 3 (1 + ticks) (by simp)) (by simp) (by simp; omega)).mono ?_
  rintro e w1 ⟨hF1, (⟨hc, _⟩ | ⟨hc, b, l, rfl, hW, hl, hb, hnew⟩)⟩
  · exact absurd (chk_one 3 _ (by omega) (by omega) (by omega) (by omega)) hc
  obtain ⟨p, rfl⟩ : ∃ p, l = [(p, Wd.new (3, 1 + ticks))] := by
    match l, hl with
    | [(p, x)], h => exact ⟨p, by simpa using h⟩
  have hp := hnew (p, Wd.new (3, 1 + ticks)) (by simp)
  simp at hp hb
  have hpw : w.heap.size ≤ p := by omega
  obtain ⟨n, hn⟩ : ∃ n, n = 1 + ticks := ⟨_, rfl⟩
  rw [← hn] at hW ⊢
  have HF1 : Hid (Frm (fun _ => False) w w1) := Frm.trans' (by (repeat' (first | (with_reducible exact Frm.refl _ _) | (with_reducible assumption) | (with_reducible refine Frm.alloc ?_ _) | (with_reducible refine Frm.drew ?_) | (with_reducible refine Frm.drewN ?_ _) | (with_reducible refine Frm.set1 ?_ _) | (with_reducible refine Frm.setCell ?_ ?_ _) | (intro hlt; simp [World.size_alloc, One] at hlt ⊢; omega)))) hF1
  have HW1 := Lib.hid hW
  clear hF1 hW hl hnew hc
  unfold ptr
  go_upto_if 34 with fail
  go_cut [10] (fun bv wx => BackCut w b p n bv wx)
  case first =>
    cases state with
    | false =>
      go_wp2_with fail
      go_meet
      exact ⟨w1.heap.size, 5, .inl rfl, rfl, heap_new _ _, HW1.out.frm (S := fun _ => False) (by (repeat' (first | (with_reducible exact Frm.refl _ _) | (with_reducible assumption) | (with_reducible refine Frm.alloc ?_ _) | (with_reducible refine Frm.drew ?_) | (with_reducible refine Frm.drewN ?_ _) | (with_reducible refine Frm.set1 ?_ _) | (with_reducible refine Frm.setCell ?_ ?_ _) | (intro hlt; simp [World.size_alloc, One] at hlt ⊢; omega)))) (fun h => h) (fun _ _ _ _ _ h => h), HF1.out.trans' (by (repeat' (first | (with_reducible exact Frm.refl _ _) | (with_reducible assumption) | (with_reducible refine Frm.alloc ?_ _) | (with_reducible refine Frm.drew ?_) | (with_reducible refine Frm.drewN ?_ _) | (with_reducible refine Frm.set1 ?_ _) | (with_reducible refine Frm.setCell ?_ ?_ _) | (intro hlt; simp [World.size_alloc, One] at hlt ⊢; omega))))⟩
    | true =>
      go_wp2_with fail
      go_meet
      exact ⟨w1.heap.size + 1, 127, .inr rfl, rfl, heap_new_at (by simp), HW1.out.frm (S := fun _ => False) (by (repeat' (first | (with_reducible exact Frm.refl _ _) | (with_reducible assumption) | (with_reducible refine Frm.alloc ?_ _) | (with_reducible refine Frm.drew ?_) | (with_reducible refine Frm.drewN ?_ _) | (with_reducible refine Frm.set1 ?_ _) | (with_reducible refine Frm.setCell ?_ ?_ _) | (intro hlt; simp [World.size_alloc, One] at hlt ⊢; omega)))) (fun h => h) (fun _ _ _ _ _ h => h), HF1.out.trans' (by (repeat' (first | (with_reducible exact Frm.refl _ _) | (with_reducible assumption) | (with_reducible refine Frm.alloc ?_ _) | (with_reducible refine Frm.drew ?_) | (with_reducible refine Frm.drewN ?_ _) | (with_reducible refine Frm.set1 ?_ _) | (with_reducible refine Frm.setCell ?_ ?_ _) | (intro hlt; simp [World.size_alloc, One] at hlt ⊢; omega))))⟩
  case rest =>
    obtain ⟨gb, c, hc, rfl, hgb, hWc, hFc⟩ := hcut
    have HC := Lib.hid hc
    have HK : Hid (Kept w b p gb (Wd.new (3, n)) c wc) := ⟨hgb, hWc, hFc⟩
    clear hc hgb hWc hFc HF1 HW1
    have hn1 : 1 ≤ n := by omega
    have hn2 : n ≤ 256 := by omega
    go_wp2_with fail
    refine (take_any b _ 3 _ [c] _ HK.out.2.1 HK.out.bytes).mono ?_
    rintro e w2 ⟨v2, rfl, _, hW2, hF2⟩
    rw [three_new p n c HC.out hn1] at hW2 ⊢
    have HK2 := Lib.hid (HK.out.step hpw hW2 hF2)
    clear hW2 hF2 HK
    go_wp2_with fail
    go_loopw [11] (fun j wq => ∃ s : Nat, j = .int .u64 (s : Int) ∧ (s : Int) ≤ n ∧ Kept w b p gb (threeAt n c.toNat s) c wq) (fun j _ => (300 - (intOf j)).toNat)
    case atStart => exact ⟨0, rfl, by omega, HK2.out⟩
    case round =>
      obtain ⟨s, rfl, hs, hK⟩ := hrel
      have HK := Lib.hid hK
      clear hK
      by_cases hgo : (s : Int) < n
      · go_wp2_with fail
        refine (tick_any b [(p, threeAt n c.toNat s)] _ HK.out.2.1 (by simp) (by simpa using threeAt_since n c.toNat s (by omega) (by omega) (by omega))).mono ?_
        rintro e w3 ⟨v3, rfl, hr3, hW4, hF4⟩
        rw [(one_tick _ _).1, threeAt_tick n c.toNat s hn1] at hW4
        have HK3 := Lib.hid (HK.out.step hpw hW4 hF4)
        clear hr3 hW4 hF4
        go_wp2
        go_roundw
        case rel => exact ⟨s + 1, by go_num, by omega, HK3.out⟩
        case measure => simp [intOf]; omega
      · obtain ⟨sn, hsn⟩ : ∃ sn : Int, sn = s := ⟨_, rfl⟩
        have hsl : n ≤ sn := by omega
        rw [← hsn] at HK
        go_wp2_with fail
        refine (lost_any b [(p, threeAt n c.toNat sn)] _ HK.out.2.1 (by simp)).mono ?_
        rintro e w3 ⟨v3, rfl, hr3, hF3⟩
        rw [three_lost p n _ hsl] at hr3
        have hr3 : w3.ownsRow wr.heap.size 3 1 v3 1 [.int .i64 3] := by simpa [sorted] using hr3
        obtain ⟨A3, cap3, rfl, _, _, h3⟩ := row_open hr3
        obtain ⟨g3, rfl, _, _, _, hc3⟩ := h3 (by decide)
        have hc3 := hc3 0 (by decide)
        have hc3 : w3.cell? ⟨g3, 0, none⟩ = some (.int .i64 3) := by simpa using hc3
        have HK3 := Lib.hid (HK.out.grow hF3)
        clear hr3 hF3 HK h3
        go_upto_if 57 with fail
        go_cut [] (fun wx => Kept w b p gb (threeAt n c.toNat n) c wx)
        case first =>
          cases later with
          | false =>
            go_wp2_with fail
            go_meet
            have := HK3.out
            unfold threeAt at this ⊢
            rw [if_neg (by omega)] at this
            rw [if_neg (by omega)]
            exact this
          | true =>
            go_wp2_with fail
            refine (tick_any b [(p, threeAt n c.toNat sn)] _ HK3.out.2.1 (by simp) (by simpa using threeAt_since n c.toNat sn (by omega) (by omega) (by omega))).mono ?_
            rintro e w4 ⟨v4, rfl, hr4, hW4, hF4⟩
            rw [(one_tick _ _).1, threeAt_tick n c.toNat sn hn1] at hW4
            have HK4 := Lib.hid (HK3.out.step hpw hW4 hF4)
            clear hr4 hW4 hF4
            go_wp2_with fail
            go_meet
            have := HK4.out
            unfold threeAt at this ⊢
            rw [if_neg (by omega)] at this
            rw [if_neg (by omega)]
            exact this
        case rest =>
          have HK := Lib.hid hcut
          clear hcut HK3 hc3
          go_wp2_with fail
          refine (take_any b _ 3 _ [c] _ HK.out.2.1 HK.out.bytes).mono ?_
          rintro e w4 ⟨v4, rfl, hr4, hW4, hF4⟩
          rw [three_back p n c HC.out hn1 (Int.le_refl n)] at hW4 hr4 ⊢
          have HK4 := Lib.hid (HK.out.step hpw hW4 hF4)
          have HR4 : Hid (NewsAt w4 v4 [(3, 1, (c.toNat : Int))]) := ⟨_, hr4⟩
          clear hW4 hr4 hF4
          go_wp2_with fail
          refine (take_any b _ 3 _ [c] _ HK4.out.2.1 HK4.out.bytes).mono ?_
          rintro e w5 ⟨v5, rfl, hr5, hW5, hF5⟩
          rw [three_again p n c HC.out hn1] at hW5 hr5 ⊢
          obtain ⟨A5, cap5, rfl, _⟩ := row_open hr5
          have HK5 := Lib.hid (HK4.out.step hpw hW5 hF5)
          have HR5 : Hid (NewsAt w5 v4 [(3, 1, (c.toNat : Int))]) := HR4.out.frm hF5 (fun k hk cur hc => by
            obtain ⟨cur2, hc2⟩ := HK4.out.2.1.mem _ hk
            exact block_ne hc hc2 (by decide) rfl)
          have cb : w5.cell? ⟨gb, 0, none⟩ = some (.int .u8 c.toNat) := cell_at HK5.out.1
          have gl := lt_of_block HK5.out.1
          clear hW5 hr5 hF5 HR4
          have hc1 : ((c.toNat : Int)) ≤ 255 := by have := c.toNat_lt; omega
          have hc0 : 0 ≤ ((c.toNat : Int)) := by omega
          go_wp2_with fail
          refine (same_any _ _ [(3, 1, (c.toNat : Int))] [(3, 1, (c.toNat : Int))] _ (HR5.out.grow (by (repeat' (first | (with_reducible exact Frm.refl _ _) | (with_reducible assumption) | (with_reducible refine Frm.alloc ?_ _) | (with_reducible refine Frm.drew ?_) | (with_reducible refine Frm.drewN ?_ _) | (with_reducible refine Frm.set1 ?_ _) | (with_reducible refine Frm.setCell ?_ ?_ _) | (intro hlt; simp [World.size_alloc, One] at hlt ⊢; omega))))) (one_news 3 1 c.toNat rfl)).mono ?_
          rintro e w6 ⟨rfl, dn, rfl⟩
          rw [show decide ([((3 : Int), (1 : Int), (c.toNat : Int))] = [(3, 1, (c.toNat : Int))]) = true by simp]
          have HK6 : Hid (Kept w b p gb (threeAt n c.toNat 0) c ((w5.alloc (.cells #[.int .i64 3, .int .i64 1, .int .i64 c.toNat] 48)).drewN dn)) := HK5.out.grow (by (repeat' (first | (with_reducible exact Frm.refl _ _) | (with_reducible assumption) | (with_reducible refine Frm.alloc ?_ _) | (with_reducible refine Frm.drew ?_) | (with_reducible refine Frm.drewN ?_ _) | (with_reducible refine Frm.set1 ?_ _) | (with_reducible refine Frm.setCell ?_ ?_ _) | (intro hlt; simp [World.size_alloc, One] at hlt ⊢; omega))))
          clear HK5 HR5
          go_wp2_with fail
          refine (lost_any b [(p, threeAt n c.toNat 0)] _ HK6.out.2.1 (by simp)).mono ?_
          rintro e w7 ⟨v7, rfl, hr7, hF7⟩
          rw [three_kept p n _ hn1] at hr7
          obtain ⟨A7, cap7, rfl, _⟩ := row_open hr7
          have HF7 := Lib.hid (HK6.out.2.2.trans' hF7)
          clear hr7 hF7 HK6
          go_wp2_with fail
          refine (lives_any _).mono ?_
          rintro e w8 ⟨rfl, hF8⟩
          have HF8 := Lib.hid (HF7.out.trans' hF8)
          clear hF8
          go_wp2_with fail
          go_ret
          exact ⟨rfl, HF8.out.below (Nat.le_refl _) (fun _ _ h => h)⟩

end Go.Proofs.Ytmkkeglcjbogcaa
