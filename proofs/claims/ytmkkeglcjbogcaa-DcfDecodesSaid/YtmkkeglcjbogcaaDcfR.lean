/-
  Rows of items; Decode's walk.
-/
import Derived.Test.YtmkkeglcjbogcaaDcfS
import Derived.Test.YtmkkeglcjbogcaaDcfD
import Derived.Deep.RegionLaw
import Derived.Deep.DeepCutAuto
namespace Go.Proofs.Ytmkkeglcjbogcaa
open Go.RowKit
set_option linter.unusedVariables false

theorem el_Item : El Try.prog 23 121 3 32 := El.of Try.underlying23 (z := .agg #[.int .u16 0, .int .u8 0, .slice none 0 0]) (by kernel_rfl) rfl (by decide)

/-- Items of one's own. -/
def ItemsRow (B : Nat) (w : World) (v : Value) (xs : List Itm) : Prop := w.ownsRow B 121 3 v xs.length (cellsOf encIt xs) ∧ ∀ x ∈ xs, Own8 B w x.2.2.1 x.2.2.2
theorem ItemsRow.at_ {B : Nat} {w : World} {v : Value} {xs : List Itm} (h : ItemsRow B w v xs) : ItemsAt w v xs := ⟨SlAt.of_row encIt_len h.1, fun x hx => BytesAt.of_row (h.2 x hx)⟩
theorem ItemsRow.grow {B : Nat} {w w' : World} {v : Value} {xs : List Itm} (h : ItemsRow B w v xs) (hF : Frm (fun _ => False) w w') : ItemsRow B w' v xs :=
  ⟨hF.row h.1 (fun _ _ h => h), fun x hx => hF.row (h.2 x hx) (fun _ _ h => h)⟩
theorem ItemsRow.nil (B : Nat) (w : World) : ItemsRow B w (.slice none 0 0) [] := ⟨World.ownsRow_nil _ _ _ _, fun x hx => by cases hx⟩
theorem ItemsRow.base {B C : Nat} {w : World} {v : Value} {xs : List Itm} (h : ItemsRow B w v xs) (hb : C ≤ B) : ItemsRow C w v xs := ⟨row_base h.1 hb, fun x hx => row_base (h.2 x hx) hb⟩
theorem cellsOf_snoc {α : Type} {enc : α → List Value} (xs : List α) (x : α) : cellsOf enc (xs ++ [x]) = cellsOf enc xs ++ enc x := by simp [cellsOf]
/-- One item more. -/
theorem ItemsRow.push {B n : Nat} {w w' : World} {v v' : Value} {xs : List Itm} (h : ItemsRow B w v xs) (x : Itm) (hx : Own8 B w x.2.2.1 x.2.2.2) (hF : Frm (fun k => v.ownBlock = some k) w w') (hn : n = xs.length)
    (hr : w'.ownsRow B 121 3 v' (n + 1) (cellsOf encIt xs ++ encIt x)) : ItemsRow B w' v' (xs ++ [x]) := by
  subst hn
  have hk : ∀ y : Itm, Own8 B w y.2.2.1 y.2.2.2 → Own8 B w' y.2.2.1 y.2.2.2 := fun y hy => hF.row hy fun k hk hs => by
    obtain ⟨_, c1, h1⟩ := row_block hy hk
    obtain ⟨_, c2, h2⟩ := row_block h.1 hs
    exact block_ne h1 h2 (by decide) rfl
  refine ⟨by rw [cellsOf_snoc, List.length_append]; exact hr, fun y hy => ?_⟩
  rcases List.mem_append.1 hy with hy | hy
  · exact hk y (h.2 y hy)
  · obtain rfl : y = x := by simpa using hy
    exact hk y hx

/-- What was read ahead, and what is read then. -/
def catD (l0 : List It) : Except Int (List It × List UInt8) → Except Int (List It × List UInt8)
  | .error e => .error e
  | .ok (l, r) => .ok (l0 ++ l, r)
def finD : Except Int (List It × List UInt8) → List It × Int
  | .error e => ([], e)
  | .ok (l, r) => if 0 < r.length then ([], 8) else (l, 0)
theorem catD_nil (x : Except Int (List It × List UInt8)) : catD [] x = x := by cases x <;> simp [catD]
theorem catD_catD (a b : List It) (x : Except Int (List It × List UInt8)) : catD a (catD b x) = catD (a ++ b) x := by cases x <;> simp [catD]
theorem decOf_short {bs : List UInt8} (h : bs.length < 4) : decOf bs = ([], 3) := by rw [decOf, if_pos h]
theorem decOf_big {bs : List UInt8} (h : 4 ≤ bs.length) (h2 : 1024 < numOf (bs.take 4)) : decOf bs = ([], 2) := by rw [decOf, if_neg (by omega), if_pos h2]
theorem decOf_run {bs : List UInt8} (h : 4 ≤ bs.length) (n : Nat) (hn : numOf (bs.take 4) = n) (h2 : n ≤ 1024) : decOf bs = finD (decN n (bs.drop 4)) := by
  rw [decOf, if_neg (by omega), if_neg (by omega), hn, Int.toNat_natCast]
  cases decN n (bs.drop 4) <;> rfl
theorem decN_short {m : Nat} {r : List UInt8} (h : r.length < 7) : decN (m + 1) r = .error 3 := by rw [decN, if_pos h]
theorem decN_big {m : Nat} {r : List UInt8} (h : 7 ≤ r.length) (h2 : 65536 < numOf ((r.drop 3).take 4)) : decN (m + 1) r = .error 2 := by rw [decN, if_neg (by omega), if_pos h2]
theorem decN_less {m : Nat} {r : List UInt8} (h : 7 ≤ r.length) (h2 : numOf ((r.drop 3).take 4) ≤ 65536) (h3 : ((r.drop 7).length : Int) < numOf ((r.drop 3).take 4)) : decN (m + 1) r = .error 3 := by rw [decN, if_neg (by omega), if_neg (by omega), if_pos h3]
theorem decN_more {m k : Nat} {r : List UInt8} (h : 7 ≤ r.length) (hk : numOf ((r.drop 3).take 4) = k) (h2 : k ≤ 65536) (h3 : k ≤ (r.drop 7).length) :
    decN (m + 1) r = catD [(numOf (r.take 2), ((r[2]'(by omega)).toNat : Int), (r.drop 7).take k)] (decN m ((r.drop 7).drop k)) := by
  rw [decN, if_neg (by omega), if_neg (by omega), if_neg (by omega), hk, Int.toNat_natCast]
  have hg : r.getD 2 0 = r[2]'(by omega) := by rw [List.getD_eq_getElem?_getD, List.getElem?_eq_getElem (by omega)]; rfl
  rw [hg]
  cases decN m ((r.drop 7).drop k) <;> rfl

def DecPost (bs : List UInt8) (w : World) (e : Ending) (w' : World) : Prop :=
  Frm (fun _ => False) w w' ∧ ∃ v xs code, e = .returned (.tuple #[v, .int .i64 code]) ∧ (xs.map bare, code) = decOf bs ∧ ItemsRow w.heap.size w' v xs

/-- What an item is read as, where it is whole. -/
theorem item_more (v : Value) (r : List UInt8) (k : Nat) (w : World) (h : BytesAt w v r) (h7 : 7 ≤ r.length) (hl : r.length ≤ 140737488351232) (hk : numOf ((r.drop 3).take 4) = k) (h2 : k ≤ 65536) (h3 : k ≤ (r.drop 7).length) :
    Calls Try.prog 56 #[v] w fun e w' => Frm (fun _ => False) w w' ∧ ∃ Ab cb Ar nr cr, e = .returned (.tuple #[.agg #[.int .u16 (numOf (r.take 2)), .int .u8 (r[2].toNat : Int), .slice Ab k cb], .slice Ar nr cr, .int .i64 0]) ∧
      Own8 w.heap.size w' (.slice Ab k cb) ((r.drop 7).take k) ∧ BytesAt w' (.slice Ar nr cr) ((r.drop 7).drop k) ∧ (Value.slice Ar nr cr).ownBlock = v.ownBlock := by
  refine (item_long v r w h h7 hl).mono ?_
  rintro e w' ⟨hF, hp⟩
  rw [hk, if_neg (by omega), if_neg (by omega)] at hp
  simp only [Int.toNat_natCast] at hp
  obtain ⟨vb, vr, rfl, hO, hB, hob⟩ := hp
  obtain ⟨Ab, cb, rfl, _⟩ := row_open hO
  obtain ⟨Ar, cr, rfl, _⟩ := bytes_cell hB
  have hkl : ((r.drop 7).take k).length = k := by rw [List.length_take]; omega
  rw [hkl] at hO ⊢
  exact ⟨hF, _, _, _, _, _, rfl, hO, hB, hob⟩
/-- What is wrong with the first item. -/
def itemBad (r : List UInt8) : Option Int := if r.length < 7 then some 3 else if 65536 < numOf ((r.drop 3).take 4) then some 2 else if ((r.drop 7).length : Int) < numOf ((r.drop 3).take 4) then some 3 else none
theorem decN_bad {m : Nat} {r : List UInt8} {d : Int} (h : itemBad r = some d) : decN (m + 1) r = .error d ∧ (d = 2 ∨ d = 3) := by
  unfold itemBad at h
  split at h
  · cases h; exact ⟨decN_short (by assumption), .inr rfl⟩
  · split at h
    · cases h; exact ⟨decN_big (by omega) (by assumption), .inl rfl⟩
    · split at h
      · cases h; exact ⟨decN_less (by omega) (by omega) (by assumption), .inr rfl⟩
      · cases h
theorem item_ok {r : List UInt8} (h : itemBad r = none) : 7 ≤ r.length ∧ ∃ k : Nat, numOf ((r.drop 3).take 4) = k ∧ k ≤ 65536 ∧ k ≤ (r.drop 7).length := by
  unfold itemBad at h
  have hn := numOf_nn ((r.drop 3).take 4)
  split at h
  · cases h
  · split at h
    · cases h
    · split at h
      · cases h
      · exact ⟨by omega, (numOf ((r.drop 3).take 4)).toNat, by omega, by omega, by omega⟩
theorem item_less (v : Value) (r : List UInt8) (w : World) (h : BytesAt w v r) (hl : r.length ≤ 140737488351232) (d : Int) (hd : itemBad r = some d) :
    Calls Try.prog 56 #[v] w fun e w' => Frm (fun _ => False) w w' ∧ ∃ i s v, e = .returned (.tuple #[.agg #[.int .u16 i, .int .u8 s, .slice none 0 0], v, .int .i64 d]) := by
  unfold itemBad at hd
  split at hd
  · cases hd
    exact (item_short v r w h (by assumption)).mono fun e w' hp => ⟨hp.2, hp.1⟩
  · refine (item_long v r w h (by omega) hl).mono ?_
    rintro e w' ⟨hF, hp⟩
    refine ⟨hF, ?_⟩
    split at hd
    · cases hd
      rw [if_pos (by assumption)] at hp
      exact hp
    · split at hd
      · cases hd
        rw [if_neg (by assumption), if_pos (by assumption)] at hp
        exact hp
      · cases hd

def FromCut (w : World) (m g : Nat) (bs : List UInt8) (v : Value) (wx : World) : Prop := BytesAt wx v bs ∧ v.ownBlock = some g ∧ wx = w.drewN m

set_option maxRecDepth 100000 in
set_option maxHeartbeats 2000000 in
theorem decode_any (v : Value) (bs : List UInt8) (w : World) (h : BytesAt w v bs) (hl : bs.length ≤ 140737488351232) :
    Calls Try.prog 14 #[v] w (DecPost bs w) := by
  by_cases h4 : bs.length < 4
  · have HD := Lib.hid (decOf_short h4)
    obtain ⟨A, cap, rfl, h1, h2, hc⟩ := bytes_cell h
    clear hc h h1 h2
    go_enter Try.func14, Try.ntmps14
    go_wp2_with fail
    go_ret2
    exact ⟨Frm.refl _ _, _, [], 3, rfl, HD.out.symm, .nil _ _⟩
  have h4' : 4 ≤ bs.length := by omega
  have hn0 := numOf_nn (bs.take 4)
  obtain ⟨n, hn⟩ : ∃ n : Nat, numOf (bs.take 4) = n := ⟨(numOf (bs.take 4)).toNat, by omega⟩
  have HR := Lib.hid (read32_any _ bs w h (by omega))
  rw [hn] at HR
  have H := Lib.hid h
  obtain ⟨A, cap, rfl, h1, h2, hc⟩ := bytes_cell h
  obtain ⟨g, off, rfl, hc2⟩ := hc (by omega)
  unfold maxLen at h2
  have hgs : g < w.heap.size := World.block_lt_of_cell? w _ (hc2 0 (by omega))
  clear hc hc2 h h4 hn0
  by_cases hbig : 1024 < n
  · have HD := Lib.hid (decOf_big h4' (by rw [hn]; omega))
    clear hn
    go_enter Try.func14, Try.ntmps14
    go_wp2_with (go_at_call 55; refine HR.out.mono ?_; rintro e w3 ⟨rfl, m, rfl⟩)
    go_ret2
    exact ⟨(Frm.refl _ _).drewN _, _, [], 2, rfl, HD.out.symm, .nil _ _⟩
  have HD := Lib.hid (decOf_run h4' n hn (by omega))
  have hn1 : n ≤ 1024 := by omega
  clear hn hbig
  go_enter Try.func14, Try.ntmps14
  go_upto_region 6 with (go_at_call 55; refine HR.out.mono ?_; rintro e w3 ⟨rfl, m, rfl⟩)
  go_cut [0] (fun v wx => FromCut w m g (bs.drop 4) v wx)
  case first =>
    by_cases hcap : cap = 4
    · have hb4 : bs.length = 4 := by omega
      subst hcap
      have hd : bs.drop 4 = [] := List.drop_eq_nil_of_le (by omega)
      go_wp2_with fail
      go_meet
      exact ⟨by rw [hd]; exact ⟨_, 0, rfl, Nat.le_refl _, by unfold maxLen; omega, fun h => absurd h (by simp)⟩, rfl, rfl⟩
    · go_wp2_with fail
      go_meet
      exact ⟨(H.out.sub 4 h4').grow (by (repeat' (first | (with_reducible exact Frm.refl _ _) | (with_reducible assumption) | (with_reducible refine Frm.alloc ?_ _) | (with_reducible refine Frm.drew ?_) | (with_reducible refine Frm.drewN ?_ _) | (with_reducible refine Frm.set1 ?_ _) | (with_reducible refine Frm.setCell ?_ ?_ _) | (intro hlt; simp [World.size_alloc, One] at hlt ⊢; omega)))), rfl, rfl⟩
  case rest =>
    obtain ⟨hB, hob, rfl⟩ := hcut
    have HOB := Lib.hid hob
    clear hob
    have HB := Lib.hid hB
    clear hB
    have hlen4 : Hid ((bs.drop 4).length ≤ 140737488351232) := by unfold Hid; rw [List.length_drop]; omega
    go_wp2_with fail
    go_loopw [0, 5, 19] (fun rv lv i wr => ∃ (k : Nat) (xs : List Itm) (rest : List UInt8), k ≤ n ∧ i = .int .u64 k ∧ xs.length = k ∧ BytesAt wr rv rest ∧ rv.ownBlock = some g ∧ rest.length ≤ 140737488351232 ∧ ItemsRow w.heap.size wr lv xs ∧ Frm (fun _ => False) w wr ∧
      decN n (bs.drop 4) = catD (xs.map bare) (decN (n - k) rest)) (fun _ _ i _ => n - (intOf i).toNat)
    case atStart => exact ⟨0, [], _, Nat.zero_le _, rfl, rfl, HB.out, HOB.out, hlen4.out, .nil _ _, by (repeat' (first | (with_reducible exact Frm.refl _ _) | (with_reducible assumption) | (with_reducible refine Frm.alloc ?_ _) | (with_reducible refine Frm.drew ?_) | (with_reducible refine Frm.drewN ?_ _) | (with_reducible refine Frm.set1 ?_ _) | (with_reducible refine Frm.setCell ?_ ?_ _) | (intro hlt; simp [World.size_alloc, One] at hlt ⊢; omega))), (catD_nil _).symm⟩
    case round =>
      obtain ⟨k, xs, rest, hk, rfl, hxl, hBr, hob, hrl, hX, hF, hdec⟩ := hrel
      obtain ⟨Ar, cr, rfl, g1, g2, _⟩ := bytes_cell hBr
      obtain ⟨Al, cl, rfl, g3, g4, _⟩ := row_open hX.1
      have HBR := Lib.hid hBr
      have HOB := Lib.hid hob
      have HX := Lib.hid hX
      have HF := Lib.hid hF
      have HDEC := Lib.hid hdec
      have HXL := Lib.hid hxl
      have hsz := hF.size
      clear hBr hob hX hF hdec hxl
      by_cases hlt : k < n
      · obtain ⟨j, hj⟩ : ∃ j, n - k = j + 1 := ⟨n - k - 1, by omega⟩
        rw [hj] at HDEC
        cases hbad : itemBad rest with
        | some d =>
          obtain ⟨hd1, hd2⟩ := decN_bad (m := j) hbad
          have HFIN : Hid (([], d) = decOf bs) := by unfold Hid; rw [HD.out, HDEC.out, hd1]; rfl
          have HI := Lib.hid (item_less _ rest wr HBR.out hrl d hbad)
          have hne : (d != 0) = true := by rcases hd2 with rfl | rfl <;> rfl
          clear hd1 hd2 hbad hj
          go_wp2_with (go_at_call 56; refine HI.out.mono ?_; rintro e w4 ⟨hF4, i0, s0, v0, rfl⟩)
          go_ret2
          exact ⟨(HF.out.trans' hF4).trans' (by (repeat' (first | (with_reducible exact Frm.refl _ _) | (with_reducible assumption) | (with_reducible refine Frm.alloc ?_ _) | (with_reducible refine Frm.drew ?_) | (with_reducible refine Frm.drewN ?_ _) | (with_reducible refine Frm.set1 ?_ _) | (with_reducible refine Frm.setCell ?_ ?_ _) | (intro hlt; simp [World.size_alloc, One] at hlt ⊢; omega)))), _, [], d, rfl, HFIN.out, .nil _ _⟩
        | none =>
          obtain ⟨h7, kk, hkk, hk2, hk3⟩ := item_ok hbad
          have HM := Lib.hid (decN_more (m := j) h7 hkk hk2 hk3)
          have HI := Lib.hid (item_more _ rest kk wr HBR.out h7 hrl hkk hk2 hk3)
          have HJ := Lib.hid hj
          have HK3 := Lib.hid hk3
          have hm5 : xs.length + 1 ≤ maxLen := by rw [HXL.out]; unfold maxLen; omega
          have hm6 : (xs.length + 1) * 32 ≤ 140737488355328 := by rw [HXL.out]; omega
          obtain ⟨idx, hidx⟩ : ∃ i, numOf (rest.take 2) = i := ⟨_, rfl⟩
          obtain ⟨sub, hsub⟩ : ∃ i : Int, (rest[2].toNat : Int) = i := ⟨_, rfl⟩
          rw [hidx, hsub] at HM HI
          have HXR := Lib.hid HX.out.1
          clear hkk hbad hj hidx hsub hk3
          go_wp2_with (first | (go_at_call 56; refine HI.out.mono ?_; rintro e w4 ⟨hF4, Ab, cb, Ar4, nr4, cr4, rfl, hO4, hB4, hob4⟩; have HF4 := Lib.hid hF4; have HO4 := Lib.hid hO4; have HB4 := Lib.hid hB4; have HOB4 := Lib.hid hob4; have hsz4 := hF4.size; clear hF4 hO4 hB4 hob4) | (at_builtin; refine wpl_app rfl el_Item (.tmp 30) (.tmp 32) rfl (B := w.heap.size) (e2 := 121) (fr := (0, 0)) (arr := #[.int .u16 idx, .int .u8 sub, .slice Ab kk cb]) rfl rfl (Frm.row (S := fun _ => False) (w := w4) (by (repeat' (first | (with_reducible exact Frm.refl _ _) | (with_reducible assumption) | (with_reducible refine Frm.alloc ?_ _) | (with_reducible refine Frm.drew ?_) | (with_reducible refine Frm.drewN ?_ _) | (with_reducible refine Frm.set1 ?_ _) | (with_reducible refine Frm.setCell ?_ ?_ _) | (intro hlt; simp [World.size_alloc, One] at hlt ⊢; omega)))) (HF4.out.row HXR.out (fun _ _ h => h)) (fun _ _ h => h)) (heap_new_at (by simp)) rfl (by simp [Value.oneCell']) (by decide) hm5 hm6 (by simp; omega) ?_; intro g5 cap5 w5 hown5 hfr5 hat5 hlt5))
          go_roundw
          case rel =>
            have hF5 : Frm (fun j => (Value.slice Al xs.length cl).ownBlock = some j) w4 w5 := Frm.trans (b := _) (by (repeat' (first | (with_reducible exact Frm.refl _ _) | (with_reducible assumption) | (with_reducible refine Frm.alloc ?_ _) | (with_reducible refine Frm.drew ?_) | (with_reducible refine Frm.drewN ?_ _) | (with_reducible refine Frm.set1 ?_ _) | (with_reducible refine Frm.setCell ?_ ?_ _) | (intro hlt; simp [World.size_alloc, One] at hlt ⊢; omega)))) hfr5 (fun _ _ h => h)
            have hno : ∀ q, q < w.heap.size → ¬ (Value.slice Al xs.length cl).ownBlock = some q := fun q hq hs => by
              have := (row_block HXR.out hs).1
              omega
            refine ⟨k + 1, xs ++ [(idx, sub, .slice Ab kk cb, (rest.drop 7).take kk)], (rest.drop 7).drop kk, by omega, by go_num, by simp [HXL.out], ?_, ?_, ?_, ?_, ?_, ?_⟩
            · exact HB4.out.frm hF5 (fun q hq hs => by
                rw [HOB4.out, HOB.out] at hq
                cases hq
                exact hno g hgs hs)
            · rw [HOB4.out, HOB.out]
            · simp only [List.length_drop]; omega
            · exact (HX.out.grow HF4.out).push (idx, sub, .slice Ab kk cb, (rest.drop 7).take kk) (row_base HO4.out hsz) hF5 rfl hown5
            · exact (HF.out.trans' HF4.out).trans hF5 (fun i hi hs => hno i hi hs)
            · have hnj := HJ.out
              rw [HDEC.out, HM.out, catD_catD, List.map_append, show n - (k + 1) = j by omega]
              rfl
          case measure => simp [intOf]; omega
      · obtain rfl : k = n := by omega
        by_cases hr0 : 0 < rest.length
        · have HFIN : Hid (([], 8) = decOf bs) := by unfold Hid; rw [HD.out, HDEC.out, Nat.sub_self, decN, catD, finD, if_pos hr0]
          go_wp2_with fail
          go_ret2
          exact ⟨HF.out, _, [], 8, rfl, HFIN.out, .nil _ _⟩
        · have HFIN : Hid ((xs.map bare, 0) = decOf bs) := by unfold Hid; rw [HD.out, HDEC.out, Nat.sub_self, decN, catD, finD, if_neg hr0, List.append_nil]
          have hr1 : rest.length ≤ 0 := by omega
          clear hr0
          go_wp2_with fail
          go_ret2
          exact ⟨HF.out, _, xs, 0, rfl, HFIN.out, HX.out⟩
end Go.Proofs.Ytmkkeglcjbogcaa
