/-
  What the document's watcher does: Check, Find.
-/
import Derived.Test.YtmkkeglcjbogcaaApart
namespace Go.Proofs.Ytmkkeglcjbogcaa
open Go.RowKit
set_option linter.unusedVariables false

/-- What the document knows of a node: Is, State, Since. -/
abbrev Seen := Int × Int × Int
def encS (s : Seen) : List Value := [.int .i64 s.1, .int .i64 s.2.1, .int .u64 s.2.2]
theorem encS_len (s : Seen) : (encS s).length = 3 := rfl

/-- Watches that lie below N. -/
def WsAt (N : Nat) (w : World) (v : Value) (ws : List (Int × Int)) : Prop :=
  ∃ A cap, v = .slice A ws.length cap ∧ ws.length ≤ maxLen ∧ (0 < ws.length → ∃ g off, A = some ⟨g, off, none⟩ ∧ g < N ∧
    ∀ i (h : i < ws.length), w.cell? ⟨g, off + i * 2, none⟩ = some (.int .i64 ws[i].1) ∧ w.cell? ⟨g, off + i * 2 + 1, none⟩ = some (.int .u64 ws[i].2))
theorem SlAt.ws {W : World} {v : Value} {ws : List (Int × Int)} (h : SlAt encW 2 W v ws) : WsAt W.heap.size W v ws := by
  obtain ⟨A, cap, rfl, h1, h2, hc⟩ := h
  refine ⟨A, cap, rfl, Nat.le_trans h1 h2, fun h0 => ?_⟩
  obtain ⟨g, off, rfl, hg, hc⟩ := hc h0
  exact ⟨g, off, rfl, hg, fun i hi => ⟨hc i hi 0 (by decide), hc i hi 1 (by decide)⟩⟩
theorem WsAt.frm {N : Nat} {T : Nat → Prop} {w w' : World} {v : Value} {ws : List (Int × Int)} (h : WsAt N w v ws) (hF : Frm T w w') (hT : ∀ g, g < N → ¬ T g) : WsAt N w' v ws := by
  obtain ⟨A, cap, rfl, hm, hc⟩ := h
  refine ⟨A, cap, rfl, hm, fun h0 => ?_⟩
  obtain ⟨g, off, rfl, hg, hc⟩ := hc h0
  exact ⟨g, off, rfl, hg, fun i hi => ⟨hF.cell (hc i hi).1 (hT g hg), hF.cell (hc i hi).2 (hT g hg)⟩⟩

/-- The document's watcher, at db; its nodes' states, at sb. -/
structure DAt (N : Nat) (w : World) (db sb : Nat) (vl : Value) (ws : List (Int × Int)) (S : List Seen) : Prop where
  hd : w.heap[db]? = some (.cells #[vl, .slice (some ⟨sb, 0, none⟩) S.length S.length] 90 (0, 0))
  hs : w.heap[sb]? = some (.cells (cellsOf encS S).toArray 151 (0, 0))
  hl : WsAt N w vl ws
  len : S.length = ws.length
  ld : N ≤ db
  ls : N ≤ sb
theorem DAt.frm {N : Nat} {T : Nat → Prop} {w w' : World} {db sb : Nat} {vl : Value} {ws : List (Int × Int)} {S : List Seen} (h : DAt N w db sb vl ws S) (hF : Frm T w w') (h1 : ¬ T db) (h2 : ¬ T sb) (hT : ∀ g, g < N → ¬ T g) : DAt N w' db sb vl ws S :=
  ⟨hF.heap h.hd h1, hF.heap h.hs h2, h.hl.frm hF hT, h.len, h.ld, h.ls⟩
theorem DAt.grow {N : Nat} {w w' : World} {db sb : Nat} {vl : Value} {ws : List (Int × Int)} {S : List Seen} (h : DAt N w db sb vl ws S) (hF : Frm (fun _ => False) w w') : DAt N w' db sb vl ws S := h.frm hF (fun h => h) (fun h => h) (fun _ _ h => h)
theorem DAt.ne {N : Nat} {w : World} {db sb : Nat} {vl : Value} {ws : List (Int × Int)} {S : List Seen} (h : DAt N w db sb vl ws S) : db ≠ sb := block_ne h.hd h.hs (by decide)
theorem DAt.upd {N : Nat} {w w' : World} {db sb : Nat} {vl : Value} {ws : List (Int × Int)} {S S' : List Seen} (h : DAt N w db sb vl ws S) (hF : Frm (One sb) w w') (hs : w'.heap[sb]? = some (.cells (cellsOf encS S').toArray 151 (0, 0))) (hl : S'.length = S.length) : DAt N w' db sb vl ws S' :=
  ⟨by rw [hl]; exact hF.heap h.hd h.ne, hs, h.hl.frm hF (fun g hg e => by have := h.ls; have : g = sb := e; omega), hl.trans h.len, h.ld, h.ls⟩
theorem DAt.seen {N : Nat} {w : World} {db sb : Nat} {vl : Value} {ws : List (Int × Int)} {S : List Seen} (h : DAt N w db sb vl ws S) (i : Nat) (hi : i < S.length) :
    w.cell? ⟨sb, i * 3, none⟩ = some (.int .i64 S[i].1) ∧ w.cell? ⟨sb, i * 3 + 1, none⟩ = some (.int .i64 S[i].2.1) ∧ w.cell? ⟨sb, i * 3 + 2, none⟩ = some (.int .u64 S[i].2.2) := by
  refine ⟨?_, ?_, ?_⟩
  · rw [cell_at h.hs]; simpa [encS] using cellsOf_get encS_len S i 0 hi (by decide)
  · rw [cell_at h.hs]; simpa [encS] using cellsOf_get encS_len S i 1 hi (by decide)
  · rw [cell_at h.hs]; simpa [encS] using cellsOf_get encS_len S i 2 hi (by decide)

theorem list_getD {α : Type} (l : List α) (i : Nat) (h : i < l.length) (d : α) : l.getD i d = l[i] := by
  rw [List.getD_eq_getElem?_getD, List.getElem?_eq_getElem h]; rfl

set_option maxHeartbeats 1000000 in
theorem find_any (N db sb : Nat) (vl : Value) (ws : List (Int × Int)) (S : List Seen) (n : Int) (w : World) (h : DAt N w db sb vl ws S) :
    Calls Try.prog 76 #[ptr db, .int .i64 n] w fun e w' => e = .returned (.int .i64 (placeOf (ws.map (·.1)) n)) ∧ w' = w := by
  obtain ⟨A, cap, rfl, hm, hc⟩ := h.hl
  have c0 : w.cell? ⟨db, 0, none⟩ = some (.slice A ws.length cap) := cell_at h.hd
  have HC := Lib.hid hc
  clear hc h
  unfold maxLen at hm
  unfold ptr
  go_enter Try.func76, Try.ntmps76
  go_wp2
  go_loopw [5] (fun i wr => ∃ k : Nat, k ≤ ws.length ∧ i = .int .i64 k ∧ (∀ j, j < k → (ws.map (·.1)).getD j 0 ≠ n) ∧ wr = w) (fun i _ => ws.length - (intOf i).toNat)
  case atStart => exact ⟨0, Nat.zero_le _, rfl, fun j hj => absurd hj (by omega), rfl⟩
  case round =>
    obtain ⟨k, hk, rfl, hno, rfl⟩ := hrel
    have HNO := Lib.hid hno
    clear hno
    by_cases hlt : k < ws.length
    · obtain ⟨g, off, rfl, hg, hc⟩ := HC.out (by omega)
      have c1 := (hc k hlt).1
      have hgk : (ws.map (·.1)).getD k 0 = ws[k].1 := by rw [list_getD _ _ (by simpa using hlt)]; simp
      have HGK := Lib.hid hgk
      clear hc hgk
      generalize ws[k].1 = x at *
      by_cases hx : x = n
      · have hb : (x == n) = true := by simpa using hx
        have hp := placeOf_hit (l := ws.map (·.1)) (n := n) (by simpa using hlt) (HGK.out.trans hx) HNO.out
        clear hx
        go_wp2
        go_ret
        exact ⟨by rw [hp]; rfl, rfl⟩
      · have hb : (x == n) = false := by simpa using hx
        have HX := Lib.hid hx
        clear hx
        go_wp2
        go_roundw
        case rel =>
          refine ⟨k + 1, by omega, by go_num, fun j hj => ?_, trivial⟩
          by_cases e : j = k
          · subst e; rw [HGK.out]; exact HX.out
          · exact HNO.out j (by omega)
        case measure => simp [intOf]; omega
    · have hp := placeOf_miss (l := ws.map (·.1)) (n := n) (fun j hj => HNO.out j (by simp at hj; omega))
      go_wp2
      go_ret
      exact ⟨by rw [hp]; rfl, rfl⟩


theorem drewN_sum (w : World) (m n : Nat) : (w.drewN m).drewN n = w.drewN (m + n) := by
  simp [World.drewN, Nat.add_assoc]

set_option maxRecDepth 100000 in
set_option maxHeartbeats 1000000 in
theorem check_any (N : Nat) (vl : Value) (ws : List (Int × Int)) (w : World) (h : WsAt N w vl ws) (hwf : ∀ p ∈ ws, 0 ≤ p.2) :
    Calls Try.prog 39 #[vl] w fun e w' => e = .returned (.int .i64 (chk [] ws)) ∧ ∃ m, w' = w.drewN m := by
  obtain ⟨A, cap, rfl, hm, hc⟩ := h
  have HC := Lib.hid hc
  have HWF := Lib.hid hwf
  clear hc hwf
  unfold maxLen at hm
  go_enter Try.func39, Try.ntmps39
  go_wp2
  go_loopw [3, 4] (fun i _ wr => ∃ k : Nat, k ≤ ws.length ∧ i = .int .i64 k ∧ chk [] ws = chk ((ws.take k).map (·.1)) (ws.drop k) ∧ ∃ m, wr = w.drewN m) (fun i _ _ => ws.length - (intOf i).toNat)
  case atStart => exact ⟨0, Nat.zero_le _, rfl, by simp, 0, rfl⟩
  case round =>
    obtain ⟨k, hk, rfl, hchk, m0, rfl⟩ := hrel
    by_cases hlt : k < ws.length
    · obtain ⟨g, off, rfl, hg, hc⟩ := HC.out (by omega)
      obtain ⟨c1, c2⟩ := hc k hlt
      have hwf := HWF.out _ (List.getElem_mem hlt)
      have hdrop : ws.drop k = ws[k] :: ws.drop (k + 1) := List.drop_eq_getElem_cons hlt
      have htake := List.take_succ_eq_append_getElem hlt
      obtain ⟨⟨n, t⟩, hnt⟩ : ∃ p, p = ws[k] := ⟨_, rfl⟩
      have HNT := Lib.hid hnt
      rw [← hnt] at c1 c2 hwf hdrop htake
      simp only at c1 c2 hwf
      have HC2 := Lib.hid hc
      have HK := Lib.hid hchk
      have HD := Lib.hid hdrop
      have HT := Lib.hid htake
      clear hc hchk hdrop htake hnt
      by_cases hbad : n < 1 ∨ 127 < n ∨ t < 1 ∨ 4294967296 < t
      · have HB : Hid (chk [] ws = 1) := by unfold Hid; rw [HK.out, HD.out, chk, if_pos hbad]
        by_cases b1 : n < 1
        · clear hbad
          go_wp2
          go_ret
          exact ⟨by rw [HB.out]; rfl, _, rfl⟩
        · by_cases b2 : 127 < n
          · clear hbad
            have b1' : 1 ≤ n := by omega
            go_wp2
            go_ret
            exact ⟨by rw [HB.out]; rfl, _, rfl⟩
          · have b1' : 1 ≤ n := by omega
            have b2' : n ≤ 127 := by omega
            by_cases b3 : t < 1
            · clear hbad b1 b2
              go_wp2
              go_ret
              exact ⟨by rw [HB.out]; rfl, _, rfl⟩
            · have b3' : 1 ≤ t := by omega
              have b4 : 4294967296 < t := by omega
              clear hbad b1 b2 b3
              go_wp2
              go_ret
              exact ⟨by rw [HB.out]; rfl, _, rfl⟩
      · have b1 : 1 ≤ n := by omega
        have b2 : n ≤ 127 := by omega
        have b3 : 1 ≤ t := by omega
        have b4 : t ≤ 4294967296 := by omega
        have HB := Lib.hid hbad
        clear hbad
        go_wp2
        go_loopw [4] (fun j wr => ∃ i m : Nat, i ≤ k ∧ j = .int .i64 i ∧ (∀ q, q < i → ∀ hq : q < ws.length, ws[q].1 ≠ n) ∧ wr = w.drewN m) (fun j _ => k - (intOf j).toNat)
        case atStart => exact ⟨0, m0, Nat.zero_le _, rfl, fun q hq => absurd hq (by omega), rfl⟩
        case round =>
          obtain ⟨i, m, hi, rfl, hno, rfl⟩ := hrel
          have HNO := Lib.hid hno
          clear hno
          by_cases hik : i < k
          · have d1 := (HC2.out i (by omega)).1
            obtain ⟨y, hy⟩ : ∃ y, y = ws[i].1 := ⟨_, rfl⟩
            rw [← hy] at d1
            have HY := Lib.hid hy
            clear hy
            have i0 : (0 : Int) ≤ (i : Int) := Int.natCast_nonneg _
            have i1 : (i : Int) < (ws.length : Int) := by omega
            have k0 : (0 : Int) ≤ (k : Int) := Int.natCast_nonneg _
            have k1 : (k : Int) < (ws.length : Int) := by omega
            by_cases hyn : y = n
            · have hb : (y == n) = true := by simpa using hyn
              have HB2 : Hid (chk [] ws = 5) := by
                unfold Hid
                rw [HK.out, HD.out, chk, if_neg HB.out, if_pos]
                rw [← hyn, HY.out]
                exact List.mem_map.2 ⟨ws[i], List.mem_take_iff_getElem.2 ⟨i, by omega, rfl⟩, rfl⟩
              clear hyn
              go_wp2
              go_quiet (fail)
              go_wp2
              go_ret
              exact ⟨by rw [HB2.out]; rfl, _, drewN_sum _ _ _⟩
            · have hb : (y == n) = false := by simpa using hyn
              have HYN := Lib.hid hyn
              clear hyn
              go_wp2
              go_quiet (fail)
              go_wp2
              go_roundw
              case rel =>
                refine ⟨i + 1, _, by omega, by go_num, fun q hq hql => ?_, rfl⟩
                by_cases e : q = i
                · subst e; rw [← HY.out]; exact HYN.out
                · exact HNO.out q (by omega) hql
              case measure => simp [intOf]; omega
          · have HN : Hid (chk [] ws = chk ((ws.take (k + 1)).map (·.1)) (ws.drop (k + 1))) := by
              unfold Hid
              rw [HK.out, HD.out, chk, if_neg HB.out, if_neg, HT.out, List.map_append]
              · rfl
              · intro hm
                obtain ⟨p, hp, e⟩ := List.mem_map.1 hm
                obtain ⟨q, hq, rfl⟩ := List.mem_take_iff_getElem.1 hp
                exact HNO.out q (by omega) (by omega) e
            go_wp2
            go_roundw
            case rel => exact ⟨k + 1, by omega, by go_num, HN.out, _, rfl⟩
            case measure => simp [intOf]; omega
    · have HB : Hid (chk [] ws = 0) := by unfold Hid; rw [hchk, List.drop_eq_nil_of_le (by omega), chk]
      clear hchk
      go_wp2
      go_ret
      exact ⟨by rw [HB.out]; rfl, _, rfl⟩

end Go.Proofs.Ytmkkeglcjbogcaa
