/-
  The document's watcher, beside the watcher itself.
-/
import Derived.Test.YtmkkeglcjbogcaaRefT
namespace Go.Proofs.Ytmkkeglcjbogcaa
open Go.RowKit
set_option linter.unusedVariables false

/-- What the document knows, of the nodes that a watcher knows so. -/
def seens (l : List (Nat × Wd)) : List Seen := l.map fun q => seenOf q.2
def watchesOf (l : List (Nat × Wd)) : List (Int × Int) := l.map fun q => (q.2.node, q.2.ticks)
theorem watchesOf_nodes (l : List (Nat × Wd)) : (watchesOf l).map (·.1) = nodes l := by simp [watchesOf, nodes]
theorem seens_set (l : List (Nat × Wd)) (k : Nat) (q : Nat × Wd) : seens (l.set k q) = (seens l).set k (seenOf q.2) := by simp [seens]
theorem seens_get (l : List (Nat × Wd)) (k : Nat) (hk : k < l.length) (h : k < (seens l).length) : (seens l)[k] = seenOf l[k].2 := by simp [seens]
theorem take_ticks (x : Wd) (c : Int) : (x.take c).1.ticks = x.ticks := by
  unfold Wd.take
  split
  · rfl
  · split <;> rfl
theorem tick_ticks (x : Wd) : x.tick.1.ticks = x.ticks := by
  unfold Wd.tick
  split
  · rfl
  · split <;> rfl
theorem watchesOf_set {l : List (Nat × Wd)} {k : Nat} (hk : k < l.length) {q : Nat × Wd} (h1 : q.2.node = l[k].2.node) (h2 : q.2.ticks = l[k].2.ticks) : watchesOf (l.set k q) = watchesOf l := by
  unfold watchesOf
  rw [List.map_set, h1, h2]
  apply List.ext_getElem (by simp)
  intro i h3 h4
  rw [List.getElem_set]
  split
  · subst_vars; simp
  · rfl
theorem watchesOf_ticked (l : List (Nat × Wd)) : watchesOf (ticked l) = watchesOf l := by
  simp only [watchesOf, ticked, List.map_map]
  apply List.map_congr_left
  intro q _
  simp [(tick_node q.2).1, tick_ticks]
theorem watchesOf_take (l : List (Nat × Wd)) (n : Int) (bs : List UInt8) : watchesOf (takeOf l n bs).1 = watchesOf l := by
  rcases takeOf_cases l n bs with ⟨_, e⟩ | ⟨k, hk, _, e, _⟩
  · rw [e]
  · rw [e]
    unfold takeWd
    split
    · exact watchesOf_set hk (take_node _ _).1 (take_ticks _ _)
    · exact watchesOf_set hk rfl rfl

theorem take_seen (x : Wd) (c : Int) (hok : c = 0 ∨ c = 4 ∨ c = 5 ∨ c = 127) : seenTake (seenOf x) x.node c = (seenOf (x.take c).1, (x.take c).2.1) := by
  by_cases h0 : c = 0
  · subst h0; rfl
  · rw [wd_take_on x c (by omega)]
    unfold seenTake seenOf
    rw [if_neg h0]
    obtain ⟨xn, xt, xs, xth, xl, xsi⟩ := x
    cases xth <;> cases xl <;> simp
theorem take_bad (x : Wd) (c : Int) (h0 : c ≠ 0) (h4 : c ≠ 4) (h5 : c ≠ 5) (h7 : c ≠ 127) : x.take c = (x, [], false) := by
  unfold Wd.take
  rw [if_neg h0, if_neg (by omega)]
theorem take_ok (x : Wd) (c : Int) (hok : c = 0 ∨ c = 4 ∨ c = 5 ∨ c = 127) : (x.take c).2.2 = true := by
  unfold Wd.take
  split
  · rfl
  · rw [if_pos (by omega)]

def RTakeAny (N db sb : Nat) (vl : Value) (l : List (Nat × Wd)) (n : Int) (bs : List UInt8) (w : World) (e : Ending) (w' : World) : Prop :=
  ∃ v, e = .returned (.tuple #[v, .bool (takeOf l n bs).2.2]) ∧ NewsAt w' v (takeOf l n bs).2.1 ∧ DAt N w' db sb vl (watchesOf l) (seens (takeOf l n bs).1) ∧ Frm (One sb) w w'

theorem set_self (l : List (Nat × Wd)) (k : Nat) (hk : k < l.length) : l.set k (l[k].1, l[k].2) = l := by
  rw [show (l[k].1, l[k].2) = l[k] from rfl, List.set_getElem_self]

theorem takeOf_at (l : List (Nat × Wd)) (n : Int) (bs : List UInt8) (k : Nat) (hk : k < l.length) (hn : l[k].2.node = n) (hno : ∀ j, j < k → (nodes l).getD j 0 ≠ n) :
    takeOf l n bs = (l.set k (l[k].1, (takeWd l[k].2 bs).1), (takeWd l[k].2 bs).2) := by
  have hf : l.findIdx? (fun q => decide (q.2.node = n)) = some k := by
    rw [List.findIdx?_eq_some_iff_getElem]
    refine ⟨hk, by simpa using hn, fun j hj => ?_⟩
    have := hno j hj
    rw [List.getD_eq_getElem?_getD, List.getElem?_eq_getElem (by simp [nodes]; omega)] at this
    simpa [nodes] using this
  unfold takeOf takeWd
  rw [hf]
  simp only [List.getElem?_eq_getElem hk]
  split
  · rfl
  · simp only [set_self l k hk]

theorem rtake_any (N db sb : Nat) (vl v : Value) (l : List (Nat × Wd)) (n : Int) (bs : List UInt8) (w : World) (h : DAt N w db sb vl (watchesOf l) (seens l)) (hv : BytesAt w v bs) :
    Calls Try.prog 40 #[ptr db, .int .i64 n, v] w (RTakeAny N db sb vl l n bs w) := by
  by_cases hin : n ∈ nodes l
  · obtain ⟨k, hk, hn, hno⟩ := nodes_in hin
    have hks : k < (seens l).length := by simpa [seens] using hk
    have hp : placeOf ((watchesOf l).map (·.1)) n = (k : Int) := by
      rw [watchesOf_nodes]
      refine placeOf_hit (by simpa [nodes] using hk) ?_ hno
      rw [list_getD _ _ (by simpa [nodes] using hk)]
      simpa [nodes] using hn
    have ht := takeOf_at l n bs k hk hn hno
    unfold RTakeAny
    rw [ht]
    obtain ⟨A, cap, rfl, _, _, hb⟩ := hv
    by_cases hl : bs.length = 1
    · obtain ⟨c, rfl⟩ : ∃ c, bs = [c] := by
        match bs, hl with
        | [c], _ => exact ⟨c, rfl⟩
      obtain ⟨q, o, rfl, hb2⟩ := hb (by simp)
      have hc : w.cell? ⟨q, o, none⟩ = some (.int .u8 (c.toNat : Int)) := by simpa using hb2 0 (by simp)
      have htw : takeWd l[k].2 [c] = l[k].2.take c.toNat := by unfold takeWd; rw [if_pos (by simp)]; rfl
      rw [htw]
      by_cases hok : (c.toNat : Int) = 0 ∨ (c.toNat : Int) = 4 ∨ (c.toNat : Int) = 5 ∨ (c.toNat : Int) = 127
      · refine (rtake_on N db sb vl (watchesOf l) (seens l) n q o cap k hks hp c.toNat hok w h hc).mono ?_
        rintro e w' ⟨v', rfl, hN, hD, hF⟩
        have E := take_seen l[k].2 c.toNat hok
        rw [hn, ← seens_get l k hk hks] at E
        rw [E] at hN hD
        rw [take_ok _ _ hok]
        refine ⟨v', rfl, hN, ?_, hF⟩
        rw [seens_set]
        exact hD
      · refine (rtake_bad N db sb vl (watchesOf l) (seens l) n q o cap k c.toNat (by omega) (by omega) (by omega) (by omega) hp w h hc).mono ?_
        rintro e w' ⟨rfl, rfl⟩
        rw [take_bad _ _ (by omega) (by omega) (by omega) (by omega)]
        simp only [set_self l k hk]
        exact ⟨_, rfl, ⟨0, World.ownsRow_nil _ _ _ _⟩, h, Frm.refl _ _⟩
    · refine (rtake_len N db sb vl (watchesOf l) (seens l) n A bs.length cap k hl hp w h).mono ?_
      rintro e w' ⟨rfl, rfl⟩
      have htw : takeWd l[k].2 bs = (l[k].2, [], false) := by unfold takeWd; rw [if_neg hl]
      rw [htw]
      simp only [set_self l k hk]
      exact ⟨_, rfl, ⟨0, World.ownsRow_nil _ _ _ _⟩, h, Frm.refl _ _⟩
  · have hp : placeOf ((watchesOf l).map (·.1)) n = -1 := by
      rw [watchesOf_nodes]
      exact placeOf_miss fun j hj => nodes_out hin j (by simpa [nodes] using hj)
    refine (rtake_miss N db sb vl v (watchesOf l) (seens l) n hp w h).mono ?_
    rintro e w' ⟨rfl, rfl⟩
    rcases takeOf_cases l n bs with ⟨_, e⟩ | ⟨k, hk, hn, _⟩
    · unfold RTakeAny
      rw [e]
      exact ⟨_, rfl, ⟨0, World.ownsRow_nil _ _ _ _⟩, h, Frm.refl _ _⟩
    · exact absurd (by rw [← hn]; exact List.mem_map.2 ⟨l[k], List.getElem_mem hk, rfl⟩) hin


def RTickPost (N db sb : Nat) (vl : Value) (l : List (Nat × Wd)) (w : World) (e : Ending) (w' : World) : Prop :=
  ∃ v, e = .returned v ∧ w'.ownsRow w.heap.size 48 3 v (tickNews l).length (newsCells (tickNews l)) ∧ DAt N w' db sb vl (watchesOf l) (seens (ticked l)) ∧ Frm (One sb) w w'

theorem tick_seen (x : Wd) : x.there = true → x.lost = false → seenOf x = (1, x.state, x.since) := fun h1 h2 => by unfold seenOf; rw [h1, h2]; rfl
theorem tick_unseen (x : Wd) (h : x.there = false ∨ x.lost = true) : (seenOf x).1 ≠ 1 := by
  unfold seenOf
  obtain ⟨xn, xt, xs, xth, xl, xsi⟩ := x
  cases xth <;> cases xl <;> simp at h ⊢

set_option maxRecDepth 100000 in
set_option maxHeartbeats 2000000 in
theorem rtick_any (N db sb : Nat) (vl : Value) (l : List (Nat × Wd)) (w : World) (h : DAt N w db sb vl (watchesOf l) (seens l)) (hm : l.length ≤ 1000) (hok : okL l) :
    Calls Try.prog 41 #[ptr db] w (RTickPost N db sb vl l w) := by
  have hwl : (watchesOf l).length = l.length := by simp [watchesOf]
  have hsl : (seens l).length = l.length := by simp [seens]
  have HSL : ∀ k, (seens (tickTo l k)).length = l.length := fun k => by simp [seens, tickTo, ticked]; omega
  have HSL := Lib.hid HSL
  obtain ⟨A, cap, hvl, _, hc⟩ := h.hl
  rw [hwl] at hvl
  subst hvl
  have HC := Lib.hid hc
  have HD := Lib.hid h
  have HOK := Lib.hid hok
  clear hc h hok
  have HWL := Lib.hid hwl
  clear hwl
  unfold ptr
  go_enter Try.func41, Try.ntmps41
  go_wp2_with fail
  go_loopw [3, 4] (fun v i wr => ∃ k : Nat, k ≤ l.length ∧ i = .int .i64 k ∧ DAt N wr db sb (.slice A l.length cap) (watchesOf l) (seens (tickTo l k)) ∧ wr.ownsRow w.heap.size 48 3 v (tickNews (l.take k)).length (newsCells (tickNews (l.take k))) ∧ Frm (One sb) w wr) (fun _ i _ => l.length - (intOf i).toNat)
  case atStart => exact ⟨0, Nat.zero_le _, rfl, by simpa [tickTo, ticked] using HD.out.grow (by (repeat' (first | (with_reducible exact Frm.refl _ _) | (with_reducible assumption) | (with_reducible refine Frm.alloc ?_ _) | (with_reducible refine Frm.drew ?_) | (with_reducible refine Frm.drewN ?_ _) | (with_reducible refine Frm.set1 ?_ _) | (with_reducible refine Frm.setCell ?_ ?_ _) | (intro hlt; simp [World.size_alloc, One] at hlt ⊢; omega)))), by simpa [tickNews, newsCells] using empty_row w 48 3 w.heap.size (Nat.le_refl _), by (repeat' (first | (with_reducible exact Frm.refl _ _) | (with_reducible assumption) | (with_reducible refine Frm.alloc ?_ _) | (with_reducible refine Frm.drew ?_) | (with_reducible refine Frm.drewN ?_ _) | (with_reducible refine Frm.set1 ?_ _) | (with_reducible refine Frm.setCell ?_ ?_ _) | (intro hlt; simp [World.size_alloc, One] at hlt ⊢; omega)))⟩
  case round =>
    obtain ⟨k, hk, rfl, hD, hrow, hF⟩ := hrel
    have c0 : wr.cell? ⟨db, 0, none⟩ = some (.slice A l.length cap) := cell_at hD.hd
    have c1 : wr.cell? ⟨db, 1, none⟩ = some (.slice (some ⟨sb, 0, none⟩) l.length l.length) := by rw [cell_at hD.hd, HSL.out k]; rfl
    have hne := hD.ne
    have hne2 := hD.ne.symm
    have hfd := frees hD.hd
    have hfs := frees hD.hs
    have hlb := lt_of_block hD.hs
    have hldb := lt_of_block hD.hd
    have k0 : (0 : Int) ≤ (k : Int) := Int.natCast_nonneg _
    by_cases hlt : k < l.length
    · obtain ⟨g, off, rfl, hg, _⟩ := HC.out (by rw [HWL.out]; omega)
      obtain ⟨q0, q1⟩ : wr.cell? ⟨g, off + k * 2, none⟩ = some (.int .i64 l[k].2.node) ∧ wr.cell? ⟨g, off + k * 2 + 1, none⟩ = some (.int .u64 l[k].2.ticks) := by
        obtain ⟨A2, cap2, hA, _, hc⟩ := hD.hl
        simp only [Value.slice.injEq] at hA
        obtain ⟨rfl, _, rfl⟩ := hA
        obtain ⟨g2, off2, hg2, _, hc⟩ := hc (by rw [HWL.out]; omega)
        cases hg2
        have := hc k (by rw [HWL.out]; omega)
        simpa [watchesOf] using this
      have hgs : g ≠ sb := by have := HD.out.ls; omega
      have hgs2 : sb ≠ g := hgs.symm
      have k1 : (k : Int) < (l.length : Int) := by omega
      have hks : k < (seens (tickTo l k)).length := by rw [HSL.out]; exact hlt
      obtain ⟨s0, s1, s2⟩ := hD.seen k hks
      have hsk : (seens (tickTo l k))[k] = seenOf l[k].2 := by
        obtain ⟨_, h2, h3⟩ := tickTo_get hlt
        rw [seens_get _ k h2, h3]
      rw [hsk] at s0 s1 s2
      have hokx := HOK.out _ (List.getElem_mem hlt)
      have hnl : (tickNews (l.take k)).length ≤ k := Nat.le_trans (tickNews_length _) (by simp; omega)
      have HP : Hid (∀ j, u3.ownBlock = some j → ¬ One sb j) := fun j hj (e : j = sb) => by
        obtain ⟨_, cur', hc'⟩ := row_block hrow hj
        exact block_ne hc' hD.hs (by decide) e
      have HP2 : Hid (∀ j, u3.ownBlock = some j → j ≠ db ∧ j ≠ sb ∧ w.heap.size ≤ j ∧ ¬ j < N) := fun j hj => by
        obtain ⟨hj0, cur', hc'⟩ := row_block hrow hj
        have h1 := HD.out.ls
        have h2 := lt_of_block HD.out.hs
        exact ⟨block_ne hc' hD.hd (by decide), block_ne hc' hD.hs (by decide), hj0, by omega⟩
      have hm5 : (tickNews (l.take k)).length + 1 ≤ maxLen := by unfold maxLen; omega
      have hm6 : ((tickNews (l.take k)).length + 1) * 24 ≤ 140737488355328 := by omega
      have hwsz := hF.size
      have HTT := Lib.hid (tickTo_succ hlt)
      have HTN := Lib.hid (tickNews_succ hlt)
      generalize l[k] = qk at *
      obtain ⟨pk, x⟩ := qk
      simp only at s0 s1 s2 q0 q1 hokx
      have HSET : ∀ w' : World, Frm (One sb) wr w' → w'.heap[sb]? = some (.cells (cellsOf encS ((seens (tickTo l k)).set k (seenOf x.tick.1))).toArray 151 (0, 0)) → DAt N w' db sb (.slice (some ⟨g, off, none⟩) l.length cap) (watchesOf l) (seens (tickTo l (k + 1))) := fun w' hf hh => by
        rw [HTT.out, seens_set]
        exact hD.upd hf hh (by simp)
      have HSET := Lib.hid HSET
      have HH := Lib.hid hD.hs
      have HKS := Lib.hid hks
      have HSK := Lib.hid hsk
      have HD2 := Lib.hid hD
      have HROW := Lib.hid hrow
      have HF := Lib.hid hF
      clear hD hrow hF hsk
      by_cases e1 : x.there = false ∨ x.lost = true
      · have hb : ((seenOf x).1 != 1) = true := by simpa using tick_unseen x e1
        have HE : Hid (x.tick = (x, [])) := by unfold Hid Wd.tick; rw [if_pos e1]
        clear e1 hokx
        generalize hsx : seenOf x = sx at *
        obtain ⟨y0, y1, y2⟩ := sx
        simp only at s0 s1 s2 hb
        have HSX := Lib.hid hsx
        clear hsx
        go_wp2_with fail
        go_roundw
        case rel =>
          refine ⟨k + 1, by omega, by go_num, HSET.out _ (Frm.refl _ _) ?_, ?_, HF.out⟩
          · rw [HE.out, HSX.out, ← HSK.out, List.set_getElem_self]
            exact HH.out
          · rw [HTN.out, HE.out, List.append_nil]
            exact HROW.out
        case measure => simp [intOf]; omega
      · obtain ⟨n, t, st, there, lost, since⟩ := x
        obtain ⟨rfl, rfl⟩ : there = true ∧ lost = false := by simpa using e1
        obtain ⟨o1, o2, o3, o4, o5⟩ := hokx
        simp only [forall_const] at o1 o2 o3 o4 o5
        rw [tick_seen _ rfl rfl] at s0 s1 s2 HSK
        simp only at s0 s1 s2 q0 q1 HSK
        clear e1
        by_cases e3 : t ≤ since + 1
        · obtain rfl : t = since + 1 := by omega
          have HE : Hid ((⟨n, since + 1, st, true, false, since⟩ : Wd).tick = (⟨n, since + 1, st, true, true, since + 1⟩, [(n, 3, st)])) := by unfold Hid Wd.tick; simp
          have HSN : Hid (seenOf ⟨n, since + 1, st, true, true, since + 1⟩ = (2, st, since + 1)) := rfl
          clear e3
          go_wp2_with fail
          go_quiet (fail)
          go_wp2_with fail
          go_region_law (refine step_app (by rfl) el_News _ _ (by rfl) (by rfl) (by rfl) (B := w.heap.size) (xs := newsCells (tickNews (l.take k))) (arr := #[.int .i64 n, .int .i64 3, .int .i64 st]) (e2 := 48) (fr := (0, 0)) (Frm.row (S := One sb) (w := wr) (by (repeat' (first | (with_reducible exact Frm.refl _ _) | (with_reducible assumption) | (with_reducible refine Frm.alloc ?_ _) | (with_reducible refine Frm.drew ?_) | (with_reducible refine Frm.drewN ?_ _) | (with_reducible refine Frm.set1 ?_ _) | (with_reducible refine Frm.setCell ?_ ?_ _) | (intro hlt; simp [World.size_alloc, One] at hlt ⊢; omega)))) HROW.out HP.out) (heap_new_at (by simp)) (by rfl) (by simp [Value.oneCell']) (by decide) hm5 hm6 (by simp; omega) ?_; intro g5 cap5 w5 hown5 hfr5 hat5 hlt5)
          all_goals
            go_wp2_with fail
            go_roundw
            case rel =>
              refine ⟨k + 1, by omega, by go_num, DAt.frm (HSET.out _ (by (repeat' (first | (with_reducible exact Frm.refl _ _) | (with_reducible assumption) | (with_reducible refine Frm.alloc ?_ _) | (with_reducible refine Frm.drew ?_) | (with_reducible refine Frm.drewN ?_ _) | (with_reducible refine Frm.set1 ?_ _) | (with_reducible refine Frm.setCell ?_ ?_ _) | (intro hlt; simp [World.size_alloc, One] at hlt ⊢; omega)))) ?_) hfr5 (fun h => (HP2.out _ h).1 rfl) (fun h => (HP2.out _ h).2.1 rfl) (fun j hj h => (HP2.out _ h).2.2.2 hj), ?_, Frm.trans (b := _) (HF.out.trans' (by (repeat' (first | (with_reducible exact Frm.refl _ _) | (with_reducible assumption) | (with_reducible refine Frm.alloc ?_ _) | (with_reducible refine Frm.drew ?_) | (with_reducible refine Frm.drewN ?_ _) | (with_reducible refine Frm.set1 ?_ _) | (with_reducible refine Frm.setCell ?_ ?_ _) | (intro hlt; simp [World.size_alloc, One] at hlt ⊢; omega))))) hfr5 (fun j hj h => ?_)⟩
              · rw [HE.out, HSN.out]
                have h1 := seen_set HH.out k 2 HKS.out (by decide) (1, st, since + 1) (.int .u64 (since + 1)) (by rw [HSK.out]; rfl)
                have h2 := seen_set h1 k 0 (by rw [List.length_set]; exact HKS.out) (by decide) (2, st, since + 1) (.int .i64 2) (by simp [encS])
                rw [List.set_set] at h2
                exact heap_alloc_old h2
              · rw [HTN.out, HE.out, newsCells_append, List.length_append]
                exact hown5
              · have := (HP2.out _ h).2.2.1
                omega
            case measure => simp [intOf]; omega
        · have HE : Hid ((⟨n, t, st, true, false, since⟩ : Wd).tick = (⟨n, t, st, true, false, since + 1⟩, [])) := by unfold Hid Wd.tick; simp [e3]
          have HSN : Hid (seenOf ⟨n, t, st, true, false, since + 1⟩ = (1, st, since + 1)) := rfl
          have hb : (since + 1 == t) = false := by simp; omega
          clear e3
          go_wp2_with fail
          go_quiet (fail)
          go_wp2_with fail
          go_roundw
          case rel =>
            refine ⟨k + 1, by omega, by go_num, HSET.out _ (by (repeat' (first | (with_reducible exact Frm.refl _ _) | (with_reducible assumption) | (with_reducible refine Frm.alloc ?_ _) | (with_reducible refine Frm.drew ?_) | (with_reducible refine Frm.drewN ?_ _) | (with_reducible refine Frm.set1 ?_ _) | (with_reducible refine Frm.setCell ?_ ?_ _) | (intro hlt; simp [World.size_alloc, One] at hlt ⊢; omega)))) ?_, ?_, HF.out.trans' (by (repeat' (first | (with_reducible exact Frm.refl _ _) | (with_reducible assumption) | (with_reducible refine Frm.alloc ?_ _) | (with_reducible refine Frm.drew ?_) | (with_reducible refine Frm.drewN ?_ _) | (with_reducible refine Frm.set1 ?_ _) | (with_reducible refine Frm.setCell ?_ ?_ _) | (intro hlt; simp [World.size_alloc, One] at hlt ⊢; omega))))⟩
            · rw [HE.out, HSN.out]
              exact seen_set HH.out k 2 HKS.out (by decide) (1, st, since + 1) _ (by rw [HSK.out]; rfl)
            · rw [HTN.out, HE.out, List.append_nil]
              exact Frm.row (S := One sb) (w := wr) (by (repeat' (first | (with_reducible exact Frm.refl _ _) | (with_reducible assumption) | (with_reducible refine Frm.alloc ?_ _) | (with_reducible refine Frm.drew ?_) | (with_reducible refine Frm.drewN ?_ _) | (with_reducible refine Frm.set1 ?_ _) | (with_reducible refine Frm.setCell ?_ ?_ _) | (intro hlt; simp [World.size_alloc, One] at hlt ⊢; omega)))) HROW.out HP.out
          case measure => simp [intOf]; omega
    · have hkn : k = l.length := by omega
      have e1 : tickTo l k = ticked l := by rw [hkn]; simp [tickTo]
      have e2 : l.take k = l := List.take_of_length_le (by omega)
      rw [e1] at hD
      rw [e2] at hrow
      clear hkn
      go_wp2_with fail
      go_ret
      exact ⟨_, rfl, hrow, hD, hF⟩

end Go.Proofs.Ytmkkeglcjbogcaa
