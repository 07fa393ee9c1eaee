/-
  The walk of BeatWatches.
-/
import Derived.Test.YtmkkeglcjbogcaaThere
namespace Go.Proofs.Ytmkkeglcjbogcaa
open Go.RowKit
set_option linter.unusedVariables false

structure Plain (l : List (Nat × Wd)) : Prop where
  nd : (nodes l).Nodup
  rng : ∀ n ∈ nodes l, 1 ≤ n ∧ n ≤ 127
  ok : okL l
  okt : okT l
  len : l.length ≤ 1000
theorem Plain.tick {l : List (Nat × Wd)} (h : Plain l) : Plain (ticked l) := by
  refine ⟨?_, ?_, h.ok.ticked, h.okt.ticked, by simpa [ticked] using h.len⟩
  · rw [(nodes_ticked l).1]; exact h.nd
  · rw [(nodes_ticked l).1]; exact h.rng
theorem Plain.take {l : List (Nat × Wd)} (h : Plain l) (n : Int) (bs : List UInt8) : Plain (takeOf l n bs).1 := by
  refine ⟨?_, ?_, h.ok.take n bs, h.okt.take n bs, ?_⟩
  · rw [(nodes_take l n bs).1]; exact h.nd
  · rw [(nodes_take l n bs).1]; exact h.rng
  · have := congrArg List.length (nodes_take l n bs).2
    have := h.len
    simp at *
    omega

/-- The watcher, the document's, and the law's own list of those that are there. -/
structure Mid (N : Nat) (w : World) (b db sb tb : Nat) (vl : Value) (T : Int → Bool) (l m : List (Nat × Wd)) : Prop where
  one : WAt w b l
  two : DAt N w db sb vl (watchesOf m) (seens m)
  arr : w.heap[tb]? = some (.cells (cellsT T) 4 (0, 0))
  lo : ∀ q ∈ l, N ≤ q.1
  ltb : N ≤ tb

section
variable {N : Nat} {w w' : World} {b db sb tb : Nat} {vl : Value} {T T' : Int → Bool} {l l' m m' : List (Nat × Wd)}
theorem Mid.grow (h : Mid N w b db sb tb vl T l m) (hF : Frm (fun _ => False) w w') : Mid N w' b db sb tb vl T l m :=
  ⟨h.one.frm hF (fun h => h) (fun _ _ _ _ _ h => h), h.two.grow hF, hF.heap h.arr (fun h => h), h.lo, h.ltb⟩
theorem Mid.step1 (h : Mid N w b db sb tb vl T l m) (hW : WAt w' b l') (hF : Frm (fun k => k ∈ l.map (·.1)) w w') (hfst : l'.map (·.1) = l.map (·.1)) : Mid N w' b db sb tb vl T l' m := by
  have hlo : ∀ k, k ∈ l.map (·.1) → N ≤ k := fun k hk => by
    obtain ⟨q, hq, rfl⟩ := List.mem_map.1 hk
    exact h.lo q hq
  refine ⟨hW, h.two.frm hF (fun hm => ?_) (fun hm => ?_) (fun g hg hm => by have := hlo g hm; omega), hF.heap h.arr (fun hm => ?_), fun q hq => hlo _ ?_, h.ltb⟩
  · obtain ⟨cur, hc⟩ := h.one.mem _ hm; exact block_ne h.two.hd hc (by decide) rfl
  · obtain ⟨cur, hc⟩ := h.one.mem _ hm; exact block_ne h.two.hs hc (by decide) rfl
  · obtain ⟨cur, hc⟩ := h.one.mem _ hm; exact block_ne h.arr hc (by decide) rfl
  · rw [← hfst]; exact List.mem_map_of_mem hq
theorem Mid.step2 (h : Mid N w b db sb tb vl T l m) (hD : DAt N w' db sb vl (watchesOf m') (seens m')) (hF : Frm (One sb) w w') : Mid N w' b db sb tb vl T l m' := by
  refine ⟨h.one.frm hF (fun e => ?_) (fun k c t hk ht e => ?_), hD, hF.heap h.arr (fun e => ?_), h.lo, h.ltb⟩
  · obtain ⟨v, hO, _⟩ := h.one.row; exact block_ne hO h.two.hs (by decide) e
  · rcases ht with rfl | rfl <;> exact block_ne hk h.two.hs (by decide) e
  · exact block_ne h.arr h.two.hs (by decide) e
theorem Mid.step3 (h : Mid N w b db sb tb vl T l m) (hA : w'.heap[tb]? = some (.cells (cellsT T') 4 (0, 0))) (hF : Frm (One tb) w w') : Mid N w' b db sb tb vl T' l m := by
  refine ⟨h.one.frm hF (fun e => ?_) (fun k c t hk ht e => ?_), h.two.frm hF (fun e => ?_) (fun e => ?_) (fun g hg e => ?_), hA, h.lo, h.ltb⟩
  · obtain ⟨v, hO, _⟩ := h.one.row; exact block_ne hO h.arr (by decide) e
  · rcases ht with rfl | rfl <;> exact block_ne hk h.arr (by decide) e
  · exact block_ne h.two.hd h.arr (by decide) e
  · exact block_ne h.two.hs h.arr (by decide) e
  · have := h.ltb; have : g = tb := e; omega
end

theorem watchesOf_new {l : List (Nat × Wd)} {ws : List (Int × Int)} (h : l.map (·.2) = ws.map Wd.new) : watchesOf l = ws := by
  have := congrArg (List.map fun x : Wd => (x.node, x.ticks)) h
  simpa [watchesOf, Function.comp_def, Wd.new] using this
theorem seens_new {l : List (Nat × Wd)} {ws : List (Int × Int)} (h : l.map (·.2) = ws.map Wd.new) : seens l = List.replicate ws.length (0, 0, 0) := by
  have := congrArg (List.map seenOf) h
  simp only [List.map_map] at this
  unfold seens
  rw [show (l.map fun q => seenOf q.2) = l.map (seenOf ∘ fun x => x.2) from rfl, this]
  apply List.ext_getElem (by simp)
  intro i h1 h2
  simp [Wd.new, seenOf]
theorem theT_new {l : List (Nat × Wd)} {ws : List (Int × Int)} (h : l.map (·.2) = ws.map Wd.new) : theT l = fun _ => false := by
  funext m
  unfold theT
  rw [List.any_eq_false]
  intro q hq
  have : q.2 ∈ ws.map Wd.new := by rw [← h]; exact List.mem_map_of_mem hq
  obtain ⟨p, _, e⟩ := List.mem_map.1 this
  rw [← e]
  simp [Wd.new, seenOf]
theorem plain_new {l : List (Nat × Wd)} {ws : List (Int × Int)} (h : l.map (·.2) = ws.map Wd.new) (hc : chk [] ws = 0) : Plain l := by
  obtain ⟨z1, z2, _⟩ := chk_zero hc
  have hn : nodes l = ws.map (·.1) := by
    have := congrArg (List.map Wd.node) h
    simpa [nodes, Function.comp_def, Wd.new] using this
  have hel : ∀ q ∈ l, ∃ p ∈ ws, Wd.new p = q.2 := fun q hq => by
    have : q.2 ∈ ws.map Wd.new := by rw [← h]; exact List.mem_map_of_mem hq
    obtain ⟨p, hp, e⟩ := List.mem_map.1 this
    exact ⟨p, hp, e⟩
  refine ⟨by rw [hn]; exact z2, fun n hm => ?_, fun q hq => ?_, fun q hq hl => ?_, ?_⟩
  · rw [hn] at hm
    obtain ⟨p, hp, rfl⟩ := List.mem_map.1 hm
    have := z1 p hp
    omega
  · obtain ⟨p, hp, e⟩ := hel q hq
    have := z1 p hp
    rw [← e]
    exact ⟨this.2.2.1, this.2.2.2, Int.le_refl _, by simp only [Wd.new]; omega, fun h => by simp [Wd.new] at h⟩
  · obtain ⟨p, hp, e⟩ := hel q hq
    rw [← e] at hl
    simp [Wd.new] at hl
  · have h1 := nodup_127 z2 (fun n hn => by obtain ⟨p, hp, rfl⟩ := List.mem_map.1 hn; have := z1 p hp; omega)
    have h2 := congrArg List.length h
    simp at h1 h2
    omega

theorem info_seen : (Try.prog.info? 151).map (fun i => (i.zero, i.size, i.bytes)) = some (some (.agg #[.int .i64 0, .int .i64 0, .int .u64 0]), 3, 24) := by kernel_rfl
theorem made_seen (n : Nat) : madeCells #[.int .i64 0, .int .i64 0, .int .u64 0] (n * 3) = (cellsOf encS (List.replicate n ((0, 0, 0) : Seen))).toArray := by
  apply Array.ext_getElem?
  intro j
  by_cases hj : j < n * 3
  · have h1 := cellsOf_get encS_len (List.replicate n ((0, 0, 0) : Seen)) (j / 3) (j % 3) (by simp; omega) (by omega)
    rw [show j / 3 * 3 + j % 3 = j by omega] at h1
    simp only [List.getElem?_toArray, h1]
    simp [madeCells, hj, encS]
    have : j % 3 = 0 ∨ j % 3 = 1 ∨ j % 3 = 2 := by omega
    rcases this with e | e | e <;> simp [e]
  · have h2 := cellsOf_length encS_len (List.replicate n ((0, 0, 0) : Seen))
    simp at h2
    simp [madeCells, hj, h2]
theorem make_seen (n : Nat) (h : n ≤ 1000) (W : World) : Sem.run Try.prog (Instr.makeSlice 88 (.int .i64 n) (.int .i64 n)) W = .ok (.slice (some ⟨W.heap.size, 0, none⟩) n n) (W.alloc (.cells (cellsOf encS (List.replicate n ((0, 0, 0) : Seen))).toArray 151)) := by
  obtain ⟨i, hi, h0, h1, h2⟩ := info_parts info_seen
  have := run_make (P := Try.prog) W 88 151 i _ Try.underlying88 hi h0 .i64 .i64 n n (by omega) (Int.le_refl _) (by rw [h2]; omega) (by omega)
  rw [h1] at this
  simp only [Int.toNat_natCast] at this
  rw [← made_seen]
  exact this

theorem info_bool : (Try.prog.info? 4).map (fun i => (i.zero, i.size, i.bytes)) = some (some (.bool false), 1, 1) := by kernel_rfl
theorem made_there : madeCells #[.bool false] 128 = cellsT (fun _ => false) := by
  apply Array.ext_getElem?
  intro j
  by_cases hj : j < 128
  · rw [cellsT_get _ j hj]
    simp [madeCells, hj, Nat.mod_one]
  · simp [madeCells, cellsT, hj]
theorem make_there (W : World) : Sem.run Try.prog (Instr.makeSlice 91 (.int .i64 128) (.int .i64 128)) W = .ok (.slice (some ⟨W.heap.size, 0, none⟩) 128 128) (W.alloc (.cells (cellsT (fun _ => false)) 4)) := by
  obtain ⟨i, hi, h0, h1, h2⟩ := info_parts info_bool
  have := run_make (P := Try.prog) W 91 4 i _ Try.underlying91 hi h0 .i64 .i64 128 128 (by omega) (Int.le_refl _) (by rw [h2]; omega) (by omega)
  rw [h1] at this
  simp only [Nat.mul_one] at this
  rw [← made_there]
  exact this

/-- What a Take leaves, and whether it was one. -/
def TakeCut2 (wr : World) (b : Nat) (l : List (Nat × Wd)) (nd : Int) (bs : List UInt8) (sv is : Value) (wx : World) : Prop :=
  NewsAt wx sv (takeOf l nd bs).2.1 ∧ is = .bool (takeOf l nd bs).2.2 ∧ WAt wx b (takeOf l nd bs).1 ∧ Frm (fun k => k ∈ l.map (·.1)) wr wx

/-- What both branches of a round leave. -/
def RoundW (w : World) (b db sb tb : Nat) (vl : Value) (l : List (Nat × Wd)) (sa sb' is was : Value) (wx : World) : Prop :=
  ∃ (l' : List (Nat × Wd)) (ns : List News) (r : Bool), NewsAt wx sa ns ∧ NewsAt wx sb' ns ∧ is = .bool r ∧ was = .bool r ∧ Mid w.heap.size wx b db sb tb vl (theT l) l' l' ∧ Plain l' ∧ goodN (theT l) ns ∧ after (theT l) ns = theT l' ∧ ns.length ≤ 1000 ∧ Frm (fun _ => False) w wx

theorem take_short (l : List (Nat × Wd)) (n : Int) (bs : List UInt8) : (takeOf l n bs).2.1.length ≤ 1000 := by
  rcases takeOf_cases l n bs with ⟨_, e⟩ | ⟨j, hj, _, _, e⟩
  · rw [e]; simp
  · rw [e]; unfold takeWd Wd.take
    split
    · split
      · simp
      · split
        · simp only; split
          · simp
          · split <;> simp
        · simp
    · simp
theorem NewsAt.one {w w' : World} {v : Value} {l : List News} {sb : Nat} {c : Array Value} (h : NewsAt w v l) (hF : Frm (One sb) w w') (hs : w.heap[sb]? = some (.cells c 151 (0, 0))) : NewsAt w' v l :=
  h.frm hF (fun k hk cur hc => block_ne hc hs (by decide) hk)

set_option maxRecDepth 100000 in
set_option maxHeartbeats 2000000 in
theorem watches_any (v va : Value) (ws : List (Int × Int)) (acs : List Act') (w : World) (hv : SlAt encW 2 w v ws) (ha : SlAt encAct 3 w va acs) (hl1 : ws.length * 16 ≤ 140737488351232) (hl2 : acs.length * 40 ≤ 140737488351232)
    (hws : ∀ p ∈ ws, 0 ≤ p.2) (has : ∀ x ∈ acs, BytesAt w x.2.2.1 x.2.2.2 ∧ x.2.2.2.length ≤ 140737488351232) :
    Calls Try.prog 10 #[v, va] w (LawPost w) := by
  obtain ⟨Aw, cw, rfl, hcw⟩ := hv.cells encW_len (by decide)
  have HWS0 := Lib.hid hv.ws
  have HCW := Lib.hid hcw
  have HA := Lib.hid ha
  have HAS := Lib.hid has
  have HWS := Lib.hid hws
  have HCL := Lib.hid (cellsOf_length encW_len ws)
  have hone : ∀ u ∈ cellsOf encW ws, u.oneCell' = true := fun u hu => by
    obtain ⟨p, _, hp⟩ := List.mem_flatMap.1 hu
    simp [encW] at hp
    rcases hp with rfl | rfl <;> rfl
  have HONE := Lib.hid hone
  have hm1 : 0 + ws.length ≤ maxLen := by unfold maxLen; omega
  have hm2 : (0 + ws.length) * 16 ≤ 140737488355328 := by omega
  clear hv hcw ha has hws hone
  go_enter Try.func10, Try.ntmps10
  go_wp2_with (first | (at_builtin; refine wpl_app_src rfl el_Watch (.tmp 18) (.tmp 19) rfl (B := w.heap.size) (xs := []) (news := cellsOf encW ws) rfl rfl (row_new (by simp) rfl rfl (by decide) (by simp)) HCL.out ?c1 HONE.out hm1 hm2 (by simp) ?_; rotate_right; intro A1 cap1 w1 hown1 hfr1))
  case c1 => intro h0; obtain ⟨g, off, e, hc⟩ := HCW.out h0; exact ⟨g, off, e, fun j u hj => cell_alloc_old (hc j u hj)⟩
  have hf1 : Frm (fun _ => False) w w1 := by
    refine Frm.trans (b := w.alloc (.cells #[] 37)) ((Frm.refl _ _).alloc _) hfr1 (fun i hi h => ?_)
    cases h; exact absurd hi (Nat.lt_irrefl _)
  have hown1 : w1.ownsRow w.heap.size 37 2 (.slice A1 ws.length cap1) ws.length (cellsOf encW ws) := by simpa using hown1
  refine (new_any _ ws w1 (SlAt.of_row encW_len hown1).watches hl1 HWS.out).mono ?_
  have HF1 := Lib.hid hf1
  clear hown1 hfr1 hf1
  rintro e w2 ⟨hF2, hpost⟩
  have HF2 := Lib.hid (HF1.out.trans' hF2)
  clear hF2
  rcases hpost with ⟨hc, rfl⟩ | ⟨hc, b, l, rfl, hW, hl, hb, hnew⟩
  · have hne : (chk [] ws != 0) = true := by simpa using hc
    have hne2 : (chk [] ws == 0) = false := by simpa using hc
    clear hc
    go_wp2_with fail
    refine (check_any w.heap.size _ ws w2 (HWS0.out.frm HF2.out (fun _ _ h => h)) HWS.out).mono ?_
    rintro e w3 ⟨rfl, dn, rfl⟩
    generalize chk [] ws = code at *
    go_wp2_with fail
    refine (lives_any _).mono ?_
    rintro e w3 ⟨rfl, hF3⟩
    have HF3 := Lib.hid (((HF2.out.drewN dn).trans' hF3).below (Nat.le_refl _) (fun _ _ h => h))
    clear hF3
    go_wp2
    go_ret
    exact ⟨rfl, HF3.out⟩
  · unfold ptr
    have HW := Lib.hid hW
    have HL := Lib.hid hl
    have HN := Lib.hid hnew
    have HC := Lib.hid hc
    clear hW hl hnew hc
    go_wp2_with fail
    refine (check_any w.heap.size _ ws w2 (HWS0.out.frm HF2.out (fun _ _ h => h)) HWS.out).mono ?_
    rintro e w3 ⟨rfl, dn, rfl⟩
    rw [HC.out]
    have hP := plain_new HL.out HC.out
    have hll : l.length = ws.length := by have := congrArg List.length HL.out; simpa using this
    have hmk := make_seen ws.length (by have := hP.len; omega) (w2.drewN dn)
    simp only [World.heap_drewN] at hmk
    have hmk2 := make_there
    go_wp2_with fail
    clear hmk hmk2
    have hM : Mid w.heap.size ((((w2.alloc (.cells (cellsOf encS (List.replicate ws.length ((0, 0, 0) : Seen))).toArray 151)).alloc (.cells #[.slice Aw ws.length cw, .slice (some ⟨w2.heap.size, 0, none⟩) ws.length ws.length] 90)).alloc (.cells (cellsT fun _ => false) 4)).drewN dn) b (w2.heap.size + 1) w2.heap.size (w2.heap.size + 1 + 1) (.slice Aw ws.length cw) (theT l) l l := by
      have hsz := HF2.out.size
      refine ⟨HW.out.frm (S := fun _ => False) (by (repeat' (first | (with_reducible exact Frm.refl _ _) | (with_reducible assumption) | (with_reducible refine Frm.alloc ?_ _) | (with_reducible refine Frm.drew ?_) | (with_reducible refine Frm.drewN ?_ _) | (with_reducible refine Frm.set1 ?_ _) | (with_reducible refine Frm.setCell ?_ ?_ _) | (intro hlt; simp [World.size_alloc, One] at hlt ⊢; omega)))) (fun h => h) (fun _ _ _ _ _ h => h), ⟨?_, ?_, ?_, ?_, by omega, hsz⟩, ?_, fun q hq => Nat.le_trans HF1.out.size (HN.out q hq), by omega⟩
      · rw [seens_new HL.out, List.length_replicate]; exact heap_alloc_old (heap_new_at (by simp))
      · rw [seens_new HL.out]; exact heap_alloc_old (heap_alloc_old (heap_new _ _))
      · rw [watchesOf_new HL.out]; exact HWS0.out.frm (HF2.out.trans' (by (repeat' (first | (with_reducible exact Frm.refl _ _) | (with_reducible assumption) | (with_reducible refine Frm.alloc ?_ _) | (with_reducible refine Frm.drew ?_) | (with_reducible refine Frm.drewN ?_ _) | (with_reducible refine Frm.set1 ?_ _) | (with_reducible refine Frm.setCell ?_ ?_ _) | (intro hlt; simp [World.size_alloc, One] at hlt ⊢; omega))))) (fun _ _ h => h)
      · simp [seens, watchesOf]
      · rw [theT_new HL.out]; exact heap_new_at (by simp)
    have hF4 : Frm (fun _ => False) w ((((w2.alloc (.cells (cellsOf encS (List.replicate ws.length ((0, 0, 0) : Seen))).toArray 151)).alloc (.cells #[.slice Aw ws.length cw, .slice (some ⟨w2.heap.size, 0, none⟩) ws.length ws.length] 90)).alloc (.cells (cellsT fun _ => false) 4)).drewN dn) := HF2.out.trans' (by (repeat' (first | (with_reducible exact Frm.refl _ _) | (with_reducible assumption) | (with_reducible refine Frm.alloc ?_ _) | (with_reducible refine Frm.drew ?_) | (with_reducible refine Frm.drewN ?_ _) | (with_reducible refine Frm.set1 ?_ _) | (with_reducible refine Frm.setCell ?_ ?_ _) | (intro hlt; simp [World.size_alloc, One] at hlt ⊢; omega))))
    have HM := Lib.hid hM
    have HF4 := Lib.hid hF4
    have HP := Lib.hid hP
    have hs2 := HF2.out.size
    clear hM hF4 hP hll HL HN HC HW HCW HCL HONE
    generalize hdb : w2.heap.size + 1 + 1 = tb at *
    go_loopw [10, 11, 12, 13, 14, 15, 16] (fun i _ _ _ _ _ _ wr => ∃ (k : Nat) (l : List (Nat × Wd)), k ≤ acs.length ∧ i = .int .i64 k ∧ Mid w.heap.size wr b (w2.heap.size + 1) w2.heap.size tb (.slice Aw ws.length cw) (theT l) l l ∧ Plain l ∧ Frm (fun _ => False) w wr) (fun i _ _ _ _ _ _ _ => acs.length - (intOf i).toNat)
    case atStart => exact ⟨0, l, Nat.zero_le _, rfl, HM.out, HP.out, HF4.out⟩
    case round =>
      clear HM HF4 HP
      obtain ⟨k, l', hk, rfl, hM, hP, hF⟩ := hrel
      obtain ⟨Aa, ca, rfl, _, _, hca⟩ := HA.out
      have HM := Lib.hid hM
      have HP := Lib.hid hP
      have HF := Lib.hid hF
      clear hM hP hF
      by_cases hlt : k < acs.length
      · obtain ⟨ga, oa, rfl, hgl, hca⟩ := hca (by omega)
        have hck := hca k hlt
        have hbk := HAS.out _ (List.getElem_mem hlt)
        clear hca
        generalize acs[k] = x at *
        obtain ⟨take, nd, bv, bs⟩ := x
        have d0 : wr.cell? ⟨ga, oa + k * 3, none⟩ = some (.bool take) := HF.out.cell (hck 0 (by decide)) (fun h => h)
        have d1 : wr.cell? ⟨ga, oa + k * 3 + 1, none⟩ = some (.int .i64 nd) := HF.out.cell (hck 1 (by decide)) (fun h => h)
        have d2 : wr.cell? ⟨ga, oa + k * 3 + 2, none⟩ = some bv := HF.out.cell (hck 2 (by decide)) (fun h => h)
        obtain ⟨hb1, hb2⟩ := hbk
        have hb2 : bs.length ≤ 140737488351232 := hb2
        have hb1' : BytesAt w bv bs := hb1
        have HBY := Lib.hid hb1'
        obtain ⟨Ab, cb, rfl, _, _, hnews⟩ := hb1'.open_
        have hnews : Hid (0 < bs.length → NewsOf w Ab (bs.map encB)) := hnews
        have hlen1 := HP.out.len
        clear hck hb1 hb1'
        go_upto_if 56 with fail
        go_cut [11, 12, 13, 14] (fun sa sb' is was wx => RoundW w b (w2.heap.size + 1) w2.heap.size tb (.slice Aw ws.length cw) l' sa sb' is was wx)
        case first =>
          cases take with
          | false =>
            go_wp2_with fail
            refine (tick_any b l' _ HM.out.one hlen1 HP.out.ok.since).mono ?_
            rintro e wa ⟨va, rfl, hra, hWa, hFa⟩
            have HM1 := Lib.hid (HM.out.step1 hWa hFa (nodes_ticked l').2)
            have HRA : Hid (NewsAt wa va (tickNews l')) := ⟨_, hra⟩
            have HFA := Lib.hid (HF.out.trans hFa (fun i hi hm => by
              obtain ⟨r, hr, e⟩ := List.mem_map.1 hm
              have := HM.out.lo r hr
              omega))
            clear hra hWa hFa
            go_wp2_with fail
            refine (rtick_any w.heap.size _ _ _ l' _ HM1.out.two hlen1 HP.out.ok).mono ?_
            rintro e wb ⟨vb, rfl, hrb, hDb, hFb⟩
            rw [← watchesOf_ticked] at hDb
            have HM2 := Lib.hid (HM1.out.step2 hDb hFb)
            have HRB := Lib.hid (HRA.out.one hFb HM1.out.two.hs)
            have HFB := Lib.hid (HFA.out.trans hFb (fun i hi hm => by
              have : i = w2.heap.size := hm
              omega))
            obtain ⟨ta1, ta2⟩ := tick_all l' HP.out.nd HP.out.rng
            have htl := tickNews_length l'
            go_wp2_with fail
            go_meet
            exact ⟨ticked l', tickNews l', true, HRB.out, ⟨_, hrb⟩, rfl, rfl, HM2.out, HP.out.tick, ta1, ta2, by omega, HFB.out⟩
          | true =>
            have HNEWS : Hid (0 < bs.length → NewsOf wr Ab (bs.map encB)) := fun h0 => (hnews.out h0).grow HF.out
            have hrl : w.heap.size ≤ wr.heap.size := HF.out.size
            have HEMP := Lib.hid (empty_row wr 5 1 wr.heap.size (Nat.le_refl _))
            have k0 : (0 : Int) ≤ (k : Int) := Int.natCast_nonneg _
            have k1 : (k : Int) < (acs.length : Int) := by omega
            have gl1 : ga < wr.heap.size := by omega
            have gl2 : ga < wr.heap.size + 1 := by omega
            have hm3 : bs.length ≤ maxLen := by unfold maxLen; omega
            have hm4 : bs.length * 1 ≤ 140737488355328 := by omega
            have HONEB := Lib.hid (oneB bs)
            have HLEN : Hid ((bs.map encB).length = bs.length * 1) := by unfold Hid; simp
            clear hnews
            go_upto_region 15 with fail
            go_cut [11, 13] (fun sv is wx => TakeCut2 wr b l' nd bs sv is wx)
            case first =>
              go_region_law (first | (refine step_clone (by rfl) el_u8 _ _ (by rfl) (by rfl) (by rfl) (B := wr.heap.size) (news := bs.map encB) (Frm.row (S := fun _ => False) (by (repeat' (first | (with_reducible exact Frm.refl _ _) | (with_reducible assumption) | (with_reducible refine Frm.alloc ?_ _) | (with_reducible refine Frm.drew ?_) | (with_reducible refine Frm.drewN ?_ _) | (with_reducible refine Frm.set1 ?_ _) | (with_reducible refine Frm.setCell ?_ ?_ _) | (intro hlt; simp [World.size_alloc, One] at hlt ⊢; omega)))) HEMP.out (fun _ _ h => h)) HLEN.out (fun h0 => (HNEWS.out h0).grow (by (repeat' (first | (with_reducible exact Frm.refl _ _) | (with_reducible assumption) | (with_reducible refine Frm.alloc ?_ _) | (with_reducible refine Frm.drew ?_) | (with_reducible refine Frm.drewN ?_ _) | (with_reducible refine Frm.set1 ?_ _) | (with_reducible refine Frm.setCell ?_ ?_ _) | (intro hlt; simp [World.size_alloc, One] at hlt ⊢; omega))))) HONEB.out hm3 hm4 (by simp) ?_; intro A3 cap3 w3 hown3 hfr3; have hF3 : Frm (fun _ => False) wr w3 := (Frm.trans (b := _) (by (repeat' (first | (with_reducible exact Frm.refl _ _) | (with_reducible assumption) | (with_reducible refine Frm.alloc ?_ _) | (with_reducible refine Frm.drew ?_) | (with_reducible refine Frm.drewN ?_ _) | (with_reducible refine Frm.set1 ?_ _) | (with_reducible refine Frm.setCell ?_ ?_ _) | (intro hlt; simp [World.size_alloc, One] at hlt ⊢; omega)))) hfr3 (fun i hi h => by cases h; exact absurd hi (Nat.lt_irrefl _))); have hB3 : BytesAt w3 (.slice A3 bs.length cap3) bs := (.of_row hown3); have d13 : w3.cell? ⟨ga, oa + k * 3 + 1, none⟩ = some (.int .i64 nd) := (hF3.cell d1 (fun h => h)); clear hown3 hfr3) | (refine step_call 20 (by rfl) (by rfl) Try.func20 (by rfl) (by rfl) (by rfl) ((take_any b l' nd _ bs _ (HM.out.one.frm hF3 (fun h => h) (fun _ _ _ _ _ h => h)) hB3).mono ?_); rintro e w4 ⟨v4, rfl, hr4, hW4, hF4⟩; refine CallK.ret ?_))
              all_goals (go_wp2_with fail; go_meet; exact ⟨⟨_, hr4⟩, rfl, hW4, Frm.trans (T := fun k => k ∈ l'.map (·.1)) (hF3.mono (fun _ _ h => h.elim)) hF4 (fun _ _ h => h)⟩)
            case rest =>
              obtain ⟨hna, rfl, hWa, hFa⟩ := hcut
              have hps : ∀ i, i ∈ l'.map (·.1) → w.heap.size ≤ i := fun i hm => by
                obtain ⟨s, hs, e⟩ := List.mem_map.1 hm
                have := HM.out.lo s hs
                omega
              have e1 : wc.cell? ⟨ga, oa + k * 3 + 1, none⟩ = some (.int .i64 nd) := hFa.cell d1 (fun hm => by have : w.heap.size ≤ ga := hps _ hm; omega)
              have e2 : wc.cell? ⟨ga, oa + k * 3 + 2, none⟩ = some (.slice Ab bs.length cb) := hFa.cell d2 (fun hm => by have : w.heap.size ≤ ga := hps _ hm; omega)
              have HM1 := Lib.hid (HM.out.step1 hWa hFa (nodes_take l' nd bs).2)
              have hFwc := HF.out.trans hFa (fun i hi hm => by have := hps _ hm; omega)
              have HNA := Lib.hid hna
              have HFWC := Lib.hid hFwc
              have HBW : Hid (BytesAt wc (.slice Ab bs.length cb) bs) := HBY.out.grow hFwc
              clear hna hWa hFa hps hFwc
              go_wp2_with fail
              go_region_law (refine step_call 40 (by rfl) (by rfl) Try.func40 (by rfl) (by rfl) (by rfl) ((rtake_any w.heap.size _ _ _ _ l' nd bs _ (HM1.out.two.grow (by (repeat' (first | (with_reducible exact Frm.refl _ _) | (with_reducible assumption) | (with_reducible refine Frm.alloc ?_ _) | (with_reducible refine Frm.drew ?_) | (with_reducible refine Frm.drewN ?_ _) | (with_reducible refine Frm.set1 ?_ _) | (with_reducible refine Frm.setCell ?_ ?_ _) | (intro hlt; simp [World.size_alloc, One] at hlt ⊢; omega))))) (HBW.out.grow (by (repeat' (first | (with_reducible exact Frm.refl _ _) | (with_reducible assumption) | (with_reducible refine Frm.alloc ?_ _) | (with_reducible refine Frm.drew ?_) | (with_reducible refine Frm.drewN ?_ _) | (with_reducible refine Frm.set1 ?_ _) | (with_reducible refine Frm.setCell ?_ ?_ _) | (intro hlt; simp [World.size_alloc, One] at hlt ⊢; omega)))))).mono ?_); rintro e wb ⟨vb, rfl, hrb, hDb, hFb⟩; refine CallK.ret ?_)
              all_goals
                go_wp2_with fail
                go_meet
                rw [← watchesOf_take l' nd bs] at hDb
                have hFb : Frm (One w2.heap.size) wc wb := Frm.trans' (by (repeat' (first | (with_reducible exact Frm.refl _ _) | (with_reducible assumption) | (with_reducible refine Frm.alloc ?_ _) | (with_reducible refine Frm.drew ?_) | (with_reducible refine Frm.drewN ?_ _) | (with_reducible refine Frm.set1 ?_ _) | (with_reducible refine Frm.setCell ?_ ?_ _) | (intro hlt; simp [World.size_alloc, One] at hlt ⊢; omega)))) hFb
                obtain ⟨ta1, ta2⟩ := take_all l' nd bs HP.out.nd HP.out.rng
                exact ⟨_, _, _, HNA.out.one hFb HM1.out.two.hs, hrb, rfl, rfl, HM1.out.step2 hDb hFb, HP.out.take nd bs, ta1, ta2, take_short l' nd bs, HFWC.out.trans hFb (fun i hi hm => by have : i = w2.heap.size := hm; omega)⟩
        case rest =>
          obtain ⟨l2, ns, r, hna, hnb, rfl, rfl, hM2, hP2, hg, haf, hn1000, hF2⟩ := hcut
          have hna' := hna
          obtain ⟨Bn, hrn⟩ := hna'
          obtain ⟨An, cn, rfl, _, _, hcn⟩ := row_open hrn
          have HNA := Lib.hid hna
          have HNB := Lib.hid hnb
          have HM2 := Lib.hid hM2
          have HP2 := Lib.hid hP2
          have HG := Lib.hid hg
          have HAF := Lib.hid haf
          have HF2' := Lib.hid hF2
          have HCN := Lib.hid hcn
          have hrr : (r != r) = false := by cases r <;> rfl
          clear hna hnb hM2 hP2 hg haf hF2 hcn hrn
          go_wp2_with fail
          refine (same_any _ _ ns ns _ HNA.out HNB.out).mono ?_
          rintro e w6 ⟨rfl, dm, rfl⟩
          rw [show decide (ns = ns) = true by simp]
          have HM3 : Hid (Mid w.heap.size (wc.drewN dm) b (w2.heap.size + 1) w2.heap.size tb (.slice Aw ws.length cw) (theT l') l2 l2) := HM2.out.grow (by (repeat' (first | (with_reducible exact Frm.refl _ _) | (with_reducible assumption) | (with_reducible refine Frm.alloc ?_ _) | (with_reducible refine Frm.drew ?_) | (with_reducible refine Frm.drewN ?_ _) | (with_reducible refine Frm.set1 ?_ _) | (with_reducible refine Frm.setCell ?_ ?_ _) | (intro hlt; simp [World.size_alloc, One] at hlt ⊢; omega))))
          have HF3 : Hid (Frm (fun _ => False) w (wc.drewN dm)) := HF2'.out.trans' (by (repeat' (first | (with_reducible exact Frm.refl _ _) | (with_reducible assumption) | (with_reducible refine Frm.alloc ?_ _) | (with_reducible refine Frm.drew ?_) | (with_reducible refine Frm.drewN ?_ _) | (with_reducible refine Frm.set1 ?_ _) | (with_reducible refine Frm.setCell ?_ ?_ _) | (intro hlt; simp [World.size_alloc, One] at hlt ⊢; omega))))
          have HCN2 := HCN
          generalize hwd : wc.drewN dm = wd at *
          have hdc : ∀ a v, wc.cell? a = some v → wd.cell? a = some v := fun a v h => by rw [← hwd]; exact h
          have HDC := Lib.hid hdc
          have HHE : Hid (wd.heap = wc.heap) := by unfold Hid; rw [← hwd]; rfl
          clear hdc hwd HM2 HF2' HNA HNB HCN2
          go_wp2_with fail
          go_loopw [15, 16] (fun j _ wq => ∃ (i : Nat) (T : Int → Bool), i ≤ ns.length ∧ j = .int .i64 i ∧ wq.heap[tb]? = some (.cells (cellsT T) 4 (0, 0)) ∧ goodN T (ns.drop i) ∧ after T (ns.drop i) = theT l2 ∧ Frm (One tb) wd wq) (fun j _ _ => ns.length - (intOf j).toNat)
          case atStart => exact ⟨0, theT l', Nat.zero_le _, rfl, HM3.out.arr, HG.out, HAF.out, Frm.refl _ _⟩
          case round =>
            obtain ⟨i, T, hi, rfl, hA, hg, haf, hFq⟩ := hrel
            by_cases hin : i < ns.length
            · obtain ⟨gn, rfl, _, ⟨cur, hcur⟩, _, hcn⟩ := HCN.out (by omega)
              obtain ⟨x1, x2, x3⟩ := newsCells_get ns i hin
              have hdr : ns.drop i = ns[i] :: ns.drop (i + 1) := List.drop_eq_getElem_cons hin
              rw [hdr] at hg haf
              generalize ns[i] = u at *
              obtain ⟨u1, u2, u3⟩ := u
              rw [← hcn _ (by omega)] at x1 x2 x3
              have hgt : ¬ One tb gn := fun (e : gn = tb) => by
                have h2 : wd.heap[gn]? = some (.cells cur 48 (0, 0)) := by rw [HHE.out]; exact hcur
                exact block_ne h2 HM3.out.arr (by decide) e
              have f1 := hFq.cell (HDC.out _ _ x1) hgt
              have f2 := hFq.cell (HDC.out _ _ x2) hgt
              have f3 := hFq.cell (HDC.out _ _ x3) hgt
              obtain ⟨⟨hk1, hk2, hk3, hk4⟩, hg2⟩ := hg
              simp only at hk1 hk2 hk3 hk4
              obtain ⟨j, rfl⟩ := Int.eq_ofNat_of_zero_le hk3
              have hj : j < 128 := by omega
              have t0 : wr.cell? ⟨tb, j, none⟩ = some (.bool (T (j : Int))) := by rw [cell_at hA]; exact cellsT_get T j hj
              have hft := frees hA
              have hlt3 := lt_of_block hA
              have hlg : gn < wr.heap.size := World.block_lt_of_cell? wr _ f1
              have i0 : (0 : Int) ≤ (i : Int) := Int.natCast_nonneg _
              have i1 : (i : Int) < (ns.length : Int) := by omega
              have HA2 := Lib.hid hA
              have HG2 := Lib.hid hg2
              have HAF2 : Hid (after (thereStep T ((j : Int), u2, u3)) (ns.drop (i + 1)) = theT l2) := haf
              have HFQ := Lib.hid hFq
              have HK2 := Lib.hid hk2
              have HK1 := Lib.hid hk1
              clear hcn hcur x1 x2 x3 hg2 haf hFq hA hdr hk1 hk2
              by_cases e1 : u2 = 1
              · subst e1
                have hTj : T (j : Int) = false := by
                  cases h : T (j : Int)
                  · rfl
                  · exact absurd ⟨rfl, h⟩ HK1.out
                rw [hTj] at t0
                have HTS : Hid (thereStep T ((j : Int), 1, u3) = fun m => if m = (j : Int) then true else T m) := by unfold Hid; funext m; simp [thereStep]
                go_wp2_with fail
                go_roundw
                case rel =>
                  refine ⟨i + 1, _, by omega, by go_num, ?_, HG2.out, HAF2.out, HFQ.out.trans' (by (repeat' (first | (with_reducible exact Frm.refl _ _) | (with_reducible assumption) | (with_reducible refine Frm.alloc ?_ _) | (with_reducible refine Frm.drew ?_) | (with_reducible refine Frm.drewN ?_ _) | (with_reducible refine Frm.set1 ?_ _) | (with_reducible refine Frm.setCell ?_ ?_ _) | (intro hlt; simp [World.size_alloc, One] at hlt ⊢; omega))))⟩
                  rw [HTS.out]
                  exact heap_alloc_old (heap_set_at HA2.out (cellsT_set T j hj true))
                case measure => simp [intOf]; omega
              · have b1 : (u2 == 1) = false := by simpa using e1
                by_cases e3 : u2 = 3
                · subst e3
                  rw [HK2.out (.inl rfl)] at t0
                  have HTS : Hid (thereStep T ((j : Int), 3, u3) = fun m => if m = (j : Int) then false else T m) := by unfold Hid; funext m; simp [thereStep]
                  clear e1
                  go_wp2_with fail
                  go_roundw
                  case rel =>
                    refine ⟨i + 1, _, by omega, by go_num, ?_, HG2.out, HAF2.out, HFQ.out.trans' (by (repeat' (first | (with_reducible exact Frm.refl _ _) | (with_reducible assumption) | (with_reducible refine Frm.alloc ?_ _) | (with_reducible refine Frm.drew ?_) | (with_reducible refine Frm.drewN ?_ _) | (with_reducible refine Frm.set1 ?_ _) | (with_reducible refine Frm.setCell ?_ ?_ _) | (intro hlt; simp [World.size_alloc, One] at hlt ⊢; omega))))⟩
                    rw [HTS.out]
                    exact heap_alloc_old (heap_set_at HA2.out (cellsT_set T j hj false))
                  case measure => simp [intOf]; omega
                · have b3 : (u2 == 3) = false := by simpa using e3
                  by_cases e2 : u2 = 2
                  · subst e2
                    rw [HK2.out (.inr rfl)] at t0
                    have HTS : Hid (thereStep T ((j : Int), 2, u3) = fun m => if m = (j : Int) then true else T m) := by unfold Hid; funext m; simp [thereStep]
                    clear e1 e3
                    go_wp2_with fail
                    go_roundw
                    case rel =>
                      refine ⟨i + 1, _, by omega, by go_num, ?_, HG2.out, HAF2.out, HFQ.out.trans' (by (repeat' (first | (with_reducible exact Frm.refl _ _) | (with_reducible assumption) | (with_reducible refine Frm.alloc ?_ _) | (with_reducible refine Frm.drew ?_) | (with_reducible refine Frm.drewN ?_ _) | (with_reducible refine Frm.set1 ?_ _) | (with_reducible refine Frm.setCell ?_ ?_ _) | (intro hlt; simp [World.size_alloc, One] at hlt ⊢; omega))))⟩
                      rw [HTS.out]
                      exact heap_alloc_old (heap_set_at HA2.out (cellsT_set T j hj true))
                    case measure => simp [intOf]; omega
                  · have b2 : (u2 == 2) = false := by simpa using e2
                    have HTS : Hid (thereStep T ((j : Int), u2, u3) = fun m => if m = (j : Int) then false else T m) := by unfold Hid; funext m; simp [thereStep, e1, e2]
                    clear e1 e2 e3
                    generalize T (j : Int) = tj at t0
                    go_wp2_with fail
                    go_roundw
                    case rel =>
                      refine ⟨i + 1, _, by omega, by go_num, ?_, HG2.out, HAF2.out, HFQ.out.trans' (by (repeat' (first | (with_reducible exact Frm.refl _ _) | (with_reducible assumption) | (with_reducible refine Frm.alloc ?_ _) | (with_reducible refine Frm.drew ?_) | (with_reducible refine Frm.drewN ?_ _) | (with_reducible refine Frm.set1 ?_ _) | (with_reducible refine Frm.setCell ?_ ?_ _) | (intro hlt; simp [World.size_alloc, One] at hlt ⊢; omega))))⟩
                      rw [HTS.out]
                      exact heap_alloc_old (heap_set_at HA2.out (cellsT_set T j hj false))
                    case measure => simp [intOf]; omega
            · have hd0 : ns.drop i = [] := List.drop_eq_nil_of_le (by omega)
              rw [hd0] at haf
              have haf : T = theT l2 := haf
              subst haf
              have HM4 := Lib.hid (HM3.out.step3 hA hFq)
              have HF4 := Lib.hid (HF3.out.trans hFq (fun i hi (h : i = tb) => by have := HM3.out.ltb; omega))
              clear hA hg haf hFq hd0
              go_wp2_with fail
              go_roundw
              case rel => exact ⟨k + 1, l2, by omega, by go_num, HM4.out, HP2.out, HF4.out⟩
              case measure => simp [intOf]; omega
      · clear hca
        go_wp2_with fail
        refine (tells_any w.heap.size b _ _ _ l' wr ⟨HM.out.one, HM.out.two⟩ HP.out.nd HP.out.rng HP.out.okt HP.out.len).mono ?_
        rintro e w7 ⟨rfl, hF7⟩
        have HF7 := Lib.hid (HF.out.trans' hF7)
        clear hF7
        go_wp2_with fail
        refine (lives_any _).mono ?_
        rintro e w8 ⟨rfl, hF8⟩
        have HF8 := Lib.hid (HF7.out.trans' hF8)
        clear hF8
        go_wp2_with fail
        go_ret
        exact ⟨rfl, HF8.out.below (Nat.le_refl _) (fun _ _ h => h)⟩

end Go.Proofs.Ytmkkeglcjbogcaa
