/-
  The walk of BeatApart.
-/
import Derived.Test.YtmkkeglcjbogcaaApartP
import Derived.Test.YtmkkeglcjbogcaaInTime
import Derived.Test.YtmkkeglcjbogcaaCore3
import Derived.Deep.RegionLaw
import Derived.Deep.DeepCutAuto
namespace Go.Proofs.Ytmkkeglcjbogcaa
open Go.RowKit
set_option linter.unusedVariables false

def encW (p : Int × Int) : List Value := [.int .i64 p.1, .int .u64 p.2]
theorem encW_len (p : Int × Int) : (encW p).length = 2 := rfl
theorem SlAt.watches {W : World} {v : Value} {ws : List (Int × Int)} (h : SlAt encW 2 W v ws) : WatchesAt W v ws := by
  obtain ⟨A, cap, rfl, _, _, hc⟩ := h
  refine ⟨A, cap, rfl, fun h0 => ?_⟩
  obtain ⟨g, off, rfl, hg, hc⟩ := hc h0
  exact ⟨g, off, rfl, hg, fun i hi => ⟨hc i hi 0 (by decide), hc i hi 1 (by decide)⟩⟩
theorem el_Watch : El Try.prog 38 37 2 16 := El.of Try.underlying38 (z := .agg #[.int .i64 0, .int .u64 0]) (by kernel_rfl) rfl (by decide)
theorem el_u8 : El Try.prog 22 5 1 1 := El.of Try.underlying22 (z := .int .u8 0) (by kernel_rfl) rfl (by decide)

/-- An act: Take, Node, B (the slice's value, its bytes). -/
abbrev Act' := Bool × Int × Value × List UInt8
def encAct (x : Act') : List Value := [.bool x.1, .int .i64 x.2.1, x.2.2.1]

theorem chk_zero {seen : List Int} {ws : List (Int × Int)} (h : chk seen ws = 0) : (∀ p ∈ ws, 1 ≤ p.1 ∧ p.1 ≤ 127 ∧ 1 ≤ p.2 ∧ p.2 ≤ 4294967296) ∧ (ws.map (·.1)).Nodup ∧ ∀ n ∈ ws.map (·.1), n ∉ seen := by
  induction ws generalizing seen with
  | nil => simp
  | cons p r ih =>
    obtain ⟨n, t⟩ := p
    rw [chk] at h
    split at h
    · cases h
    · split at h
      · cases h
      · rename_i h1 h2
        obtain ⟨i1, i2, i3⟩ := ih h
        refine ⟨fun q hq => ?_, ?_, fun m hm => ?_⟩
        · rcases List.mem_cons.1 hq with rfl | hq
          · simp only; omega
          · exact i1 q hq
        · simp only [List.map_cons, List.nodup_cons]
          exact ⟨fun hm => i3 n hm (by simp), i2⟩
        · simp only [List.map_cons, List.mem_cons] at hm
          rcases hm with rfl | hm
          · exact h2
          · exact fun hs => i3 m hm (by simp [hs])

/-- What a watcher's walk keeps: blocks of nodes alone are written. -/
theorem WAt.frm2 {S : Nat → Prop} {w w' : World} {b : Nat} {l : List (Nat × Wd)} (h : WAt w b l) (hf : Frm S w w') (hS : ∀ k, S k → ∃ cur, w.heap[k]? = some (.cells cur 135 (0, 0))) (hl : ∀ q ∈ l, ¬ S q.1) : WAt w' b l := by
  obtain ⟨v, hO, hr⟩ := h.row
  refine ⟨⟨v, hf.heap hO (fun hs => ?_), hf.row hr fun j hj hs => ?_⟩, fun i hi => hf.heap (h.el i hi) (hl _ (List.getElem_mem hi)), h.nd⟩
  · obtain ⟨cur, hc⟩ := hS _ hs
    exact block_ne hO hc (by decide) rfl
  · obtain ⟨_, cur, hc⟩ := row_block hr hj
    obtain ⟨cur2, hc2⟩ := hS _ hs
    exact block_ne hc hc2 (by decide) rfl
theorem WAt.mem {w : World} {b : Nat} {l : List (Nat × Wd)} (h : WAt w b l) : ∀ k, k ∈ l.map (·.1) → ∃ cur, w.heap[k]? = some (.cells cur 135 (0, 0)) := fun k hk => by
  obtain ⟨q, hq, rfl⟩ := List.mem_map.1 hk
  obtain ⟨j, hj, rfl⟩ := List.getElem_of_mem hq
  exact ⟨_, h.el j hj⟩

/-- Two watchers, one of all, one of a node of it, that lie apart. -/
structure Two (w : World) (b c N : Nat) (l : List (Nat × Wd)) (q : Nat) (y z : Wd) : Prop where
  all : WAt w b l
  one : WAt w c [(q, z)]
  part : Part l y
  ok : okL l
  lo : ∀ r ∈ l, r.1 < N
  hi : N ≤ q

theorem Two.step_all {w w' : World} {b c N q : Nat} {l l' : List (Nat × Wd)} {y y' z : Wd} (h : Two w b c N l q y z) (hW : WAt w' b l') (hF : Frm (fun k => k ∈ l.map (·.1)) w w') (hfst : l'.map (·.1) = l.map (·.1)) (hp : Part l' y') (hok : okL l') : Two w' b c N l' q y' z := by
  refine ⟨hW, h.one.frm2 hF h.all.mem (fun r hr hm => ?_), hp, hok, fun r hr => ?_, h.hi⟩
  · simp at hr
    subst hr
    obtain ⟨r, hr, e⟩ := List.mem_map.1 hm
    have := h.lo r hr
    have := h.hi
    simp at e
    omega
  · have : r.1 ∈ l.map (·.1) := by rw [← hfst]; exact List.mem_map_of_mem hr
    obtain ⟨s, hs, e⟩ := List.mem_map.1 this
    have := h.lo s hs
    omega
theorem Two.step_one {w w' : World} {b c N q : Nat} {l : List (Nat × Wd)} {y z z' : Wd} (h : Two w b c N l q y z) (hW : WAt w' c [(q, z')]) (hF : Frm (fun k => k ∈ [(q, z)].map (·.1)) w w') : Two w' b c N l q y z' := by
  refine ⟨h.all.frm2 hF h.one.mem (fun r hr hm => ?_), hW, h.part, h.ok, h.lo, h.hi⟩
  simp at hm
  have := h.lo r hr
  have := h.hi
  omega
theorem Two.grow {w w' : World} {b c N q : Nat} {l : List (Nat × Wd)} {y z : Wd} (h : Two w b c N l q y z) (hF : Frm (fun _ => False) w w') : Two w' b c N l q y z :=
  ⟨h.all.frm hF (fun h => h) (fun _ _ _ _ _ h => h), h.one.frm hF (fun h => h) (fun _ _ _ _ _ h => h), h.part, h.ok, h.lo, h.hi⟩

theorem one_take (q : Nat) (y : Wd) (bs : List UInt8) : takeOf [(q, y)] y.node bs = ([(q, (takeWd y bs).1)], (takeWd y bs).2) := by
  rcases takeOf_cases [(q, y)] y.node bs with ⟨h, _⟩ | ⟨k, hk, _, h1, h2⟩
  · simp [nodes] at h
  · obtain rfl : k = 0 := by simp at hk; omega
    simp at h1 h2
    rw [Prod.ext_iff]
    exact ⟨h1, h2⟩
theorem one_tick (q : Nat) (y : Wd) : ticked [(q, y)] = [(q, y.tick.1)] ∧ tickNews [(q, y)] = y.tick.2 := by simp [ticked, tickNews]
theorem mine_self {ns : List News} {n : Int} (h : ∀ a ∈ ns, a.1 = n) : mine ns n = ns := by
  unfold mine
  rw [List.filter_eq_self]
  intro a ha
  simpa using h a ha
theorem NewsAt.frm {S : Nat → Prop} {w w' : World} {v : Value} {l : List News} (h : NewsAt w v l) (hF : Frm S w w') (hS : ∀ k, S k → ∀ cur, w.heap[k]? ≠ some (.cells cur 48 (0, 0))) : NewsAt w' v l := by
  obtain ⟨B, h⟩ := h
  exact ⟨B, hF.row h fun k hk hs => by
    obtain ⟨_, cur, hc⟩ := row_block h hk
    exact hS k hs cur hc⟩
theorem NewsAt.grow {w w' : World} {v : Value} {l : List News} (h : NewsAt w v l) (hF : Frm (fun _ => False) w w') : NewsAt w' v l := h.frm hF (fun _ h => h.elim)

theorem nodup_127 {ns : List Int} (h : ns.Nodup) (hr : ∀ n ∈ ns, 1 ≤ n ∧ n ≤ 127) : ns.length ≤ 127 := by
  have := h.length_le_of_subset (l₂ := (List.range 127).map fun (i : Nat) => (i : Int) + 1) (fun n hn => by
    have := hr n hn
    rw [List.mem_map]
    exact ⟨(n - 1).toNat, List.mem_range.2 (by omega), by omega⟩)
  simpa using this

/-- What a Take leaves. -/
def TakeCut (wr : World) (b : Nat) (l : List (Nat × Wd)) (nd : Int) (bs : List UInt8) (sv : Value) (wx : World) : Prop :=
  NewsAt wx sv (takeOf l nd bs).2.1 ∧ WAt wx b (takeOf l nd bs).1 ∧ Frm (fun k => k ∈ l.map (·.1)) wr wx

/-- What both branches of a round leave. -/
def RoundCut (w w2 : World) (b c q : Nat) (n t : Int) (sa sb : Value) (wx : World) : Prop :=
  ∃ (l : List (Nat × Wd)) (y : Wd) (na nb : List News), Two wx b c (w2.heap.size + 1) l q y y ∧ y.node = n ∧ NewsAt wx sa na ∧ NewsAt wx sb nb ∧ mine na n = nb ∧ Frm (fun _ => False) w wx ∧ (∀ r ∈ l, w.heap.size ≤ r.1) ∧
    wx.heap[w2.heap.size]? = some (.cells #[.int .i64 n, .int .u64 t] 37 (0, 0)) ∧ na.length ≤ 1000 ∧ l.length ≤ 1000

set_option maxRecDepth 100000 in
set_option maxHeartbeats 2000000 in
theorem apart_any (v va : Value) (ws : List (Int × Int)) (acs : List Act') (of : Int) (w : World) (hv : SlAt encW 2 w v ws) (ha : SlAt encAct 3 w va acs) (hl1 : ws.length * 16 ≤ 140737488351232) (hl2 : acs.length * 40 ≤ 140737488351232)
    (hws : ∀ p ∈ ws, 0 ≤ p.2) (has : ∀ x ∈ acs, BytesAt w x.2.2.1 x.2.2.2 ∧ x.2.2.2.length ≤ 140737488351232) (o0 : 0 ≤ of) (o1 : of ≤ 255) :
    Calls Try.prog 5 #[v, va, .int .u8 of] w (LawPost w) := by
  obtain ⟨Aw, cw, rfl, hcw⟩ := hv.cells encW_len (by decide)
  have HV := Lib.hid hv
  have HCW := Lib.hid hcw
  have HA := Lib.hid ha
  have HAS := Lib.hid has
  have HWS := Lib.hid hws
  have hcl : (cellsOf encW ws).length = ws.length * 2 := cellsOf_length encW_len ws
  have HCL := Lib.hid hcl
  have hone : ∀ u ∈ cellsOf encW ws, u.oneCell' = true := fun u hu => by
    obtain ⟨p, _, hp⟩ := List.mem_flatMap.1 hu
    simp [encW] at hp
    rcases hp with rfl | rfl <;> rfl
  have HONE := Lib.hid hone
  have hm1 : 0 + ws.length ≤ maxLen := by unfold maxLen; omega
  have hm2 : (0 + ws.length) * 16 ≤ 140737488355328 := by omega
  clear hv hcw ha has hws hcl hone
  go_enter Try.func5, Try.ntmps5
  go_wp2_with (first | (at_builtin; refine wpl_app_src rfl el_Watch (.tmp 18) (.tmp 19) rfl (B := w.heap.size) (xs := []) (news := cellsOf encW ws) rfl rfl (row_new (by simp) rfl rfl (by decide) (by simp)) HCL.out ?c1 HONE.out hm1 hm2 (by simp) ?_; rotate_right; intro A1 cap1 w1 hown1 hfr1))
  case c1 => intro h0; obtain ⟨g, off, e, hc⟩ := HCW.out h0; exact ⟨g, off, e, fun j u hj => cell_alloc_old (hc j u hj)⟩
  have hf1 : Frm (fun _ => False) w w1 := by
    refine Frm.trans (b := w.alloc (.cells #[] 37)) ((Frm.refl _ _).alloc _) hfr1 (fun i hi h => ?_)
    cases h; exact absurd hi (Nat.lt_irrefl _)
  have hown1 : w1.ownsRow w.heap.size 37 2 (.slice A1 ws.length cap1) ws.length (cellsOf encW ws) := by simpa using hown1
  refine (new_any _ ws w1 (SlAt.of_row encW_len hown1).watches hl1 HWS.out).mono ?_
  have HF1 := Lib.hid hf1
  clear hown1 hfr1 hf1
  rintro e w2 ⟨hF2, hpost⟩
  have HF2 := Lib.hid (HF1.out.trans' hF2)
  clear hF2
  rcases hpost with ⟨hc, rfl⟩ | ⟨hc, b, l, rfl, hW, hl, hb, hnew⟩
  · have hne : (chk [] ws != 0) = true := by simpa using hc
    have hne2 : (chk [] ws == 0) = false := by simpa using hc
    clear hc
    generalize chk [] ws = code at *
    go_wp2_with fail
    refine (lives_any _).mono ?_
    rintro e w3 ⟨rfl, hF3⟩
    have HF3 := Lib.hid ((HF2.out.trans' hF3).below (Nat.le_refl _) (fun _ _ h => h))
    clear hF3
    go_wp2
    go_ret
    exact ⟨rfl, HF3.out⟩
  · have HW := Lib.hid hW
    have HL := Lib.hid hl
    have HN := Lib.hid hnew
    have HC := Lib.hid hc
    clear hW hl hnew hc
    unfold ptr
    by_cases h0 : 0 < ws.length
    · have hz : ((ws.length : Int) == 0) = false := beq_eq_false_iff_ne.2 (by omega)
      obtain ⟨g, off, rfl, hcg⟩ : ∃ g off, Aw = some ⟨g, off, none⟩ ∧ ∀ i (h : i < ws.length) j, j < 2 → w.cell? ⟨g, off + i * 2 + j, none⟩ = (encW ws[i])[j]? := by
        obtain ⟨A2, cw2, hA2, _, _, hcg⟩ := HV.out
        cases hA2
        obtain ⟨g, off, hg, _, hcg⟩ := hcg h0
        exact ⟨g, off, hg, hcg⟩
      obtain ⟨r, hr⟩ : ∃ r : Nat, r = (of % (ws.length : Int)).toNat := ⟨_, rfl⟩
      have hr0 : 0 ≤ of % (ws.length : Int) := Int.emod_nonneg _ (by omega)
      have hr1 : of % (ws.length : Int) < ws.length := Int.emod_lt_of_pos _ (by omega)
      have hr2 : of % (ws.length : Int) = (r : Int) := by omega
      have hrl : r < ws.length := by omega
      have c1 : w2.cell? ⟨g, off + r * 2, none⟩ = some (.int .i64 ws[r].1) := HF2.out.cell (hcg r hrl 0 (by decide)) (fun h => h)
      have c2 : w2.cell? ⟨g, off + r * 2 + 1, none⟩ = some (.int .u64 ws[r].2) := HF2.out.cell (hcg r hrl 1 (by decide)) (fun h => h)
      obtain ⟨z1, z2, _⟩ := chk_zero HC.out
      have hpr := z1 _ (List.getElem_mem hrl)
      have hll : l.length = ws.length := by have := congrArg List.length HL.out; simpa using this
      have hlr : (l[r]'(by omega)).2 = Wd.new ws[r] := by
        have : (l.map (·.2))[r]? = (ws.map Wd.new)[r]? := by rw [HL.out]
        rw [List.getElem?_eq_getElem (by simp; omega), List.getElem?_eq_getElem (by simpa using hrl)] at this
        simpa using this
      have hnd : (nodes l).Nodup := by
        have : nodes l = ws.map (·.1) := by
          have := congrArg (List.map Wd.node) HL.out
          simpa [nodes, Function.comp_def, Wd.new] using this
        rw [this]; exact z2
      have hok : okL l := fun q hq => by
        have : q.2 ∈ ws.map Wd.new := by rw [← HL.out]; exact List.mem_map_of_mem hq
        obtain ⟨p, hp, e⟩ := List.mem_map.1 this
        have := z1 p hp
        rw [← e]
        exact ⟨this.2.2.1, this.2.2.2, Int.le_refl _, by simp only [Wd.new]; omega, fun h => by simp [Wd.new] at h⟩
      have hpart : Part l (Wd.new ws[r]) := ⟨hnd, r, by omega, hlr⟩
      obtain ⟨n, t, hnt⟩ : ∃ n t, ws[r] = (n, t) := ⟨_, _, rfl⟩
      rw [hnt] at c1 c2 hpr hpart
      simp only at c1 c2 hpr
      have HOK := Lib.hid hok
      have HP := Lib.hid hpart
      have hl127 : l.length ≤ 1000 := by
        have := nodup_127 z2 (fun n hn => by obtain ⟨p, hp, rfl⟩ := List.mem_map.1 hn; have := z1 p hp; omega)
        simp at this
        omega
      clear hr hr0 hr1 hcg z1 z2 hll hlr hnd hok hpart hnt
      go_wp2_with fail
      refine (new_any _ [(n, t)] _ (one_watch n t (by simp)) (by simp) (by simp; omega)).mono ?_
      rintro e w3 ⟨hF3, (⟨hc, _⟩ | ⟨hc, c, l3, rfl, hW3, hl3, hc3, hnew3⟩)⟩
      · exact absurd (chk_one n t hpr.1 hpr.2.1 hpr.2.2.1 hpr.2.2.2) hc
      obtain ⟨q, rfl⟩ : ∃ q, l3 = [(q, Wd.new (n, t))] := by
        match l3, hl3 with
        | [(p, x)], h => exact ⟨p, by simpa using h⟩
      have hq := hnew3 (q, Wd.new (n, t)) (by simp)
      simp at hq hc3
      have hF23 : Frm (fun _ => False) w2 w3 := Frm.trans' (by (repeat' (first | (with_reducible exact Frm.refl _ _) | (with_reducible assumption) | (with_reducible refine Frm.alloc ?_ _) | (with_reducible refine Frm.drew ?_) | (with_reducible refine Frm.drewN ?_ _) | (with_reducible refine Frm.set1 ?_ _) | (with_reducible refine Frm.setCell ?_ ?_ _) | (intro hlt; simp [World.size_alloc, One] at hlt ⊢; omega)))) hF3
      have hT : Two w3 b c (w2.heap.size + 1) l q (Wd.new (n, t)) (Wd.new (n, t)) := ⟨HW.out.frm hF23 (fun h => h) (fun _ _ _ _ _ h => h), hW3, HP.out, HOK.out, fun q hq => by
        obtain ⟨j, hj, rfl⟩ := List.getElem_of_mem hq
        have := lt_of_block (HW.out.el j hj)
        omega, by omega⟩
      have cx : w3.heap[w2.heap.size]? = some (.cells #[.int .i64 n, .int .u64 t] 37 (0, 0)) := hF3.heap (heap_alloc_old (heap_new _ _)) (fun h => h)
      have CX := Lib.hid cx
      have HT := Lib.hid hT
      have HF3 := Lib.hid (HF2.out.trans' hF23)
      have hs2 := HF2.out.size
      have hs3 := hF3.size
      simp at hs3
      clear hF3 hF23 hW3 hl3 hnew3 hc hT c1 c2 cx
      unfold ptr
      have hlow : ∀ r ∈ l, w.heap.size ≤ r.1 := fun r hr => Nat.le_trans HF1.out.size (HN.out r hr)
      have HL127 := Lib.hid hl127
      have HLO := Lib.hid hlow
      clear hlow hl127
      go_wp2_with fail
      go_loopw [12, 13, 14, 15, 16] (fun i _ _ _ _ wr => ∃ (k : Nat) (l' : List (Nat × Wd)) (y : Wd), k ≤ acs.length ∧ i = .int .i64 k ∧ Two wr b c (w2.heap.size + 1) l' q y y ∧ y.node = n ∧ Frm (fun _ => False) w wr ∧ (∀ r ∈ l', w.heap.size ≤ r.1) ∧
        wr.heap[w2.heap.size]? = some (.cells #[.int .i64 n, .int .u64 t] 37 (0, 0)) ∧ l'.length ≤ 1000) (fun i _ _ _ _ _ => acs.length - (intOf i).toNat)
      case atStart => exact ⟨0, l, Wd.new (n, t), Nat.zero_le _, rfl, HT.out, rfl, HF3.out, HLO.out, CX.out, HL127.out⟩
      case round =>
        clear HL127 HLO CX HF3 HT HOK HP HW HL HN
        obtain ⟨k, l', y, hk, rfl, hT, hyn, hF, hlo, hcx, hl1⟩ := hrel
        obtain ⟨Aa, ca, rfl, _, _, hca⟩ := HA.out
        by_cases hlt : k < acs.length
        · obtain ⟨ga, oa, rfl, hgl, hca⟩ := hca (by omega)
          have hck := hca k hlt
          have hbk := HAS.out _ (List.getElem_mem hlt)
          clear hca
          generalize acs[k] = x at *
          obtain ⟨take, nd, bv, bs⟩ := x
          have d0 : wr.cell? ⟨ga, oa + k * 3, none⟩ = some (.bool take) := hF.cell (hck 0 (by decide)) (fun h => h)
          have d1 : wr.cell? ⟨ga, oa + k * 3 + 1, none⟩ = some (.int .i64 nd) := hF.cell (hck 1 (by decide)) (fun h => h)
          have d2 : wr.cell? ⟨ga, oa + k * 3 + 2, none⟩ = some bv := hF.cell (hck 2 (by decide)) (fun h => h)
          have HT := Lib.hid hT
          have HYN := Lib.hid hyn
          have HF := Lib.hid hF
          have HLO := Lib.hid hlo
          have HCX := Lib.hid hcx
          obtain ⟨hb1, hb2⟩ := hbk
          have hb2 : bs.length ≤ 140737488351232 := hb2
          have hb1' : BytesAt w bv bs := hb1
          obtain ⟨Ab, cb, rfl, _, _, hnews⟩ := hb1'.open_
          have hnews : Hid (0 < bs.length → NewsOf w Ab (bs.map encB)) := hnews
          clear hT hyn hF hlo hck hb1 hb1'
          go_upto_if 71 with fail
          go_cut [13, 14] (fun sa sb wx => RoundCut w w2 b c q n t sa sb wx)
          case first =>
            cases take with
            | false =>
              go_wp2_with fail
              refine (tick_any b l' _ HT.out.all hl1 HT.out.ok.since).mono ?_
              rintro e wa ⟨va, rfl, hra, hWa, hFa⟩
              obtain ⟨p1, p2⟩ := HT.out.part.tick
              have hT2 := HT.out.step_all hWa hFa (nodes_ticked l').2 p2 HT.out.ok.ticked
              have hFwa := HF.out.trans hFa (fun i hi hm => by
                obtain ⟨r, hr, e⟩ := List.mem_map.1 hm
                have := HLO.out r hr
                omega)
              have hxa := hFa.heap HCX.out (fun hm => by
                obtain ⟨cur, hc⟩ := HT.out.all.mem _ hm
                exact block_ne HCX.out hc (by decide) rfl)
              have hy1 := (tick_node y).1
              have hnl := tickNews_length l'
              have HT2 := Lib.hid hT2
              have HFA := Lib.hid hFwa
              have HXA := Lib.hid hxa
              have HRA := Lib.hid hra
              have HP1 := Lib.hid p1
              have HY1 := Lib.hid hy1
              clear hT2 hFwa hxa hra p1 p2 hWa hFa hy1
              go_wp2_with fail
              refine (tick_any c [(q, y)] _ HT2.out.one (by simp) ?_).mono ?_
              · intro r hr
                simp at hr
                subst hr
                obtain ⟨k0, hk0, e0⟩ := HT.out.part.at_
                have := HT.out.ok.since _ (List.getElem_mem hk0)
                rw [e0] at this
                exact this
              rintro e wb ⟨vb, rfl, hrb, hWb, hFb⟩
              rw [(one_tick q y).1] at hWb
              rw [(one_tick q y).2] at hrb
              have hT3 := HT2.out.step_one hWb hFb
              go_wp2_with fail
              go_meet
              refine ⟨_, _, tickNews l', _, hT3, HY1.out.trans HYN.out, NewsAt.frm ⟨_, HRA.out⟩ hFb (fun k hk cur hc => ?_), ⟨_, hrb⟩, by rw [← HYN.out]; exact HP1.out, HFA.out.trans hFb (fun i hi hm => ?_), fun r hr => ?_, hFb.heap HXA.out (fun hm => ?_), by omega, by simpa [ticked] using hl1⟩
              · obtain ⟨cur2, hc2⟩ := HT2.out.one.mem _ hk
                exact block_ne hc hc2 (by decide) rfl
              · simp at hm
                have := HT2.out.hi
                omega
              · obtain ⟨s, hs, rfl⟩ := List.mem_map.1 hr
                exact HLO.out s hs
              · obtain ⟨cur, hc⟩ := HT2.out.one.mem _ hm
                exact block_ne HXA.out hc (by decide) rfl
            | true =>
              have HNEWS : Hid (0 < bs.length → NewsOf wr Ab (bs.map encB)) := fun h0 => (hnews.out h0).grow HF.out
              have hrl : w.heap.size ≤ wr.heap.size := HF.out.size
              have HEMP := Lib.hid (empty_row wr 5 1 wr.heap.size (Nat.le_refl _))
              have k0 : (0 : Int) ≤ (k : Int) := Int.natCast_nonneg _
              have k1 : (k : Int) < (acs.length : Int) := by omega
              have gl1 : ga < wr.heap.size := by omega
              have gl2 : ga < wr.heap.size + 1 := by omega
              have hm3 : bs.length ≤ maxLen := by unfold maxLen; omega
              have hm4 : bs.length * 1 ≤ 140737488355328 := by omega
              have HONEB := Lib.hid (oneB bs)
              have HLEN : Hid ((bs.map encB).length = bs.length * 1) := by unfold Hid; simp
              have HNW := Lib.hid hnews.out
              clear hnews
              go_upto_region 14 with fail
              go_cut [13] (fun sv wx => TakeCut wr b l' nd bs sv wx)
              case first =>
                go_region_law (first | (refine step_clone (by rfl) el_u8 _ _ (by rfl) (by rfl) (by rfl) (B := wr.heap.size) (news := bs.map encB) (Frm.row (S := fun _ => False) (by (repeat' (first | (with_reducible exact Frm.refl _ _) | (with_reducible assumption) | (with_reducible refine Frm.alloc ?_ _) | (with_reducible refine Frm.drew ?_) | (with_reducible refine Frm.drewN ?_ _) | (with_reducible refine Frm.set1 ?_ _) | (with_reducible refine Frm.setCell ?_ ?_ _) | (intro hlt; simp [World.size_alloc, One] at hlt ⊢; omega)))) HEMP.out (fun _ _ h => h)) HLEN.out (fun h0 => (HNEWS.out h0).grow (by (repeat' (first | (with_reducible exact Frm.refl _ _) | (with_reducible assumption) | (with_reducible refine Frm.alloc ?_ _) | (with_reducible refine Frm.drew ?_) | (with_reducible refine Frm.drewN ?_ _) | (with_reducible refine Frm.set1 ?_ _) | (with_reducible refine Frm.setCell ?_ ?_ _) | (intro hlt; simp [World.size_alloc, One] at hlt ⊢; omega))))) HONEB.out hm3 hm4 (by simp) ?_; intro A3 cap3 w3 hown3 hfr3; have hF3 : Frm (fun _ => False) wr w3 := (Frm.trans (b := _) (by (repeat' (first | (with_reducible exact Frm.refl _ _) | (with_reducible assumption) | (with_reducible refine Frm.alloc ?_ _) | (with_reducible refine Frm.drew ?_) | (with_reducible refine Frm.drewN ?_ _) | (with_reducible refine Frm.set1 ?_ _) | (with_reducible refine Frm.setCell ?_ ?_ _) | (intro hlt; simp [World.size_alloc, One] at hlt ⊢; omega)))) hfr3 (fun i hi h => by cases h; exact absurd hi (Nat.lt_irrefl _))); have hB3 : BytesAt w3 (.slice A3 bs.length cap3) bs := (.of_row hown3); have d13 : w3.cell? ⟨ga, oa + k * 3 + 1, none⟩ = some (.int .i64 nd) := (hF3.cell d1 (fun h => h)); clear hown3 hfr3) | (refine step_call 20 (by rfl) (by rfl) Try.func20 (by rfl) (by rfl) (by rfl) ((take_any b l' nd _ bs _ (HT.out.all.frm hF3 (fun h => h) (fun _ _ _ _ _ h => h)) hB3).mono ?_); rintro e w4 ⟨v4, rfl, hr4, hW4, hF4⟩; refine CallK.ret ?_))
                all_goals (go_wp2_with fail; go_meet; exact ⟨⟨_, hr4⟩, hW4, Frm.trans (T := fun k => k ∈ l'.map (·.1)) (hF3.mono (fun _ _ h => h.elim)) hF4 (fun _ _ h => h)⟩)
              case rest =>
                obtain ⟨hna, hWa, hFa⟩ := hcut
                have hps : ∀ i, i ∈ l'.map (·.1) → w.heap.size ≤ i := fun i hm => by
                  obtain ⟨s, hs, e⟩ := List.mem_map.1 hm
                  have := HLO.out s hs
                  omega
                have e1 : wc.cell? ⟨ga, oa + k * 3 + 1, none⟩ = some (.int .i64 nd) := hFa.cell d1 (fun hm => by have : w.heap.size ≤ ga := hps _ hm; omega)
                have e2 : wc.cell? ⟨ga, oa + k * 3 + 2, none⟩ = some (.slice Ab bs.length cb) := hFa.cell d2 (fun hm => by have : w.heap.size ≤ ga := hps _ hm; omega)
                have hcx := hFa.heap HCX.out (fun hm => by
                  obtain ⟨cur, hc⟩ := HT.out.all.mem _ hm
                  exact block_ne HCX.out hc (by decide) rfl)
                have e3 : wc.cell? ⟨w2.heap.size, 0, none⟩ = some (.int .i64 n) := cell_at hcx
                have hFwc := HF.out.trans hFa (fun i hi hm => by have := hps _ hm; omega)
                have hok2 := HT.out.ok.take nd bs
                have hlo2 : ∀ r ∈ (takeOf l' nd bs).1, w.heap.size ≤ r.1 := fun r hr => by
                  refine hps _ ?_
                  rw [← (nodes_take l' nd bs).2]
                  exact List.mem_map_of_mem hr
                have hn1000 : (takeOf l' nd bs).2.1.length ≤ 1000 := by
                  rcases takeOf_cases l' nd bs with ⟨_, e⟩ | ⟨j, hj, _, _, e⟩
                  · rw [e]; simp
                  · rw [e]; unfold takeWd Wd.take
                    split
                    · split
                      · simp
                      · split
                        · simp only; split
                          · simp
                          · split <;> simp
                        · simp
                    · simp
                have hl1000 : (takeOf l' nd bs).1.length ≤ 1000 := by
                  have := congrArg List.length (nodes_take l' nd bs).2
                  simp at this
                  omega
                have HNA := Lib.hid hna
                have HFWC := Lib.hid hFwc
                have HOK2 := Lib.hid hok2
                have HLO2 := Lib.hid hlo2
                have HCX2 := Lib.hid hcx
                have HWA := Lib.hid hWa
                have HFA := Lib.hid hFa
                clear hna hFwc hok2 hlo2 hcx hWa hFa hps
                by_cases hnd : nd = y.node
                · have hb : (nd == n) = true := by rw [← HYN.out]; simpa using hnd
                  have hq : (takeOf l' nd bs).2 = (takeWd y bs).2 ∧ Part (takeOf l' nd bs).1 (takeWd y bs).1 := by rw [hnd]; exact HT.out.part.take_same bs
                  obtain ⟨q1, q2⟩ := hq
                  have hT2 := HT.out.step_all HWA.out HFA.out (nodes_take l' nd bs).2 q2 HOK2.out
                  have hmine : mine (takeOf l' nd bs).2.1 n = (takeWd y bs).2.1 := by
                    rw [q1, ← HYN.out]
                    exact mine_self (takeWd_node y bs).2
                  have HT2 := Lib.hid hT2
                  have HM := Lib.hid hmine
                  have HNEWS2 : Hid (0 < bs.length → NewsOf wc Ab (bs.map encB)) := fun h0 => (HNEWS.out h0).frm HFA.out (fun g o e hm => by
                    obtain ⟨g2, o2, ee2, hcc⟩ := HNW.out h0
                    rw [e] at ee2
                    cases ee2
                    have := World.block_lt_of_cell? w _ (hcc 0 (encB bs[0]) (by simp [h0]))
                    obtain ⟨s, hs, e5⟩ := List.mem_map.1 hm
                    have := HLO.out s hs
                    simp at *
                    omega)
                  have HEMP2 := Lib.hid (empty_row wc 5 1 wc.heap.size (Nat.le_refl _))
                  have hwc := HFWC.out.size
                  have gl3 : ga < wc.heap.size := by omega
                  have gl4 : ga < wc.heap.size + 1 := by omega
                  have hw2c : w2.heap.size < wc.heap.size := lt_of_block HCX2.out
                  have hw2d : w2.heap.size < wc.heap.size + 1 := by omega
                  clear hT2 q1 q2 hmine
                  go_wp2_with fail
                  go_quiet (fail)
                  go_wp2_with fail
                  go_region_law (first | (refine step_clone (by rfl) el_u8 _ _ (by rfl) (by rfl) (by rfl) (B := wc.heap.size) (news := bs.map encB) (Frm.row (S := fun _ => False) (by (repeat' (first | (with_reducible exact Frm.refl _ _) | (with_reducible assumption) | (with_reducible refine Frm.alloc ?_ _) | (with_reducible refine Frm.drew ?_) | (with_reducible refine Frm.drewN ?_ _) | (with_reducible refine Frm.set1 ?_ _) | (with_reducible refine Frm.setCell ?_ ?_ _) | (intro hlt; simp [World.size_alloc, One] at hlt ⊢; omega)))) HEMP2.out (fun _ _ h => h)) HLEN.out (fun h0 => (HNEWS2.out h0).grow (by (repeat' (first | (with_reducible exact Frm.refl _ _) | (with_reducible assumption) | (with_reducible refine Frm.alloc ?_ _) | (with_reducible refine Frm.drew ?_) | (with_reducible refine Frm.drewN ?_ _) | (with_reducible refine Frm.set1 ?_ _) | (with_reducible refine Frm.setCell ?_ ?_ _) | (intro hlt; simp [World.size_alloc, One] at hlt ⊢; omega))))) HONEB.out hm3 hm4 (by simp) ?_; intro A3 cap3 w3 hown3 hfr3; have hF3 : Frm (fun _ => False) wc w3 := (Frm.trans (b := _) (by (repeat' (first | (with_reducible exact Frm.refl _ _) | (with_reducible assumption) | (with_reducible refine Frm.alloc ?_ _) | (with_reducible refine Frm.drew ?_) | (with_reducible refine Frm.drewN ?_ _) | (with_reducible refine Frm.set1 ?_ _) | (with_reducible refine Frm.setCell ?_ ?_ _) | (intro hlt; simp [World.size_alloc, One] at hlt ⊢; omega)))) hfr3 (fun i hi h => by cases h; exact absurd hi (Nat.lt_irrefl _))); have hB3 : BytesAt w3 (.slice A3 bs.length cap3) bs := (.of_row hown3); have e33 : w3.cell? ⟨w2.heap.size, 0, none⟩ = some (.int .i64 n) := (hF3.cell e3 (fun h => h)); clear hown3 hfr3) | (refine step_call 20 (by rfl) (by rfl) Try.func20 (by rfl) (by rfl) (by rfl) ((take_any c [(q, y)] n _ bs _ (HT2.out.one.frm hF3 (fun h => h) (fun _ _ _ _ _ h => h)) hB3).mono ?_); rintro e w4 ⟨v4, rfl, hr4, hW4, hF4⟩; refine CallK.ret ?_))
                  all_goals
                    go_wp2_with fail
                    go_meet
                    rw [← HYN.out, one_take] at hr4 hW4
                    have hT3 := (HT2.out.grow hF3).step_one hW4 hF4
                    refine ⟨_, _, _, _, hT3, (takeWd_node y bs).1.trans HYN.out, NewsAt.frm (HNA.out.grow hF3) hF4 (fun k hk cur hc => ?_), ⟨_, hr4⟩, HM.out, (HFWC.out.trans' hF3).trans hF4 (fun i hi hm => ?_), HLO2.out, hF4.heap (hF3.heap HCX2.out (fun h => h)) (fun hm => ?_), hn1000, hl1000⟩
                    · obtain ⟨cur2, hc2⟩ := (HT2.out.grow hF3).one.mem _ hk
                      exact block_ne hc hc2 (by decide) rfl
                    · simp at hm
                      have := HT2.out.hi
                      omega
                    · obtain ⟨cur, hc⟩ := (HT2.out.grow hF3).one.mem _ hm
                      exact block_ne (hF3.heap HCX2.out (fun h => h)) hc (by decide) rfl
                · have hb : (nd == n) = false := by rw [← HYN.out]; simpa using hnd
                  obtain ⟨q1, q2⟩ := HT.out.part.take_other hnd bs
                  have hT2 := HT.out.step_all HWA.out HFA.out (nodes_take l' nd bs).2 q2 HOK2.out
                  have HT2 := Lib.hid hT2
                  have HQ1 := Lib.hid q1
                  clear hT2 q1 q2 hnd
                  go_wp2_with fail
                  go_quiet (fail)
                  go_wp2_with fail
                  go_meet
                  refine ⟨_, y, _, [], HT2.out.grow (by (repeat' (first | (with_reducible exact Frm.refl _ _) | (with_reducible assumption) | (with_reducible refine Frm.alloc ?_ _) | (with_reducible refine Frm.drew ?_) | (with_reducible refine Frm.drewN ?_ _) | (with_reducible refine Frm.set1 ?_ _) | (with_reducible refine Frm.setCell ?_ ?_ _) | (intro hlt; simp [World.size_alloc, One] at hlt ⊢; omega)))), HYN.out, HNA.out.grow (by (repeat' (first | (with_reducible exact Frm.refl _ _) | (with_reducible assumption) | (with_reducible refine Frm.alloc ?_ _) | (with_reducible refine Frm.drew ?_) | (with_reducible refine Frm.drewN ?_ _) | (with_reducible refine Frm.set1 ?_ _) | (with_reducible refine Frm.setCell ?_ ?_ _) | (intro hlt; simp [World.size_alloc, One] at hlt ⊢; omega)))), ⟨0, World.ownsRow_nil _ _ _ _⟩, by rw [← HYN.out]; exact HQ1.out, HFWC.out.trans' (by (repeat' (first | (with_reducible exact Frm.refl _ _) | (with_reducible assumption) | (with_reducible refine Frm.alloc ?_ _) | (with_reducible refine Frm.drew ?_) | (with_reducible refine Frm.drewN ?_ _) | (with_reducible refine Frm.set1 ?_ _) | (with_reducible refine Frm.setCell ?_ ?_ _) | (intro hlt; simp [World.size_alloc, One] at hlt ⊢; omega)))), HLO2.out, HCX2.out, hn1000, hl1000⟩
          case rest =>
            obtain ⟨l2, y2, na, nb, hT2, hy2, hna, hnb, hmine, hF2, hlo2, hcx2, hn1000, hl1000⟩ := hcut
            have hna' := hna
            obtain ⟨Bn, hrn⟩ := hna'
            obtain ⟨An, cn, rfl, _, _, hcn⟩ := row_open hrn
            have HT2 := Lib.hid hT2
            have HY2 := Lib.hid hy2
            have HNA := Lib.hid hna
            have HNB := Lib.hid hnb
            have HM := Lib.hid hmine
            have HF2 := Lib.hid hF2
            have HLO2 := Lib.hid hlo2
            have HCX2 := Lib.hid hcx2
            have HCN := Lib.hid hcn
            clear hT2 hy2 hna hnb hmine hF2 hlo2 hcx2 hcn hrn
            go_wp2_with fail
            obtain ⟨wo, hwo⟩ : ∃ wo : World, wo = wc := ⟨_, rfl⟩
            go_loopw [15, 16] (fun m j wq => ∃ i : Nat, i ≤ na.length ∧ j = .int .i64 i ∧ wq.ownsRow wc.heap.size 48 3 m (mine (na.take i) n).length (newsCells (mine (na.take i) n)) ∧ Frm (fun _ => False) wc wq) (fun _ j _ => na.length - (intOf j).toNat)
            case atStart => exact ⟨0, Nat.zero_le _, rfl, by simpa [mine, newsCells] using empty_row wc 48 3 wc.heap.size (Nat.le_refl _), by (repeat' (first | (with_reducible exact Frm.refl _ _) | (with_reducible assumption) | (with_reducible refine Frm.alloc ?_ _) | (with_reducible refine Frm.drew ?_) | (with_reducible refine Frm.drewN ?_ _) | (with_reducible refine Frm.set1 ?_ _) | (with_reducible refine Frm.setCell ?_ ?_ _) | (intro hlt; simp [World.size_alloc, One] at hlt ⊢; omega)))⟩
            case round =>
              obtain ⟨i, hi, rfl, hrow, hFq⟩ := hrel
              by_cases hin : i < na.length
              · obtain ⟨gn, rfl, _, ⟨cur, hcur⟩, _, hcn⟩ := HCN.out (by omega)
                obtain ⟨x1, x2, x3⟩ := newsCells_get na i hin
                have HTK := Lib.hid (List.take_succ_eq_append_getElem hin)
                generalize na[i] = u at *
                obtain ⟨u1, u2, u3⟩ := u
                rw [← hcn _ (by omega)] at x1 x2 x3
                have f1 := hFq.cell x1 (fun h => h)
                have f2 := hFq.cell x2 (fun h => h)
                have f3 := hFq.cell x3 (fun h => h)
                have hcx := hFq.heap HCX2.out (fun h => h)
                have f4 : wr.cell? ⟨w2.heap.size, 0, none⟩ = some (.int .i64 n) := cell_at hcx
                have i0 : (0 : Int) ≤ (i : Int) := Int.natCast_nonneg _
                have i1 : (i : Int) < (na.length : Int) := by omega
                have hml : (mine (na.take i) n).length ≤ i := Nat.le_trans (List.length_filter_le _ _) (by simp; omega)
                have hm5 : (mine (na.take i) n).length + 1 ≤ maxLen := by unfold maxLen; omega
                have hm6 : ((mine (na.take i) n).length + 1) * 24 ≤ 140737488355328 := by omega
                have hwq := hFq.size
                have HROW := Lib.hid hrow
                have HFQ := Lib.hid hFq
                clear hcn hcur x1 x2 x3 hcx hrow hFq hml
                by_cases hu : u1 = n
                · have hb : (u1 == n) = true := by simpa using hu
                  have HMI : Hid (mine (na.take (i + 1)) n = mine (na.take i) n ++ [(u1, u2, u3)]) := by unfold Hid mine; rw [HTK.out, List.filter_append]; simp [hu]
                  clear hu
                  go_wp2_with fail
                  go_quiet (fail)
                  go_wp2_with (at_builtin; refine wpl_app rfl el_News (.tmp 130) (.tmp 135) rfl (e2 := 48) (fr := (0, 0)) (arr := #[.int .i64 u1, .int .i64 u2, .int .i64 u3]) rfl rfl (Frm.row (S := fun _ => False) (by (repeat' (first | (with_reducible exact Frm.refl _ _) | (with_reducible assumption) | (with_reducible refine Frm.alloc ?_ _) | (with_reducible refine Frm.drew ?_) | (with_reducible refine Frm.drewN ?_ _) | (with_reducible refine Frm.set1 ?_ _) | (with_reducible refine Frm.setCell ?_ ?_ _) | (intro hlt; simp [World.size_alloc, One] at hlt ⊢; omega)))) HROW.out (fun _ _ h => h)) (heap_new_at (by simp)) rfl (by simp [Value.oneCell']) (by decide) hm5 hm6 (by simp; omega) ?_; intro g5 cap5 w5 hown5 hfr5 hat5 hlt5)
                  go_roundw
                  case rel =>
                    refine ⟨i + 1, by omega, by go_num, ?_, ?_⟩
                    · rw [HMI.out, newsCells_append, List.length_append]; exact hown5
                    · refine Frm.trans (b := _) (HFQ.out.trans' (by (repeat' (first | (with_reducible exact Frm.refl _ _) | (with_reducible assumption) | (with_reducible refine Frm.alloc ?_ _) | (with_reducible refine Frm.drew ?_) | (with_reducible refine Frm.drewN ?_ _) | (with_reducible refine Frm.set1 ?_ _) | (with_reducible refine Frm.setCell ?_ ?_ _) | (intro hlt; simp [World.size_alloc, One] at hlt ⊢; omega))))) hfr5 (fun j hj h => ?_)
                      have := (row_block HROW.out h).1
                      omega
                  case measure => simp [intOf]; omega
                · have hb : (u1 == n) = false := by simpa using hu
                  have HMI : Hid (mine (na.take (i + 1)) n = mine (na.take i) n) := by unfold Hid mine; rw [HTK.out, List.filter_append]; simp [hu]
                  clear hu
                  go_wp2_with fail
                  go_quiet (fail)
                  go_wp2_with fail
                  go_roundw
                  case rel => exact ⟨i + 1, by omega, by go_num, by rw [HMI.out]; exact HROW.out, HFQ.out.trans' (by (repeat' (first | (with_reducible exact Frm.refl _ _) | (with_reducible assumption) | (with_reducible refine Frm.alloc ?_ _) | (with_reducible refine Frm.drew ?_) | (with_reducible refine Frm.drewN ?_ _) | (with_reducible refine Frm.set1 ?_ _) | (with_reducible refine Frm.setCell ?_ ?_ _) | (intro hlt; simp [World.size_alloc, One] at hlt ⊢; omega))))⟩
                  case measure => simp [intOf]; omega
              · have hfull : mine (na.take i) n = nb := by rw [List.take_of_length_le (by omega)]; exact HM.out
                rw [hfull] at hrow
                have HNB2 := Lib.hid (HNB.out.grow hFq)
                have HROW := Lib.hid hrow
                have HFQ := Lib.hid (HF2.out.trans' hFq)
                have HT3 := Lib.hid (HT2.out.grow hFq)
                have HCX3 := Lib.hid (hFq.heap HCX2.out (fun h => h))
                clear hfull hrow hFq
                go_wp2_with fail
                refine (same_any _ _ nb nb _ ⟨_, HROW.out⟩ HNB2.out).mono ?_
                rintro e w6 ⟨rfl, n6, rfl⟩
                have hdec : decide (nb = nb) = true := by simp
                rw [hdec]
                clear hdec
                go_wp2_with fail
                go_roundw
                case rel => exact ⟨k + 1, l2, y2, by omega, by go_num, HT3.out.grow (by (repeat' (first | (with_reducible exact Frm.refl _ _) | (with_reducible assumption) | (with_reducible refine Frm.alloc ?_ _) | (with_reducible refine Frm.drew ?_) | (with_reducible refine Frm.drewN ?_ _) | (with_reducible refine Frm.set1 ?_ _) | (with_reducible refine Frm.setCell ?_ ?_ _) | (intro hlt; simp [World.size_alloc, One] at hlt ⊢; omega)))), HY2.out, HFQ.out.drewN _, HLO2.out, HCX3.out, hl1000⟩
                case measure => simp [intOf]; omega
        · go_wp2_with fail
          refine (lives_any _).mono ?_
          rintro e w3 ⟨rfl, hF3⟩
          have HF3 := Lib.hid ((hF.trans' hF3).below (Nat.le_refl _) (fun _ _ h => h))
          clear hF3 hT hyn hF hlo hcx
          go_wp2
          go_ret
          exact ⟨rfl, HF3.out⟩
    · have hz : ((ws.length : Int) == 0) = true := beq_iff_eq.2 (by omega)
      go_wp2_with fail
      refine (lives_any _).mono ?_
      rintro e w3 ⟨rfl, hF3⟩
      have HF3 := Lib.hid ((HF2.out.trans' hF3).below (Nat.le_refl _) (fun _ _ h => h))
      clear hF3
      go_wp2
      go_ret
      exact ⟨rfl, HF3.out⟩
end Go.Proofs.Ytmkkeglcjbogcaa
