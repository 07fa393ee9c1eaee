/-
  A map of the call's own, as a list of keys and values in the order in which they came. No Go function is named here. Places as keys of a map; the code's check of entries. The document's check of entries. The order of places.
-/
import Derived.Maps.OwnOps
import Derived.Maps.OwnSet
import Derived.DeepKeys5
import Derived.Test.YtemjdmgfilbfaaaGreatMc6bffdeb
import Derived.Test.YtemjdmgfilbfaaaGreatM35e27c0a
set_option linter.unusedVariables false
set_option linter.unusedSimpArgs false
namespace Go.Proofs.YtemjdmgfilbfaaaGreat
open Go.RowKit Go.ChangeMaps Go.MapKept
set_option linter.unusedVariables false

/-- Keys of a type that the model compares as they stand. -/
structure KeyOk (P : Program) (k : TypeId) (S : Value → Prop) : Prop where
  check : ∀ (w : World) (em : Bool) {v : Value}, S v → (Instr.checkKey em 10000 k v).run P w = .ok () w
  find : ∀ (w : World) {x : Value}, S x → ∀ es : List MapEntry, (∀ e ∈ es, S e.key) →
    ((Instr.findKey k x es).run P w = .ok none w ∧ ∀ e ∈ es, e.key ≠ x) ∨ ∃ j e, (Instr.findKey k x es).run P w = .ok (some (j, e.val)) w ∧ es[j]? = some e ∧ e.key = x
  stays : ∀ (w : World) {v : Value}, S v → (Instr.keyThatStays v v).run P w = .ok v w

theorem KeyOk.of_keyed {P : Program} {k : TypeId} (K : Maps.Keyed P k) : KeyOk P k (fun v => ∃ l, keyOf P k v = some l) where
  check w em _ h := by obtain ⟨l, h⟩ := h; exact K.check w em h
  find w _ h es hes := by obtain ⟨l, h⟩ := h; exact K.find w h es hes
  stays w _ h := by obtain ⟨l, h⟩ := h; exact K.stays w h

/-- Block b is a map that holds m: keys and values, as they came. -/
def MapAt (S : Value → Prop) (w : World) (b : Nat) (m : List (Value × Value)) : Prop :=
  ∃ es clock, w.heap[b]? = some (.map es clock) ∧ es.toList.map (fun e => (e.key, e.val)) = m ∧ (∀ p ∈ m, S p.1) ∧ (m.map (·.1)).Nodup

theorem MapAt.lt {S : Value → Prop} {w : World} {b : Nat} {m : List (Value × Value)} (h : MapAt S w b m) : b < w.heap.size := by
  obtain ⟨es, c, hb, _⟩ := h
  exact (Array.getElem?_eq_some_iff.1 hb).1
theorem MapAt.made (S : Value → Prop) (w : World) : MapAt S (w.alloc (.map #[] 0)) w.heap.size [] :=
  ⟨#[], 0, heap_new w _, rfl, (fun p hp => by cases hp), List.nodup_nil⟩
theorem MapAt.frm {S : Value → Prop} {T : Nat → Prop} {w w' : World} {b : Nat} {m : List (Value × Value)} (h : MapAt S w b m) (hF : Frm T w w') (hn : ¬ T b) : MapAt S w' b m := by
  obtain ⟨es, c, hb, r⟩ := h
  exact ⟨es, c, hF.heap hb hn, r⟩

section
variable {P : Program} {k e t : TypeId} {S : Value → Prop} {w : World} {b : Nat} {m : List (Value × Value)}

theorem MapAt.entries (h : MapAt S w b m) : ∃ es clock, w.heap[b]? = some (.map es clock) ∧ es.toList.map (fun e => (e.key, e.val)) = m ∧ ∀ e ∈ es.toList, S e.key := by
  obtain ⟨es, c, hb, hm, hs, _⟩ := h
  exact ⟨es, c, hb, hm, fun e he => hs (e.key, e.val) (by rw [← hm]; exact List.mem_map_of_mem (f := fun e : MapEntry => (e.key, e.val)) he)⟩

/-- 'm[k]' of a key that is not there. -/
theorem MapAt.miss (h : MapAt S w b m) (K : KeyOk P k S) (ht : P.underlying t = some (.map k e)) {z : Value} (hz : (zeroValue e).run P w = .ok z w) {key : Value} (hk : S key) (hno : ∀ p ∈ m, p.1 ≠ key) (c : Bool) :
    (Instr.lookup t (.map (some b)) key c).run P w = .ok (if c then .tuple #[z, .bool false] else z) w := by
  obtain ⟨es, cl, hb, hm, hs⟩ := h.entries
  rcases K.find w hk es.toList hs with ⟨h1, _⟩ | ⟨j, e0, h1, h2, h3⟩
  · simp [Instr.lookup, run_underlying ht, MapKept.run_getObj_map hb, K.check w _ hk, h1, hz, Result.andThen]
  · exact absurd h3 (hno (e0.key, e0.val) (by rw [← hm]; exact List.mem_map_of_mem (f := fun e : MapEntry => (e.key, e.val)) (List.mem_of_getElem? h2)))

/-- 'm[k]' of a key that is there. -/
theorem MapAt.hit (h : MapAt S w b m) (K : KeyOk P k S) (ht : P.underlying t = some (.map k e)) {key v : Value} (hk : S key) (hin : (key, v) ∈ m) (c : Bool) :
    (Instr.lookup t (.map (some b)) key c).run P w = .ok (if c then .tuple #[v, .bool true] else v) w := by
  obtain ⟨es, cl, hb, hm, hs⟩ := h.entries
  obtain ⟨_, _, _, _, _, hnd⟩ := h
  rcases K.find w hk es.toList hs with ⟨_, h2⟩ | ⟨j, e0, h1, h2, h3⟩
  · rw [← hm] at hin
    obtain ⟨e0, he, h3⟩ := List.mem_map.1 hin
    cases h3
    exact absurd rfl (h2 e0 he)
  · have hv : e0.val = v := by
      have h4 : (e0.key, e0.val) ∈ m := by rw [← hm]; exact List.mem_map_of_mem (f := fun e : MapEntry => (e.key, e.val)) (List.mem_of_getElem? h2)
      rw [h3] at h4
      obtain ⟨i, hi, hie⟩ := List.getElem_of_mem h4
      obtain ⟨i', hi', hie'⟩ := List.getElem_of_mem hin
      have : i = i' := nodup_at hnd (i := i) (k := i') (by simpa using hi) (by simpa using hi') (by simp [hie, hie'])
      subst this
      rw [hie] at hie'
      simpa using hie'
    subst hv
    simp [Instr.lookup, run_underlying ht, MapKept.run_getObj_map hb, K.check w _ hk, h1, Result.andThen]

/-- 'm[k] = v' of a key that is not there. -/
theorem MapAt.push (h : MapAt S w b m) (K : KeyOk P k S) (ht : P.underlying t = some (.map k e)) {key : Value} (hk : S key) (hno : ∀ p ∈ m, p.1 ≠ key) (v : Value) :
    ∃ w', (Instr.mapUpdate t (.map (some b)) key v).run P w = .ok () w' ∧ MapAt S w' b (m ++ [(key, v)]) ∧ Frm (One b) w w' := by
  obtain ⟨es, cl, hb, hm, hs⟩ := h.entries
  obtain ⟨_, _, _, _, hS, hnd⟩ := h
  rcases K.find w hk es.toList hs with ⟨h1, _⟩ | ⟨j, e0, h1, h2, h3⟩
  · refine ⟨setBlock w b (.map (es.push ⟨key, v, cl⟩) (cl + 1)), ?_, ⟨_, _, heap_setBlock_same hb _, by simp [hm], ?_, ?_⟩, ⟨rfl, rfl, rfl, by simp [setBlock], fun i _ hi => heap_setBlock_other hb _ (fun e => hi e)⟩⟩
    · simp [Instr.mapUpdate, run_underlying ht, MapKept.run_getObj_map hb, K.check w false hk, h1, MapKept.run_setObj_map _ hb, Result.andThen, setBlock]
    · intro p hp
      rcases List.mem_append.1 hp with hp | hp
      · exact hS p hp
      · simp at hp; subst hp; exact hk
    · rw [List.map_append, List.nodup_append]
      refine ⟨hnd, by simp, fun a ha b hb => ?_⟩
      simp at hb
      subst hb
      obtain ⟨p, hp, rfl⟩ := List.mem_map.1 ha
      exact hno p hp
  · exact absurd h3 (hno (e0.key, e0.val) (by rw [← hm]; exact List.mem_map_of_mem (f := fun e : MapEntry => (e.key, e.val)) (List.mem_of_getElem? h2)))

/-- 'm[k] = v' of a key that is there. -/
theorem MapAt.put (h : MapAt S w b m) (K : KeyOk P k S) (ht : P.underlying t = some (.map k e)) {key v0 : Value} (hk : S key) {j : Nat} (hj : m[j]? = some (key, v0)) (v : Value) :
    ∃ w', (Instr.mapUpdate t (.map (some b)) key v).run P w = .ok () w' ∧ MapAt S w' b (m.set j (key, v)) ∧ Frm (One b) w w' := by
  obtain ⟨es, cl, hb, hm, hs⟩ := h.entries
  obtain ⟨_, _, _, _, hS, hnd⟩ := h
  rcases K.find w hk es.toList hs with ⟨_, h2⟩ | ⟨i, e0, h1, h2, h3⟩
  · have hin := List.mem_of_getElem? hj
    rw [← hm] at hin
    obtain ⟨e0, he, h3⟩ := List.mem_map.1 hin
    cases h3
    exact absurd rfl (h2 e0 he)
  · have hi : i < es.toList.length := (List.getElem?_eq_some_iff.1 h2).1
    have hje : es[i]? = some e0 := by simpa using h2
    have hmi : m[i]? = some (e0.key, e0.val) := by rw [← hm, List.getElem?_map, h2]; rfl
    have hij : i = j := by
      obtain ⟨a1, a2⟩ := List.getElem?_eq_some_iff.1 hmi
      obtain ⟨b1, b2⟩ := List.getElem?_eq_some_iff.1 hj
      exact nodup_at hnd (i := i) (k := j) (by simpa using a1) (by simpa using b1) (by simp [a2, b2, h3])
    subst hij
    have hlist : (es.modify i (fun e' => { e' with key := key, val := v })).toList = es.toList.set i { e0 with key := key, val := v } := by rw [Array.toList_modify, modify_eq_set _ _ _ _ h2]
    have hmap : (es.modify i (fun e' => { e' with key := key, val := v })).toList.map (fun e => (e.key, e.val)) = m.set i (key, v) := by
      rw [hlist, List.map_set, hm]
    refine ⟨setBlock w b (.map (es.modify i (fun e' => { e' with key := key, val := v })) cl), ?_, ⟨_, _, heap_setBlock_same hb _, hmap, ?_, ?_⟩, ⟨rfl, rfl, rfl, by simp [setBlock], fun i _ hi => heap_setBlock_other hb _ (fun e => hi e)⟩⟩
    · simp [Instr.mapUpdate, run_underlying ht, MapKept.run_getObj_map hb, K.check w false hk, h1, hje, h3, K.stays w hk, MapKept.run_setObj_map _ hb, Result.andThen, setBlock]
    · intro p hp
      rcases List.mem_or_eq_of_mem_set hp with hp | rfl
      · exact hS p hp
      · exact hk
    · have : (m.set i (key, v)).map (·.1) = m.map (·.1) := by
        rw [List.map_set]
        apply List.ext_getElem?
        intro q
        rw [List.getElem?_set]
        split
        · subst q
          rw [List.getElem?_map, hj]
          simp [(List.getElem?_eq_some_iff.1 hj).1]
        · rfl
      rw [this]
      exact hnd
end

/-- 'm[k] = v' at the operation. -/
theorem wpl_push {P : Program} {w : World} {ops : Array Oper} {rest : List Oper} {o : Oper} {a : Act} {Q : Exit → Act → World → Prop} {k e t : TypeId} {S : Value → Prop} {b : Nat} {m : List (Value × Value)} (hg : o.guard = none) (mo x v : Operand) (hop : o.op = Op.mapUpdate t mo x v)
    (K : KeyOk P k S) (ht : P.underlying t = some (.map k e)) (h : MapAt S w b m) (hm : a.eval mo = .map (some b)) {key val : Value} (hx : a.eval x = key) (hv : a.eval v = val) (hk : S key) (hno : ∀ p ∈ m, p.1 ≠ key)
    (hK : ∀ w', MapAt S w' b (m ++ [(key, val)]) → Frm (One b) w w' → wpList P ops Q rest (a.put o.dst undef) w') : wpList P ops Q (o :: rest) a w := by
  refine wpList_plain hg fun K' hK' => ?_
  obtain ⟨w', hrun, r1, r2⟩ := h.push K ht hk hno val
  unfold Oper.wp
  simp [execOp, hop, hm, hx, hv, hrun, Result.andThen]
  exact hK' _ _ (hK w' r1 r2)
theorem wpl_put {P : Program} {w : World} {ops : Array Oper} {rest : List Oper} {o : Oper} {a : Act} {Q : Exit → Act → World → Prop} {k e t : TypeId} {S : Value → Prop} {b : Nat} {m : List (Value × Value)} (hg : o.guard = none) (mo x v : Operand) (hop : o.op = Op.mapUpdate t mo x v)
    (K : KeyOk P k S) (ht : P.underlying t = some (.map k e)) (h : MapAt S w b m) (hm : a.eval mo = .map (some b)) {key val v0 : Value} (hx : a.eval x = key) (hv : a.eval v = val) (hk : S key) {j : Nat} (hj : m[j]? = some (key, v0))
    (hK : ∀ w', MapAt S w' b (m.set j (key, val)) → Frm (One b) w w' → wpList P ops Q rest (a.put o.dst undef) w') : wpList P ops Q (o :: rest) a w := by
  refine wpList_plain hg fun K' hK' => ?_
  obtain ⟨w', hrun, r1, r2⟩ := h.put K ht hk hj val
  unfold Oper.wp
  simp [execOp, hop, hm, hx, hv, hrun, Result.andThen]
  exact hK' _ _ (hK w' r1 r2)
end Go.Proofs.YtemjdmgfilbfaaaGreat
namespace Go.Proofs.YtemjdmgfilbfaaaGreat
open Go.RowKit
set_option linter.unusedVariables false

theorem laidO : laidOutB Tryz.prog = true := by kernel_rfl
abbrev plV (i s : Int) : Value := .agg #[.int .u16 i, .int .u8 s]
theorem law_place : Maps.Keyed Tryz.prog 108 := Maps.Keyed.of_law (deep_law_laid laidO (m := 2) (by omega) (of_decide_eq_true (by kernel_rfl)) (by kernel_rfl) (by rw [Tryz.underlying108]))
theorem keyOf_place (i s : Int) (hi : 0 ≤ i ∧ i ≤ 65535) (hs : 0 ≤ s ∧ s ≤ 255) : ∃ l, keyOf Tryz.prog 108 (plV i s) = some l := by
  have hkt : Tryz.prog.keyType 108 = true := by kernel_rfl
  have hc : Tryz.prog.cellsOf 108 = 2 := by kernel_rfl
  have hc1 : Tryz.prog.cellsOf 54 = 1 := by kernel_rfl
  have hc2 : Tryz.prog.cellsOf 5 = 1 := by kernel_rfl
  have wi : (Lit.int .u16 i).wf = true := by simp [Lit.wf, IntKind.min, IntKind.max, IntKind.signed, IntKind.bits]; omega
  have ws : (Lit.int .u8 s).wf = true := by simp [Lit.wf, IntKind.min, IntKind.max, IntKind.signed, IntKind.bits]; omega
  obtain ⟨m, hm⟩ : ∃ m, Tryz.prog.types.size = m + 1 := ⟨Tryz.prog.types.size - 1, by have h : (0 : Nat) < Tryz.prog.types.size := of_decide_eq_true (by kernel_rfl); omega⟩
  unfold keyOf
  simp only [Tryz.underlying108]
  rw [if_pos (by simp [hkt, Value.formed, Tryz.underlying108, hc]), hm]
  unfold Program.keyLits
  simp only [Tryz.underlying108, Value.cells]
  rw [if_pos (by refine ⟨by rw [hc]; rfl, by kernel_rfl⟩)]
  simp [hc1, hc2, Program.keyLits, Tryz.underlying54, Tryz.underlying5, wi, ws]
def IsPl (v : Value) : Prop := ∃ l, keyOf Tryz.prog 108 v = some l
theorem key_place : KeyOk Tryz.prog 108 IsPl := KeyOk.of_keyed law_place
theorem isPl (x : En) (hx : x.ok) : IsPl (plV x.idx x.sub) := keyOf_place _ _ ⟨hx.1, hx.2.1⟩ ⟨hx.2.2.1, hx.2.2.2.1⟩
theorem zero_bool (w : World) : (zeroValue 4).run Tryz.prog w = .ok (.bool false) w := by kernel_rfl

/-- The place of an entry. -/
theorem odAt_any (x : En) (w : World) : Calls Tryz.prog 57 #[valE x] w fun e w' => e = .returned (plV x.idx x.sub) ∧ Frm (fun _ => False) w w' := by
  obtain ⟨i, s, ac, mp, lm, ⟨at', an, ab⟩, ⟨bt, bn, bb⟩, ⟨dt, dn, db⟩⟩ := x
  unfold valE
  simp only
  go_enter Tryz.func57, Tryz.ntmps57
  go_wp2_with fail
  refine bodyPost_ret (v := plV i s) (by simp [results, Tryz.results57, go_sem]) rfl ⟨rfl, by (repeat' (first | (with_reducible exact Frm.refl _ _) | (with_reducible assumption) | (with_reducible refine Frm.alloc ?_ _) | (with_reducible refine Frm.drew ?_) | (with_reducible refine Frm.drewN ?_ _) | (with_reducible refine Frm.set1 ?_ _) | (with_reducible refine Frm.setCell ?_ ?_ _) | (exact fun h => absurd h (Nat.lt_irrefl _)) | (intro hlt; simp [World.size_alloc, One] at hlt ⊢; omega)))⟩

theorem plE_inj {x y : En} (hx : x.ok) (hy : y.ok) (h : plE x = plE y) : x.idx = y.idx ∧ x.sub = y.sub := by
  unfold plE at h
  obtain ⟨a1, a2, a3, a4, _⟩ := hx
  obtain ⟨b1, b2, b3, b4, _⟩ := hy
  omega
def seenM (l : List En) : List (Value × Value) := l.map fun x => (plV x.idx x.sub, Value.bool true)
theorem seen_no {l : List En} {x : En} (hl : ∀ y ∈ l, y.ok) (hx : x.ok) (h : plE x ∉ l.map plE) : ∀ p ∈ seenM l, p.1 ≠ plV x.idx x.sub := by
  intro p hp e
  obtain ⟨y, hy, rfl⟩ := List.mem_map.1 hp
  simp only [Value.agg.injEq, Array.mk.injEq, List.cons.injEq, Value.int.injEq, true_and, and_true] at e
  exact h (List.mem_map.2 ⟨y, hy, by unfold plE; rw [e.1, e.2]⟩)
theorem seen_yes {l : List En} {x : En} (hl : ∀ y ∈ l, y.ok) (hx : x.ok) (h : plE x ∈ l.map plE) : (plV x.idx x.sub, Value.bool true) ∈ seenM l := by
  obtain ⟨y, hy, e⟩ := List.mem_map.1 h
  obtain ⟨e1, e2⟩ := plE_inj (hl y hy) hx e
  exact List.mem_map.2 ⟨y, hy, by rw [e1, e2]⟩
theorem seenM_snoc (l : List En) (x : En) : seenM (l ++ [x]) = seenM l ++ [(plV x.idx x.sub, Value.bool true)] := by simp [seenM]

set_option maxRecDepth 100000 in
set_option maxHeartbeats 4000000 in
theorem odChk_any (v : Value) (xs : List En) (w : World) (h : SlAt cellsE 14 w v xs) (hx : ∀ x ∈ xs, x.ok) : Calls Tryz.prog 53 #[v] w fun e w' => e = .returned (.int .i64 (checkE xs)) ∧ Frm (fun _ => False) w w' := by
  have HOK := Lib.hid hx
  obtain ⟨A, cap, rfl, h1, h2, hA⟩ := h
  have hm : xs.length ≤ 9223372036854775807 := Nat.le_trans h1 h2
  have HA := Lib.hid hA
  have HC : Hid (checkE xs = if 1024 < xs.length then 2 else chkE [] xs) := rfl
  generalize checkE xs = r at *
  clear h1 h2 hA hx
  have hmm := @run_makeMap Tryz.prog
  by_cases hlen : 1024 < xs.length
  · have E : Hid (r = 2) := by unfold Hid; rw [HC.out, if_pos hlen]
    go_enter Tryz.func53, Tryz.ntmps53
    go_wp2_with fail
    go_ret
    exact ⟨by rw [E.out]; rfl, by (repeat' (first | (with_reducible exact Frm.refl _ _) | (with_reducible assumption) | (with_reducible refine Frm.alloc ?_ _) | (with_reducible refine Frm.drew ?_) | (with_reducible refine Frm.drewN ?_ _) | (with_reducible refine Frm.set1 ?_ _) | (with_reducible refine Frm.setCell ?_ ?_ _) | (exact fun h => absurd h (Nat.lt_irrefl _)) | (intro hlt; simp [World.size_alloc, One] at hlt ⊢; omega)))⟩
  · have hlen' : xs.length ≤ 1024 := by omega
    rw [if_neg hlen] at HC
    clear hlen
    go_enter Tryz.func53, Tryz.ntmps53
    go_wp2_with fail
    clear hmm
    go_loopw [13] (fun i wr => ∃ k : Nat, k ≤ xs.length ∧ i = .int .i64 k ∧ MapAt IsPl wr w.heap.size (seenM (xs.take k)) ∧ r = chkE ((xs.take k).map plE) (xs.drop k) ∧ Frm (fun _ => False) w wr) (fun i _ => xs.length - (intOf i).toNat)
    case atStart => exact ⟨0, Nat.zero_le _, rfl, MapAt.made _ _, HC.out, by (repeat' (first | (with_reducible exact Frm.refl _ _) | (with_reducible assumption) | (with_reducible refine Frm.alloc ?_ _) | (with_reducible refine Frm.drew ?_) | (with_reducible refine Frm.drewN ?_ _) | (with_reducible refine Frm.set1 ?_ _) | (with_reducible refine Frm.setCell ?_ ?_ _) | (exact fun h => absurd h (Nat.lt_irrefl _)) | (intro hlt; simp [World.size_alloc, One] at hlt ⊢; omega)))⟩
    case round =>
      clear HC
      obtain ⟨k, hk, rfl, hM, hr, hF⟩ := hrel
      have HM := Lib.hid hM
      have HR := Lib.hid hr
      have HF := Lib.hid hF
      have hml := hM.lt
      clear hM hr hF
      by_cases hlt : k < xs.length
      · obtain ⟨g, off, rfl, hgl, hcell⟩ := HA.out (by omega)
        have HD : Hid (xs.drop k = xs[k] :: xs.drop (k + 1)) := List.drop_eq_getElem_cons hlt
        have HTK : Hid (xs.take (k + 1) = xs.take k ++ [xs[k]]) := List.take_succ_eq_append_getElem hlt
        have hxo := HOK.out _ (List.getElem_mem hlt)
        have q := fun j hj => HF.out.cell ((hcell k hlt j hj).trans (List.getElem?_eq_getElem (by rw [cellsE_len]; exact hj))) (fun h => h)
        have hallk : ∀ y ∈ xs.take k, y.ok := fun y hy => HOK.out y (List.mem_of_mem_take hy)
        generalize xs[k] = x at *
        have d0 := q 0 (by decide)
        have d1 := q 1 (by decide)
        have d2 := q 2 (by decide)
        have d3 := q 3 (by decide)
        have d4 := q 4 (by decide)
        have d5 := q 5 (by decide)
        have d6 := q 6 (by decide)
        have d7 := q 7 (by decide)
        have d8 := q 8 (by decide)
        have d9 := q 9 (by decide)
        have d10 := q 10 (by decide)
        have d11 := q 11 (by decide)
        have d12 := q 12 (by decide)
        have d13 := q 13 (by decide)
        simp only [cellsE, List.getElem_cons_succ, List.getElem_cons_zero, Nat.add_zero] at d0 d1 d2 d3 d4 d5 d6 d7 d8 d9 d10 d11 d12 d13
        have HEN := Lib.hid (fun W => odEntry_any x W hxo)
        have HAT := Lib.hid (fun W => odAt_any x W)
        have HIP := Lib.hid (isPl x hxo)
        have HNO := Lib.hid (seen_no hallk hxo)
        have HYES := Lib.hid (seen_yes hallk hxo)
        have HBX : Hid (∀ W, Frm (fun _ => False) (wr.alloc (.cells #[.int .u16 x.idx, .int .u8 x.sub, .int .i64 x.acc, .bool x.mp, .bool x.lim, .int .i64 x.mn.ty, .int .u64 x.mn.n, .string (strB2 x.mn.b), .int .i64 x.mx.ty, .int .u64 x.mx.n, .string (strB2 x.mx.b), .int .i64 x.df.ty, .int .u64 x.df.n, .string (strB2 x.df.b)] 59)) W → W.heap[wr.heap.size]? = some (.cells #[.int .u16 x.idx, .int .u8 x.sub, .int .i64 x.acc, .bool x.mp, .bool x.lim, .int .i64 x.mn.ty, .int .u64 x.mn.n, .string (strB2 x.mn.b), .int .i64 x.mx.ty, .int .u64 x.mx.n, .string (strB2 x.mx.b), .int .i64 x.df.ty, .int .u64 x.df.n, .string (strB2 x.df.b)] 59) ∧ Frm (fun _ => False) wr W) := fun W hF => ⟨hF.heap (heap_new _ _) (fun h => h), Frm.trans' (b := _) (by (repeat' (first | (with_reducible exact Frm.refl _ _) | (with_reducible assumption) | (with_reducible refine Frm.alloc ?_ _) | (with_reducible refine Frm.drew ?_) | (with_reducible refine Frm.drewN ?_ _) | (with_reducible refine Frm.set1 ?_ _) | (with_reducible refine Frm.setCell ?_ ?_ _) | (exact fun h => absurd h (Nat.lt_irrefl _)) | (intro hlt; simp [World.size_alloc, One] at hlt ⊢; omega)))) hF⟩
        have HR2 : Hid (r = if entryE x ≠ 0 then entryE x else if plE x ∈ (xs.take k).map plE then 5 else chkE ((xs.take k).map plE ++ [plE x]) (xs.drop (k + 1))) := by
          unfold Hid
          rw [HR.out, HD.out]
          rfl
        generalize entryE x = ee at *
        clear hcell q hxo hallk HR
        go_wp2_with fail
        refine (HEN.out _).mono ?_
        rintro e w1 ⟨rfl, hF1⟩
        obtain ⟨kk, hF1'⟩ := HBX.out w1 hF1
        have HF1 := Lib.hid hF1
        have HW1 := Lib.hid hF1'
        clear d0 d1 d2 d3 d4 d5 d6 d7 d8 d9 d10 d11 d12 d13
        have c0 : w1.cell? ⟨wr.heap.size, 0, none⟩ = some (.int .u16 x.idx) := cell_at kk
        have c1 : w1.cell? ⟨wr.heap.size, 1, none⟩ = some (.int .u8 x.sub) := cell_at kk
        have c2 : w1.cell? ⟨wr.heap.size, 2, none⟩ = some (.int .i64 x.acc) := cell_at kk
        have c3 : w1.cell? ⟨wr.heap.size, 3, none⟩ = some (.bool x.mp) := cell_at kk
        have c4 : w1.cell? ⟨wr.heap.size, 4, none⟩ = some (.bool x.lim) := cell_at kk
        have c5 : w1.cell? ⟨wr.heap.size, 5, none⟩ = some (.int .i64 x.mn.ty) := cell_at kk
        have c6 : w1.cell? ⟨wr.heap.size, 6, none⟩ = some (.int .u64 x.mn.n) := cell_at kk
        have c7 : w1.cell? ⟨wr.heap.size, 7, none⟩ = some (.string (strB2 x.mn.b)) := cell_at kk
        have c8 : w1.cell? ⟨wr.heap.size, 8, none⟩ = some (.int .i64 x.mx.ty) := cell_at kk
        have c9 : w1.cell? ⟨wr.heap.size, 9, none⟩ = some (.int .u64 x.mx.n) := cell_at kk
        have c10 : w1.cell? ⟨wr.heap.size, 10, none⟩ = some (.string (strB2 x.mx.b)) := cell_at kk
        have c11 : w1.cell? ⟨wr.heap.size, 11, none⟩ = some (.int .i64 x.df.ty) := cell_at kk
        have c12 : w1.cell? ⟨wr.heap.size, 12, none⟩ = some (.int .u64 x.df.n) := cell_at kk
        have c13 : w1.cell? ⟨wr.heap.size, 13, none⟩ = some (.string (strB2 x.df.b)) := cell_at kk
        have l0 := lt_of_block kk
        clear hF1 hF1' kk HEN
        by_cases he : ee = 0
        case neg =>
          have E : Hid (r = ee) := by unfold Hid; rw [HR2.out, if_pos he]
          have be : (ee != 0) = true := by simpa using he
          clear he HR2
          go_wp2_with fail
          go_ret
          exact ⟨by rw [E.out]; rfl, HF.out.trans' HW1.out⟩
        case pos =>
          subst he
          have HR3 : Hid (r = if plE x ∈ (xs.take k).map plE then 5 else chkE ((xs.take k).map plE ++ [plE x]) (xs.drop (k + 1))) := by unfold Hid; rw [HR2.out, if_neg (by simp)]
          clear HR2
          go_wp2_with fail
          refine (HAT.out _).mono ?_
          rintro e w2 ⟨rfl, hF2⟩
          have HF2 := Lib.hid (HF1.out.trans' hF2)
          obtain ⟨kk, hF2'⟩ := HBX.out w2 HF2.out
          have HW2 := Lib.hid hF2'
          have HM2 := Lib.hid (HM.out.frm hF2' (fun h => h))
          clear hF2 hF2'
          clear c0 c1 c2 c3 c4 c5 c6 c7 c8 c9 c10 c11 c12 c13 l0
          have c0 : w2.cell? ⟨wr.heap.size, 0, none⟩ = some (.int .u16 x.idx) := cell_at kk
          have c1 : w2.cell? ⟨wr.heap.size, 1, none⟩ = some (.int .u8 x.sub) := cell_at kk
          have c2 : w2.cell? ⟨wr.heap.size, 2, none⟩ = some (.int .i64 x.acc) := cell_at kk
          have c3 : w2.cell? ⟨wr.heap.size, 3, none⟩ = some (.bool x.mp) := cell_at kk
          have c4 : w2.cell? ⟨wr.heap.size, 4, none⟩ = some (.bool x.lim) := cell_at kk
          have c5 : w2.cell? ⟨wr.heap.size, 5, none⟩ = some (.int .i64 x.mn.ty) := cell_at kk
          have c6 : w2.cell? ⟨wr.heap.size, 6, none⟩ = some (.int .u64 x.mn.n) := cell_at kk
          have c7 : w2.cell? ⟨wr.heap.size, 7, none⟩ = some (.string (strB2 x.mn.b)) := cell_at kk
          have c8 : w2.cell? ⟨wr.heap.size, 8, none⟩ = some (.int .i64 x.mx.ty) := cell_at kk
          have c9 : w2.cell? ⟨wr.heap.size, 9, none⟩ = some (.int .u64 x.mx.n) := cell_at kk
          have c10 : w2.cell? ⟨wr.heap.size, 10, none⟩ = some (.string (strB2 x.mx.b)) := cell_at kk
          have c11 : w2.cell? ⟨wr.heap.size, 11, none⟩ = some (.int .i64 x.df.ty) := cell_at kk
          have c12 : w2.cell? ⟨wr.heap.size, 12, none⟩ = some (.int .u64 x.df.n) := cell_at kk
          have c13 : w2.cell? ⟨wr.heap.size, 13, none⟩ = some (.string (strB2 x.df.b)) := cell_at kk
          have l0 := lt_of_block kk
          clear kk
          by_cases hin : plE x ∈ (xs.take k).map plE
          · have E : Hid (r = 5) := by unfold Hid; rw [HR3.out, if_pos hin]
            have hlk := HM2.out.hit key_place Tryz.underlying142 HIP.out (HYES.out hin) false
            simp only [Bool.false_eq_true, if_false] at hlk
            clear HR3 hin
            go_wp2_with fail
            go_ret
            exact ⟨by rw [E.out]; rfl, HF.out.trans' HW2.out⟩
          · have E : Hid (r = chkE ((xs.take (k + 1)).map plE) (xs.drop (k + 1))) := by
              unfold Hid
              rw [HR3.out, if_neg hin, HTK.out, List.map_append]
              rfl
            have hlk := HM2.out.miss key_place Tryz.underlying142 (zero_bool _) HIP.out (HNO.out hin) false
            simp only [Bool.false_eq_true, if_false] at hlk
            have HIN := Lib.hid hin
            clear HR3 hin
            go_wp2_with fail
            refine (HAT.out _).mono ?_
            rintro e w3 ⟨rfl, hF3⟩
            obtain ⟨w4, hrun, hM4, hF4⟩ := (HM2.out.frm hF3 (fun h => h)).push key_place Tryz.underlying142 HIP.out (HNO.out HIN.out) (.bool true)
            have HM4 := Lib.hid hM4
            have HF4 : Hid (Frm (fun _ => False) w w4) := ((HF.out.trans' HW2.out).trans' hF3).trans hF4 (fun i hi e => by have e : i = w.heap.size := e; omega)
            clear hlk hM4 hF4 hF3
            go_wp2_with fail
            go_roundw
            case rel => exact ⟨k + 1, by omega, by go_num, by rw [HTK.out, seenM_snoc]; exact HM4.out, E.out, HF4.out⟩
            case measure => simp [intOf]; omega
      · have E : Hid (r = 0) := by
          unfold Hid
          rw [HR.out, List.drop_eq_nil_of_le (by omega)]
          rfl
        go_wp2_with fail
        go_ret
        exact ⟨by rw [E.out]; rfl, HF.out⟩
end Go.Proofs.YtemjdmgfilbfaaaGreat
namespace Go.Proofs.YtemjdmgfilbfaaaGreat
open Go.RowKit
set_option linter.unusedVariables false

set_option maxRecDepth 100000 in
set_option maxHeartbeats 4000000 in
theorem rDCheck_any (v : Value) (xs : List En) (w : World) (h : SlAt cellsE 14 w v xs) (hx : ∀ x ∈ xs, x.ok) : Calls Tryz.prog 59 #[v] w fun e w' => e = .returned (.int .i64 (checkE xs)) ∧ Frm (fun _ => False) w w' := by
  have HOK := Lib.hid hx
  obtain ⟨A, cap, rfl, h1, h2, hA⟩ := h
  have hm : xs.length ≤ 9223372036854775807 := Nat.le_trans h1 h2
  have HA := Lib.hid hA
  have HC : Hid (checkE xs = if 1024 < xs.length then 2 else chkE [] xs) := rfl
  generalize checkE xs = r at *
  clear h1 h2 hA hx
  by_cases hlen : 1024 < xs.length
  · have E : Hid (r = 2) := by unfold Hid; rw [HC.out, if_pos hlen]
    go_enter Tryz.func59, Tryz.ntmps59
    go_wp2_with fail
    go_ret
    exact ⟨by rw [E.out]; rfl, by (repeat' (first | (with_reducible exact Frm.refl _ _) | (with_reducible assumption) | (with_reducible refine Frm.alloc ?_ _) | (with_reducible refine Frm.drew ?_) | (with_reducible refine Frm.drewN ?_ _) | (with_reducible refine Frm.set1 ?_ _) | (with_reducible refine Frm.setCell ?_ ?_ _) | (exact fun h => absurd h (Nat.lt_irrefl _)) | (intro hlt; simp [World.size_alloc, One] at hlt ⊢; omega)))⟩
  · have hlen' : xs.length ≤ 1024 := by omega
    rw [if_neg hlen] at HC
    clear hlen
    go_enter Tryz.func59, Tryz.ntmps59
    go_wp2_with fail
    go_loopw [3] (fun i wr => ∃ k : Nat, k ≤ xs.length ∧ i = .int .i64 k ∧ r = chkE ((xs.take k).map plE) (xs.drop k) ∧ Frm (fun _ => False) w wr) (fun i _ => xs.length - (intOf i).toNat)
    case atStart => exact ⟨0, Nat.zero_le _, rfl, HC.out, Frm.refl _ _⟩
    case round =>
      clear HC
      obtain ⟨k, hk, rfl, hr, hF⟩ := hrel
      have HR := Lib.hid hr
      have HF := Lib.hid hF
      clear hr hF
      by_cases hlt : k < xs.length
      · obtain ⟨g, off, rfl, hgl, hcell⟩ := HA.out (by omega)
        have HD : Hid (xs.drop k = xs[k] :: xs.drop (k + 1)) := List.drop_eq_getElem_cons hlt
        have HTK : Hid (xs.take (k + 1) = xs.take k ++ [xs[k]]) := List.take_succ_eq_append_getElem hlt
        have hxo := HOK.out _ (List.getElem_mem hlt)
        have q := fun j hj => HF.out.cell ((hcell k hlt j hj).trans (List.getElem?_eq_getElem (by rw [cellsE_len]; exact hj))) (fun h => h)
        have HCELL := Lib.hid (fun i hi j hj => (hcell i hi j hj).trans (List.getElem?_eq_getElem (by rw [cellsE_len]; exact hj)))
        have HXK : Hid (∀ j (hj : j < k), xs[j]'(by omega) ∈ xs.take k) := fun j hj => by
          rw [List.mem_take_iff_getElem]
          exact ⟨j, by omega, rfl⟩
        have HALL : Hid (∀ p, (∀ j (hj : j < k), plE (xs[j]'(by omega)) ≠ p) → p ∉ (xs.take k).map plE) := fun p h hm => by
          obtain ⟨y, hy, e⟩ := List.mem_map.1 hm
          obtain ⟨j, hj, rfl⟩ := List.mem_take_iff_getElem.1 hy
          exact h j (by omega) e
        generalize xs[k] = x at *
        have d0 := q 0 (by decide)
        have d1 := q 1 (by decide)
        have d2 := q 2 (by decide)
        have d3 := q 3 (by decide)
        have d4 := q 4 (by decide)
        have d5 := q 5 (by decide)
        have d6 := q 6 (by decide)
        have d7 := q 7 (by decide)
        have d8 := q 8 (by decide)
        have d9 := q 9 (by decide)
        have d10 := q 10 (by decide)
        have d11 := q 11 (by decide)
        have d12 := q 12 (by decide)
        have d13 := q 13 (by decide)
        simp only [cellsE, List.getElem_cons_succ, List.getElem_cons_zero, Nat.add_zero] at d0 d1 d2 d3 d4 d5 d6 d7 d8 d9 d10 d11 d12 d13
        have HEN := Lib.hid (fun W => rentry_any x W hxo)
        have HR2 : Hid (r = if entryE x ≠ 0 then entryE x else if plE x ∈ (xs.take k).map plE then 5 else chkE ((xs.take k).map plE ++ [plE x]) (xs.drop (k + 1))) := by
          unfold Hid
          rw [HR.out, HD.out]
          rfl
        generalize entryE x = ee at *
        have HXO := Lib.hid hxo
        clear hcell q hxo HR
        go_wp2_with fail
        refine (HEN.out _).mono ?_
        rintro e w1 ⟨rfl, hF1⟩
        have HF1 := Lib.hid (HF.out.trans' hF1)
        have D0 := hF1.cell d0 (fun h => h)
        have D1 := hF1.cell d1 (fun h => h)
        clear d0 d1 d2 d3 d4 d5 d6 d7 d8 d9 d10 d11 d12 d13 hF1 HEN
        by_cases he : ee = 0
        case neg =>
          have E : Hid (r = ee) := by unfold Hid; rw [HR2.out, if_pos he]
          have be : (ee != 0) = true := by simpa using he
          clear he HR2
          go_wp2_with fail
          go_ret
          exact ⟨by rw [E.out]; rfl, HF1.out⟩
        case pos =>
          subst he
          have HR3 : Hid (r = if plE x ∈ (xs.take k).map plE then 5 else chkE ((xs.take k).map plE ++ [plE x]) (xs.drop (k + 1))) := by unfold Hid; rw [HR2.out, if_neg (by simp)]
          clear HR2
          have DD0 := Lib.hid D0
          have DD1 := Lib.hid D1
          clear D0 D1
          obtain ⟨wo, hwo⟩ : ∃ wo : World, wo = wr := ⟨_, rfl⟩
          subst hwo
          go_wp2_with fail
          go_loopw [5] (fun i wr => ∃ j : Nat, ∃ _ : j ≤ k, i = .int .i64 j ∧ (∀ m (hm : m < j), plE (xs[m]'(by omega)) ≠ plE x) ∧ Frm (fun _ => False) w1 wr) (fun i _ => k - (intOf i).toNat)
          case atStart => exact ⟨0, Nat.zero_le _, rfl, fun m hm => absurd hm (Nat.not_lt_zero _), Frm.refl _ _⟩
          case round =>
            obtain ⟨j, hjk, rfl, hnone, hFr⟩ := hrel
            have HNONE := Lib.hid hnone
            have HFR := Lib.hid hFr
            by_cases hjl : j < k
            · have e0 := (HF1.out.trans' hFr).cell (HCELL.out j (by omega) 0 (by decide)) (fun h => h)
              have e1 := (HF1.out.trans' hFr).cell (HCELL.out j (by omega) 1 (by decide)) (fun h => h)
              have f0 := hFr.cell DD0.out (fun h => h)
              have f1 := hFr.cell DD1.out (fun h => h)
              have hyo := HOK.out _ (List.getElem_mem (show j < xs.length by omega))
              have HYM := Lib.hid (HXK.out j hjl)
              simp only [cellsE, List.getElem_cons_succ, List.getElem_cons_zero, Nat.add_zero] at e0 e1
              generalize hye : xs[j]'(by omega) = y at *
              have HNX : Hid (plE y ≠ plE x → ∀ m (hm : m < j + 1), plE (xs[m]'(by omega)) ≠ plE x) := fun hne m hm => by
                by_cases h : m < j
                · exact HNONE.out m h
                · obtain rfl : m = j := by omega
                  rw [hye]
                  exact hne
              clear hnone hFr hye
              have HYO := Lib.hid hyo
              clear hyo
              have j0 : (0 : Int) ≤ (j : Int) := by omega
              have j1 : (j : Int) < (xs.length : Int) := by omega
              have k0 : (0 : Int) ≤ (k : Int) := by omega
              have k1 : (k : Int) < (xs.length : Int) := by omega
              by_cases hi : y.idx = x.idx
              · by_cases hs : y.sub = x.sub
                · have E : Hid (r = 5) := by
                    unfold Hid
                    rw [HR3.out, if_pos]
                    exact List.mem_map.2 ⟨y, HYM.out, by unfold plE; rw [hi, hs]⟩
                  have b1 : (y.idx == x.idx) = true := by simpa using hi
                  have b2 : (y.sub == x.sub) = true := by simpa using hs
                  clear hi hs HR3
                  go_wp2_with fail
                  go_quiet (fail)
                  go_wp2_with fail
                  go_ret
                  exact ⟨by rw [E.out]; rfl, (HF1.out.trans' HFR.out).trans' (by (repeat' (first | (with_reducible exact Frm.refl _ _) | (with_reducible assumption) | (with_reducible refine Frm.alloc ?_ _) | (with_reducible refine Frm.drew ?_) | (with_reducible refine Frm.drewN ?_ _) | (with_reducible refine Frm.set1 ?_ _) | (with_reducible refine Frm.setCell ?_ ?_ _) | (exact fun h => absurd h (Nat.lt_irrefl _)) | (intro hlt; simp [World.size_alloc, One] at hlt ⊢; omega))))⟩
                · have b1 : (y.idx == x.idx) = true := by simpa using hi
                  have b2 : (y.sub == x.sub) = false := beq_eq_false_iff_ne.2 hs
                  have HNE : Hid (plE y ≠ plE x) := fun e => hs (plE_inj HYO.out HXO.out e).2
                  clear hi hs
                  go_wp2_with fail
                  go_quiet (fail)
                  go_wp2_with fail
                  go_roundw
                  case rel => exact ⟨j + 1, by omega, by go_num, HNX.out HNE.out, HFR.out.trans' (by (repeat' (first | (with_reducible exact Frm.refl _ _) | (with_reducible assumption) | (with_reducible refine Frm.alloc ?_ _) | (with_reducible refine Frm.drew ?_) | (with_reducible refine Frm.drewN ?_ _) | (with_reducible refine Frm.set1 ?_ _) | (with_reducible refine Frm.setCell ?_ ?_ _) | (exact fun h => absurd h (Nat.lt_irrefl _)) | (intro hlt; simp [World.size_alloc, One] at hlt ⊢; omega))))⟩
                  case measure => simp [intOf]; omega
              · have b1 : (y.idx == x.idx) = false := beq_eq_false_iff_ne.2 hi
                have HNE : Hid (plE y ≠ plE x) := fun e => hi (plE_inj HYO.out HXO.out e).1
                clear hi
                go_wp2_with fail
                go_quiet (fail)
                go_wp2_with fail
                go_roundw
                case rel => exact ⟨j + 1, by omega, by go_num, HNX.out HNE.out, HFR.out.trans' (by (repeat' (first | (with_reducible exact Frm.refl _ _) | (with_reducible assumption) | (with_reducible refine Frm.alloc ?_ _) | (with_reducible refine Frm.drew ?_) | (with_reducible refine Frm.drewN ?_ _) | (with_reducible refine Frm.set1 ?_ _) | (with_reducible refine Frm.setCell ?_ ?_ _) | (exact fun h => absurd h (Nat.lt_irrefl _)) | (intro hlt; simp [World.size_alloc, One] at hlt ⊢; omega))))⟩
                case measure => simp [intOf]; omega
            · obtain rfl : j = k := by omega
              have E : Hid (r = chkE ((xs.take (j + 1)).map plE) (xs.drop (j + 1))) := by
                unfold Hid
                rw [HR3.out, if_neg (HALL.out _ HNONE.out), HTK.out, List.map_append]
                rfl
              clear HR3 hnone hFr
              go_wp2_with fail
              go_roundw
              case rel => exact ⟨j + 1, by omega, by go_num, E.out, HF1.out.trans' HFR.out⟩
              case measure => simp [intOf]; omega
      · have E : Hid (r = 0) := by
          unfold Hid
          rw [HR.out, List.drop_eq_nil_of_le (by omega)]
          rfl
        go_wp2_with fail
        go_ret
        exact ⟨by rw [E.out]; rfl, HF.out⟩
end Go.Proofs.YtemjdmgfilbfaaaGreat
namespace Go.Proofs.YtemjdmgfilbfaaaGreat
open Go.RowKit
open List (getElem_toArray getElem_cons_zero getElem_cons_succ setIfInBounds_toArray set_cons_zero set_cons_succ)
set_option linter.unusedVariables false

def ordP (i s i' s' : Int) : Int := if cmpI i i' ≠ 0 then cmpI i i' else cmpI s s'
theorem cmpI_vals (a b : Int) : cmpI a b = -1 ∨ cmpI a b = 0 ∨ cmpI a b = 1 := by
  unfold cmpI
  split
  · simp
  · split <;> simp
theorem cmpI_zero {a b : Int} : cmpI a b = 0 ↔ a = b := by
  unfold cmpI
  split
  · simp; omega
  · split
    · simp; omega
    · simp; omega
theorem ordP_eq {i s i' s' : Int} (h1 : 0 ≤ s ∧ s ≤ 255) (h2 : 0 ≤ s' ∧ s' ≤ 255) : ordP i s i' s' = cmpI (i * 256 + s) (i' * 256 + s') := by
  unfold ordP
  by_cases h : i = i'
  · subst h
    rw [if_neg (by simp [cmpI_zero])]
    unfold cmpI
    by_cases h3 : s < s'
    · rw [if_pos h3, if_pos (by omega)]
    · rw [if_neg h3, if_neg (show ¬ i * 256 + s < i * 256 + s' by omega)]
      by_cases h4 : s' < s
      · rw [if_pos h4, if_pos (by omega)]
      · rw [if_neg h4, if_neg (by omega)]
  · rw [if_pos (by simpa [cmpI_zero] using h)]
    unfold cmpI
    by_cases h3 : i < i'
    · rw [if_pos h3, if_pos (by omega)]
    · rw [if_neg h3, if_pos (show i' < i by omega), if_neg (show ¬ i * 256 + s < i' * 256 + s' by omega), if_pos (by omega)]

set_option maxRecDepth 100000 in
set_option maxHeartbeats 1000000 in
theorem cmpOr_any (a b : Int) (g : Nat) (w : World) (h : w.heap[g]? = some (.cells #[.int .i64 a, .int .i64 b] 3 (0, 0))) :
    Calls Tryz.prog 86 #[.slice (some ⟨g, 0, none⟩) 2 2] w fun e w' => e = .returned (.int .i64 (if a ≠ 0 then a else b)) ∧ w' = w := by
  have c0 : w.cell? ⟨g, 0, none⟩ = some (.int .i64 a) := cell_at h
  have c1 : w.cell? ⟨g, 1, none⟩ = some (.int .i64 b) := cell_at h
  clear h
  generalize hr : (if a ≠ 0 then a else b) = r
  have HR := Lib.hid hr.symm
  clear hr
  go_enter Tryz.func86, Tryz.ntmps86
  go_wp2_with fail
  go_loop [8] (fun i => ∃ k : Nat, k ≤ 2 ∧ i = .int .i64 k ∧ (1 ≤ k → a = 0) ∧ (2 ≤ k → b = 0)) (fun i => 2 - (intOf i).toNat)
  case atStart => exact ⟨0, by omega, rfl, fun h => by omega, fun h => by omega⟩
  case round =>
    obtain ⟨k, hk, rfl, ha, hb⟩ := hrel
    have HA := Lib.hid ha
    have HB := Lib.hid hb
    clear ha hb
    have hk3 : k = 0 ∨ k = 1 ∨ k = 2 := by omega
    rcases hk3 with rfl | rfl | rfl
    · by_cases h : a = 0
      · subst h
        go_wp2_with fail
        go_round
        case rel => exact ⟨1, by omega, by go_num, by simp, by simp⟩
        case measure => simp [intOf]
      · have E : Hid (r = a) := by unfold Hid; rw [HR.out, if_pos h]
        have b1 : (a != 0) = true := by simpa using h
        clear h
        go_wp2_with fail
        go_ret
        exact ⟨by rw [E.out]; rfl, rfl⟩
    · have ha0 := HA.out (by omega)
      subst ha0
      by_cases h : b = 0
      · subst h
        go_wp2_with fail
        go_round
        case rel => exact ⟨2, by omega, by go_num, by simp, by simp⟩
        case measure => simp [intOf]
      · have E : Hid (r = b) := by unfold Hid; rw [HR.out, if_neg (by simp)]
        have b1 : (b != 0) = true := by simpa using h
        clear h
        go_wp2_with fail
        go_ret
        exact ⟨by rw [E.out]; rfl, rfl⟩
    · have ha0 := HA.out (by omega)
      have hb0 := HB.out (by omega)
      subst ha0 hb0
      have E : Hid (r = 0) := by unfold Hid; rw [HR.out]; simp
      go_wp2_with fail
      go_ret
      exact ⟨by rw [E.out]; rfl, rfl⟩

set_option maxRecDepth 100000 in
set_option maxHeartbeats 2000000 in
theorem odOrder_any (i s i' s' : Int) (w : World) : Calls Tryz.prog 58 #[plV i s, plV i' s'] w fun e w' => e = .returned (.int .i64 (ordP i s i' s')) ∧ Frm (fun _ => False) w w' := by
  have H1 := Lib.hid (fun W => cmpU16_any i i' W)
  have H2 := Lib.hid (fun W => cmpU8_any s s' W)
  have HO : Hid (ordP i s i' s' = if cmpI i i' ≠ 0 then cmpI i i' else cmpI s s') := rfl
  generalize ordP i s i' s' = r at *
  generalize cmpI i i' = a at *
  generalize cmpI s s' = b at *
  have H3 := Lib.hid (fun g W h => cmpOr_any a b g W h)
  rw [← HO.out] at H3
  clear HO
  go_enter Tryz.func58, Tryz.ntmps58
  go_wp2_with fail
  refine wp_region_held_drew (S := (fun w' => w'.cell? ⟨w.heap.size, 0, none⟩ = some (.int .u16 i) ∧ w'.cell? ⟨w.heap.size, 1, none⟩ = some (.int .u8 s) ∧ w'.cell? ⟨w.heap.size + 1, 0, none⟩ = some (.int .u16 i') ∧ w'.cell? ⟨w.heap.size + 1, 1, none⟩ = some (.int .u8 s'))) (by kernel_rfl) (⟨by go_simp, by go_simp, by go_simp, by go_simp⟩) (fun hHeld => ?_)
  refine wpAnyH_take (i := 0) (v := ?_) rfl (by kernel_rfl) (by kernel_rfl) (by kernel_rfl) (fun _ _ _ h => h) (Or.inl ⟨by rfl, ?_⟩) (by assumption) ?_; rotate_left; · (intro wq hSq; (try dsimp only at hSq); go_split_ands; go_simp; (try with_reducible rfl))
  try simp only [Act.put, getElem_toArray, getElem_cons_zero, getElem_cons_succ, setIfInBounds_toArray, set_cons_zero, set_cons_succ]
  refine wpAnyH_take (i := 1) (v := ?_) rfl (by kernel_rfl) (by kernel_rfl) (by kernel_rfl) (fun _ _ _ h => h) (Or.inl ⟨by rfl, ?_⟩) (by assumption) ?_; rotate_left; · (intro wq hSq; (try dsimp only at hSq); go_split_ands; go_simp; (try with_reducible rfl))
  try simp only [Act.put, getElem_toArray, getElem_cons_zero, getElem_cons_succ, setIfInBounds_toArray, set_cons_zero, set_cons_succ]
  refine wpAnyH_take (i := 2) (v := ?_) rfl (by kernel_rfl) (by kernel_rfl) (by kernel_rfl) (fun _ _ _ h => h) (Or.inl ⟨by rfl, ?_⟩) (by assumption) ?_; rotate_left; · (intro wq hSq; (try dsimp only at hSq); go_split_ands; go_simp; (try with_reducible rfl))
  try simp only [Act.put, getElem_toArray, getElem_cons_zero, getElem_cons_succ, setIfInBounds_toArray, set_cons_zero, set_cons_succ]
  refine wpAnyH_take (i := 3) (v := ?_) rfl (by kernel_rfl) (by kernel_rfl) (by kernel_rfl) (fun _ _ _ h => h) (Or.inl ⟨by rfl, ?_⟩) (by assumption) ?_; rotate_left; · (intro wq hSq; (try dsimp only at hSq); go_split_ands; go_simp; (try with_reducible rfl))
  try simp only [Act.put, getElem_toArray, getElem_cons_zero, getElem_cons_succ, setIfInBounds_toArray, set_cons_zero, set_cons_succ]
  refine wpAnyH_take (i := 5) (v := ?_) rfl (by kernel_rfl) (by kernel_rfl) (by kernel_rfl) (fun _ _ _ h => h) (Or.inl ⟨by rfl, ?_⟩) (by assumption) ?_; rotate_left; · (intro wq hSq; (try dsimp only at hSq); go_split_ands; go_simp; (try with_reducible rfl))
  try simp only [Act.put, getElem_toArray, getElem_cons_zero, getElem_cons_succ, setIfInBounds_toArray, set_cons_zero, set_cons_succ]
  refine wpAnyH_take (i := 6) (v := ?_) rfl (by kernel_rfl) (by kernel_rfl) (by kernel_rfl) (fun _ _ _ h => h) (Or.inl ⟨by rfl, ?_⟩) (by assumption) ?_; rotate_left; · (intro wq hSq; (try dsimp only at hSq); go_split_ands; go_simp; (try with_reducible rfl))
  try simp only [Act.put, getElem_toArray, getElem_cons_zero, getElem_cons_succ, setIfInBounds_toArray, set_cons_zero, set_cons_succ]
  refine wpAnyH_take (i := 7) (v := ?_) rfl (by kernel_rfl) (by kernel_rfl) (by kernel_rfl) (fun _ _ _ h => h) (Or.inl ⟨by rfl, ?_⟩) (by assumption) ?_; rotate_left; · (intro wq hSq; (try dsimp only at hSq); go_split_ands; go_simp; (try with_reducible rfl))
  try simp only [Act.put, getElem_toArray, getElem_cons_zero, getElem_cons_succ, setIfInBounds_toArray, set_cons_zero, set_cons_succ]
  refine wpAnyH_take (i := 8) (v := ?_) rfl (by kernel_rfl) (by kernel_rfl) (by kernel_rfl) (fun _ _ _ h => h) (Or.inl ⟨by rfl, ?_⟩) (by assumption) ?_; rotate_left; · (intro wq hSq; (try dsimp only at hSq); go_split_ands; go_simp; (try with_reducible rfl))
  try simp only [Act.put, getElem_toArray, getElem_cons_zero, getElem_cons_succ, setIfInBounds_toArray, set_cons_zero, set_cons_succ]
  refine wpAnyH_ready (rs := [4]) (by kernel_rfl) (by simp) ?_
  refine AllReadyH.cons rfl (fun K hK => ?_) AllReadyH.nil
  try simp only [getElem_toArray, getElem_cons_zero, getElem_cons_succ]
  go_simp
  refine (H1.out _).mono ?_
  rintro e w1 ⟨rfl, rfl⟩
  go_wp2_with fail
  refine hK.out _ _ (by assumption) (fun hHeld => ?_)
  clear hK K
  try simp only [Act.put, setIfInBounds_toArray, set_cons_zero, set_cons_succ]
  refine wpAnyH_ready (rs := [9]) (by kernel_rfl) (by simp) ?_
  refine AllReadyH.cons rfl (fun K hK => ?_) AllReadyH.nil
  try simp only [getElem_toArray, getElem_cons_zero, getElem_cons_succ]
  go_simp
  refine (H2.out _).mono ?_
  rintro e w1 ⟨rfl, rfl⟩
  go_wp2_with fail
  refine hK.out _ _ (by assumption) (fun hHeld => ?_)
  clear hK K
  try simp only [Act.put, setIfInBounds_toArray, set_cons_zero, set_cons_succ]
  refine wpAnyH_ready (rs := [10]) (by kernel_rfl) (by simp) ?_
  refine AllReadyH.cons rfl (fun K hK => ?_) AllReadyH.nil
  try simp only [getElem_toArray, getElem_cons_zero, getElem_cons_succ]
  go_simp
  refine hK.out _ _ (⟨by go_simp, by go_simp, by go_simp, by go_simp⟩) (fun hHeld => ?_)
  clear hK K
  try simp only [Act.put, setIfInBounds_toArray, set_cons_zero, set_cons_succ]
  refine wpAnyH_ready (rs := [11]) (by kernel_rfl) (by simp) ?_
  refine AllReadyH.cons rfl (fun K hK => ?_) AllReadyH.nil
  try simp only [getElem_toArray, getElem_cons_zero, getElem_cons_succ]
  go_simp
  refine (H3.out (w.heap.size + 2) _ (heap_drew' (heap_new_at (by simp)))).mono ?_
  rintro e w1 ⟨rfl, rfl⟩
  go_wp2_with fail
  refine hK.out _ _ (by assumption) (fun hHeld => ?_)
  clear hK K
  try simp only [Act.put, setIfInBounds_toArray, set_cons_zero, set_cons_succ]
  refine wpAnyH_take (i := 12) (v := ?_) rfl (by kernel_rfl) (by kernel_rfl) (by kernel_rfl) (fun _ _ _ h => h) (Or.inl ⟨by rfl, ?_⟩) (by assumption) ?_; rotate_left; · (intro wq hSq; (try dsimp only at hSq); go_split_ands; go_simp; (try with_reducible rfl))
  try simp only [Act.put, getElem_toArray, getElem_cons_zero, getElem_cons_succ, setIfInBounds_toArray, set_cons_zero, set_cons_succ]
  refine wpAnyH_done (by kernel_rfl) ?_ _
  go_wp2_with fail
  go_ret
  exact ⟨rfl, by (repeat' (first | (with_reducible exact Frm.refl _ _) | (with_reducible assumption) | (with_reducible refine Frm.alloc ?_ _) | (with_reducible refine Frm.drew ?_) | (with_reducible refine Frm.drewN ?_ _) | (with_reducible refine Frm.set1 ?_ _) | (with_reducible refine Frm.setCell ?_ ?_ _) | (exact fun h => absurd h (Nat.lt_irrefl _)) | (intro hlt; simp [World.size_alloc, One] at hlt ⊢; omega)))⟩

/-- A pointer to an item. -/
abbrev ptr (b : Nat) : Value := .pointer (some ⟨b, 0, none⟩)
def cellsI (x : Im) : List Value := cellsE x.1 ++ cellsV x.2
theorem cellsI_len (x : Im) : (cellsI x).length = 17 := rfl
/-- An item in memory. -/
def ItAt (w : World) (q : Nat) (x : Im) : Prop := w.heap[q]? = some (.cells (cellsI x).toArray 100 (0, 0))
theorem ItAt.frm {S : Nat → Prop} {w w' : World} {q : Nat} {x : Im} (h : ItAt w q x) (hF : Frm S w w') (hn : ¬ S q) : ItAt w' q x := hF.heap h hn


set_option maxRecDepth 100000 in
set_option maxHeartbeats 2000000 in
theorem odNew1_any (p q : Nat) (x y : Im) (w : World) (hx : ItAt w p x) (hy : ItAt w q y) : Calls Tryz.prog 56 #[ptr p, ptr q] w fun e w' => e = .returned (.int .i64 (ordP x.1.idx x.1.sub y.1.idx y.1.sub)) ∧ Frm (fun _ => False) w w' := by
  have H1 := Lib.hid (fun W => odAt_any x.1 W)
  have H2 := Lib.hid (fun W => odAt_any y.1 W)
  have H3 := Lib.hid (fun W => odOrder_any x.1.idx x.1.sub y.1.idx y.1.sub W)
  obtain ⟨⟨i, s, ac, mp, lm, ⟨at', an, ab⟩, ⟨bt, bn, bb⟩, ⟨dt, dn, db⟩⟩, vx⟩ := x
  obtain ⟨⟨i', s', ac', mp', lm', ⟨at'', an', ab'⟩, ⟨bt', bn', bb'⟩, ⟨dt', dn', db'⟩⟩, vy⟩ := y
  unfold ItAt cellsI cellsE at hx hy
  unfold valE at H1 H2
  unfold plV at H1 H2 H3
  unfold ptr
  simp only at *
  generalize ordP i s i' s' = r at *
  generalize strB2 ab = ab at *
  generalize strB2 bb = bb at *
  generalize strB2 db = db at *
  generalize strB2 ab' = ab' at *
  generalize strB2 bb' = bb' at *
  generalize strB2 db' = db' at *
  have hc : ∀ W, Frm (fun _ => False) w W → (W.cell? ⟨p, 0, none⟩ = some (.int .u16 i) ∧ W.cell? ⟨p, 1, none⟩ = some (.int .u8 s) ∧ W.cell? ⟨p, 2, none⟩ = some (.int .i64 ac) ∧ W.cell? ⟨p, 3, none⟩ = some (.bool mp) ∧ W.cell? ⟨p, 4, none⟩ = some (.bool lm) ∧ W.cell? ⟨p, 5, none⟩ = some (.int .i64 at') ∧ W.cell? ⟨p, 6, none⟩ = some (.int .u64 an) ∧ W.cell? ⟨p, 7, none⟩ = some (.string ab) ∧ W.cell? ⟨p, 8, none⟩ = some (.int .i64 bt) ∧ W.cell? ⟨p, 9, none⟩ = some (.int .u64 bn) ∧ W.cell? ⟨p, 10, none⟩ = some (.string bb) ∧ W.cell? ⟨p, 11, none⟩ = some (.int .i64 dt) ∧ W.cell? ⟨p, 12, none⟩ = some (.int .u64 dn) ∧ W.cell? ⟨p, 13, none⟩ = some (.string db)) ∧
      (W.cell? ⟨q, 0, none⟩ = some (.int .u16 i') ∧ W.cell? ⟨q, 1, none⟩ = some (.int .u8 s') ∧ W.cell? ⟨q, 2, none⟩ = some (.int .i64 ac') ∧ W.cell? ⟨q, 3, none⟩ = some (.bool mp') ∧ W.cell? ⟨q, 4, none⟩ = some (.bool lm') ∧ W.cell? ⟨q, 5, none⟩ = some (.int .i64 at'') ∧ W.cell? ⟨q, 6, none⟩ = some (.int .u64 an') ∧ W.cell? ⟨q, 7, none⟩ = some (.string ab') ∧ W.cell? ⟨q, 8, none⟩ = some (.int .i64 bt') ∧ W.cell? ⟨q, 9, none⟩ = some (.int .u64 bn') ∧ W.cell? ⟨q, 10, none⟩ = some (.string bb') ∧ W.cell? ⟨q, 11, none⟩ = some (.int .i64 dt') ∧ W.cell? ⟨q, 12, none⟩ = some (.int .u64 dn') ∧ W.cell? ⟨q, 13, none⟩ = some (.string db')) := fun W hF => by
    have kx := hF.heap hx (fun h => h)
    have ky := hF.heap hy (fun h => h)
    exact ⟨⟨cell_at kx, cell_at kx, cell_at kx, cell_at kx, cell_at kx, cell_at kx, cell_at kx, cell_at kx, cell_at kx, cell_at kx, cell_at kx, cell_at kx, cell_at kx, cell_at kx⟩, ⟨cell_at ky, cell_at ky, cell_at ky, cell_at ky, cell_at ky, cell_at ky, cell_at ky, cell_at ky, cell_at ky, cell_at ky, cell_at ky, cell_at ky, cell_at ky, cell_at ky⟩⟩
  have HCC := Lib.hid hc
  clear hx hy hc
  go_enter Tryz.func56, Tryz.ntmps56
  go_wp2_with fail
  refine wp_region_held_drew (S := fun W => Frm (fun _ => False) w W) (by kernel_rfl) ((Frm.refl _ _).drew) (fun hHeld => ?_)
  refine wpAnyH_take (i := 0) (v := ?_) rfl (by kernel_rfl) (by kernel_rfl) (by kernel_rfl) (fun _ _ _ h => h) (Or.inl ⟨by rfl, ?_⟩) (by assumption) ?_; rotate_left; · (intro wq hSq; have hq := HCC.out wq hSq; go_split_ands; go_simp; (try with_reducible rfl))
  try simp only [Act.put, getElem_toArray, getElem_cons_zero, getElem_cons_succ, setIfInBounds_toArray, set_cons_zero, set_cons_succ]
  refine wpAnyH_take (i := 1) (v := ?_) rfl (by kernel_rfl) (by kernel_rfl) (by kernel_rfl) (fun _ _ _ h => h) (Or.inl ⟨by rfl, ?_⟩) (by assumption) ?_; rotate_left; · (intro wq hSq; have hq := HCC.out wq hSq; go_split_ands; go_simp; (try with_reducible rfl))
  try simp only [Act.put, getElem_toArray, getElem_cons_zero, getElem_cons_succ, setIfInBounds_toArray, set_cons_zero, set_cons_succ]
  refine wpAnyH_take (i := 2) (v := ?_) rfl (by kernel_rfl) (by kernel_rfl) (by kernel_rfl) (fun _ _ _ h => h) (Or.inl ⟨by rfl, ?_⟩) (by assumption) ?_; rotate_left; · (intro wq hSq; have hq := HCC.out wq hSq; go_split_ands; go_simp; (try with_reducible rfl))
  try simp only [Act.put, getElem_toArray, getElem_cons_zero, getElem_cons_succ, setIfInBounds_toArray, set_cons_zero, set_cons_succ]
  refine wpAnyH_take (i := 3) (v := ?_) rfl (by kernel_rfl) (by kernel_rfl) (by kernel_rfl) (fun _ _ _ h => h) (Or.inl ⟨by rfl, ?_⟩) (by assumption) ?_; rotate_left; · (intro wq hSq; have hq := HCC.out wq hSq; go_split_ands; go_simp; (try with_reducible rfl))
  try simp only [Act.put, getElem_toArray, getElem_cons_zero, getElem_cons_succ, setIfInBounds_toArray, set_cons_zero, set_cons_succ]
  refine wpAnyH_take (i := 5) (v := ?_) rfl (by kernel_rfl) (by kernel_rfl) (by kernel_rfl) (fun _ _ _ h => h) (Or.inl ⟨by rfl, ?_⟩) (by assumption) ?_; rotate_left; · (intro wq hSq; have hq := HCC.out wq hSq; go_split_ands; go_simp; (try with_reducible rfl))
  try simp only [Act.put, getElem_toArray, getElem_cons_zero, getElem_cons_succ, setIfInBounds_toArray, set_cons_zero, set_cons_succ]
  refine wpAnyH_take (i := 6) (v := ?_) rfl (by kernel_rfl) (by kernel_rfl) (by kernel_rfl) (fun _ _ _ h => h) (Or.inl ⟨by rfl, ?_⟩) (by assumption) ?_; rotate_left; · (intro wq hSq; have hq := HCC.out wq hSq; go_split_ands; go_simp; (try with_reducible rfl))
  try simp only [Act.put, getElem_toArray, getElem_cons_zero, getElem_cons_succ, setIfInBounds_toArray, set_cons_zero, set_cons_succ]
  refine wpAnyH_take (i := 7) (v := ?_) rfl (by kernel_rfl) (by kernel_rfl) (by kernel_rfl) (fun _ _ _ h => h) (Or.inl ⟨by rfl, ?_⟩) (by assumption) ?_; rotate_left; · (intro wq hSq; have hq := HCC.out wq hSq; go_split_ands; go_simp; (try with_reducible rfl))
  try simp only [Act.put, getElem_toArray, getElem_cons_zero, getElem_cons_succ, setIfInBounds_toArray, set_cons_zero, set_cons_succ]
  refine wpAnyH_take (i := 8) (v := ?_) rfl (by kernel_rfl) (by kernel_rfl) (by kernel_rfl) (fun _ _ _ h => h) (Or.inl ⟨by rfl, ?_⟩) (by assumption) ?_; rotate_left; · (intro wq hSq; have hq := HCC.out wq hSq; go_split_ands; go_simp; (try with_reducible rfl))
  try simp only [Act.put, getElem_toArray, getElem_cons_zero, getElem_cons_succ, setIfInBounds_toArray, set_cons_zero, set_cons_succ]
  refine wpAnyH_ready (rs := [4]) (by kernel_rfl) (by simp) ?_
  refine AllReadyH.cons rfl (fun K hK => ?_) AllReadyH.nil
  try simp only [getElem_toArray, getElem_cons_zero, getElem_cons_succ]
  go_simp
  refine (H1.out _).mono ?_
  rintro e w1 ⟨rfl, hF1⟩
  go_wp2_with fail
  refine hK.out _ _ (hHeld.trans' hF1) (fun hHeld => ?_)
  clear hK K
  try simp only [Act.put, setIfInBounds_toArray, set_cons_zero, set_cons_succ]
  refine wpAnyH_ready (rs := [9]) (by kernel_rfl) (by simp) ?_
  refine AllReadyH.cons rfl (fun K hK => ?_) AllReadyH.nil
  try simp only [getElem_toArray, getElem_cons_zero, getElem_cons_succ]
  go_simp
  refine (H2.out _).mono ?_
  rintro e w2 ⟨rfl, hF2⟩
  go_wp2_with fail
  refine hK.out _ _ (hHeld.trans' hF2) (fun hHeld => ?_)
  clear hK K
  try simp only [Act.put, setIfInBounds_toArray, set_cons_zero, set_cons_succ]
  refine wpAnyH_ready (rs := [10]) (by kernel_rfl) (by simp) ?_
  refine AllReadyH.cons rfl (fun K hK => ?_) AllReadyH.nil
  try simp only [getElem_toArray, getElem_cons_zero, getElem_cons_succ]
  go_simp
  refine (H3.out _).mono ?_
  rintro e w3 ⟨rfl, hF3⟩
  go_wp2_with fail
  refine hK.out _ _ (hHeld.trans' hF3) (fun hHeld => ?_)
  clear hK K
  try simp only [Act.put, setIfInBounds_toArray, set_cons_zero, set_cons_succ]
  refine wpAnyH_take (i := 11) (v := ?_) rfl (by kernel_rfl) (by kernel_rfl) (by kernel_rfl) (fun _ _ _ h => h) (Or.inl ⟨by rfl, ?_⟩) (by assumption) ?_; rotate_left; · (intro wq hSq; have hq := HCC.out wq hSq; go_split_ands; go_simp; (try with_reducible rfl))
  try simp only [Act.put, getElem_toArray, getElem_cons_zero, getElem_cons_succ, setIfInBounds_toArray, set_cons_zero, set_cons_succ]
  refine wpAnyH_done (by kernel_rfl) ?_ _
  go_wp2_with fail
  go_ret
  exact ⟨rfl, hHeld⟩
end Go.Proofs.YtemjdmgfilbfaaaGreat
