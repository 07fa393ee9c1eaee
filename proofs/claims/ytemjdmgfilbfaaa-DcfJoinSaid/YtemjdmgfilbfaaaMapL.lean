/-
  A map of the call's own, as a list of keys and values in the order in which they came. No Go function is named here.
-/
import Derived.Test.YtemjdmgfilbfaaaCore
import Derived.Maps.OwnOps
import Derived.Maps.OwnSet
namespace Go.Proofs.Ytemjdmgfilbfaaa
open Go.RowKit Go.ChangeMaps Go.MapKept
set_option linter.unusedVariables false

/-- Keys of a type that the model compares as they stand. -/
structure KeyOk (P : Program) (k : TypeId) (S : Value → Prop) : Prop where
  check : ∀ (w : World) (em : Bool) {v : Value}, S v → (Instr.checkKey em 10000 k v).run P w = .ok () w
  find : ∀ (w : World) {x : Value}, S x → ∀ es : List MapEntry, (∀ e ∈ es, S e.key) →
    ((Instr.findKey k x es).run P w = .ok none w ∧ ∀ e ∈ es, e.key ≠ x) ∨ ∃ j e, (Instr.findKey k x es).run P w = .ok (some (j, e.val)) w ∧ es[j]? = some e ∧ e.key = x
  stays : ∀ (w : World) {v : Value}, S v → (Instr.keyThatStays v v).run P w = .ok v w

theorem KeyOk.of_keyed {P : Program} {k : TypeId} (K : Maps.Keyed P k) : KeyOk P k (fun v => ∃ l, keyOf P k v = some l) where
  check w em _ h := by obtain ⟨l, h⟩ := h; exact K.check w em h
  find w _ h es hes := by obtain ⟨l, h⟩ := h; exact K.find w h es hes
  stays w _ h := by obtain ⟨l, h⟩ := h; exact K.stays w h

/-- Block b is a map that holds m: keys and values, as they came. -/
def MapAt (S : Value → Prop) (w : World) (b : Nat) (m : List (Value × Value)) : Prop :=
  ∃ es clock, w.heap[b]? = some (.map es clock) ∧ es.toList.map (fun e => (e.key, e.val)) = m ∧ (∀ p ∈ m, S p.1) ∧ (m.map (·.1)).Nodup

theorem MapAt.lt {S : Value → Prop} {w : World} {b : Nat} {m : List (Value × Value)} (h : MapAt S w b m) : b < w.heap.size := by
  obtain ⟨es, c, hb, _⟩ := h
  exact (Array.getElem?_eq_some_iff.1 hb).1
theorem MapAt.made (S : Value → Prop) (w : World) : MapAt S (w.alloc (.map #[] 0)) w.heap.size [] :=
  ⟨#[], 0, heap_new w _, rfl, (fun p hp => by cases hp), List.nodup_nil⟩
theorem MapAt.frm {S : Value → Prop} {T : Nat → Prop} {w w' : World} {b : Nat} {m : List (Value × Value)} (h : MapAt S w b m) (hF : Frm T w w') (hn : ¬ T b) : MapAt S w' b m := by
  obtain ⟨es, c, hb, r⟩ := h
  exact ⟨es, c, hF.heap hb hn, r⟩

section
variable {P : Program} {k e t : TypeId} {S : Value → Prop} {w : World} {b : Nat} {m : List (Value × Value)}

theorem MapAt.entries (h : MapAt S w b m) : ∃ es clock, w.heap[b]? = some (.map es clock) ∧ es.toList.map (fun e => (e.key, e.val)) = m ∧ ∀ e ∈ es.toList, S e.key := by
  obtain ⟨es, c, hb, hm, hs, _⟩ := h
  exact ⟨es, c, hb, hm, fun e he => hs (e.key, e.val) (by rw [← hm]; exact List.mem_map_of_mem (f := fun e : MapEntry => (e.key, e.val)) he)⟩

/-- 'm[k]' of a key that is not there. -/
theorem MapAt.miss (h : MapAt S w b m) (K : KeyOk P k S) (ht : P.underlying t = some (.map k e)) {z : Value} (hz : (zeroValue e).run P w = .ok z w) {key : Value} (hk : S key) (hno : ∀ p ∈ m, p.1 ≠ key) (c : Bool) :
    (Instr.lookup t (.map (some b)) key c).run P w = .ok (if c then .tuple #[z, .bool false] else z) w := by
  obtain ⟨es, cl, hb, hm, hs⟩ := h.entries
  rcases K.find w hk es.toList hs with ⟨h1, _⟩ | ⟨j, e0, h1, h2, h3⟩
  · simp [Instr.lookup, run_underlying ht, MapKept.run_getObj_map hb, K.check w _ hk, h1, hz, Result.andThen]
  · exact absurd h3 (hno (e0.key, e0.val) (by rw [← hm]; exact List.mem_map_of_mem (f := fun e : MapEntry => (e.key, e.val)) (List.mem_of_getElem? h2)))

/-- 'm[k]' of a key that is there. -/
theorem MapAt.hit (h : MapAt S w b m) (K : KeyOk P k S) (ht : P.underlying t = some (.map k e)) {key v : Value} (hk : S key) (hin : (key, v) ∈ m) (c : Bool) :
    (Instr.lookup t (.map (some b)) key c).run P w = .ok (if c then .tuple #[v, .bool true] else v) w := by
  obtain ⟨es, cl, hb, hm, hs⟩ := h.entries
  obtain ⟨_, _, _, _, _, hnd⟩ := h
  rcases K.find w hk es.toList hs with ⟨_, h2⟩ | ⟨j, e0, h1, h2, h3⟩
  · rw [← hm] at hin
    obtain ⟨e0, he, h3⟩ := List.mem_map.1 hin
    cases h3
    exact absurd rfl (h2 e0 he)
  · have hv : e0.val = v := by
      have h4 : (e0.key, e0.val) ∈ m := by rw [← hm]; exact List.mem_map_of_mem (f := fun e : MapEntry => (e.key, e.val)) (List.mem_of_getElem? h2)
      rw [h3] at h4
      obtain ⟨i, hi, hie⟩ := List.getElem_of_mem h4
      obtain ⟨i', hi', hie'⟩ := List.getElem_of_mem hin
      have : i = i' := nodup_at hnd (i := i) (k := i') (by simpa using hi) (by simpa using hi') (by simp [hie, hie'])
      subst this
      rw [hie] at hie'
      simpa using hie'
    subst hv
    simp [Instr.lookup, run_underlying ht, MapKept.run_getObj_map hb, K.check w _ hk, h1, Result.andThen]

/-- 'm[k] = v' of a key that is not there. -/
theorem MapAt.push (h : MapAt S w b m) (K : KeyOk P k S) (ht : P.underlying t = some (.map k e)) {key : Value} (hk : S key) (hno : ∀ p ∈ m, p.1 ≠ key) (v : Value) :
    ∃ w', (Instr.mapUpdate t (.map (some b)) key v).run P w = .ok () w' ∧ MapAt S w' b (m ++ [(key, v)]) ∧ Frm (One b) w w' := by
  obtain ⟨es, cl, hb, hm, hs⟩ := h.entries
  obtain ⟨_, _, _, _, hS, hnd⟩ := h
  rcases K.find w hk es.toList hs with ⟨h1, _⟩ | ⟨j, e0, h1, h2, h3⟩
  · refine ⟨setBlock w b (.map (es.push ⟨key, v, cl⟩) (cl + 1)), ?_, ⟨_, _, heap_setBlock_same hb _, by simp [hm], ?_, ?_⟩, ⟨rfl, rfl, rfl, by simp [setBlock], fun i _ hi => heap_setBlock_other hb _ (fun e => hi e)⟩⟩
    · simp [Instr.mapUpdate, run_underlying ht, MapKept.run_getObj_map hb, K.check w false hk, h1, MapKept.run_setObj_map _ hb, Result.andThen, setBlock]
    · intro p hp
      rcases List.mem_append.1 hp with hp | hp
      · exact hS p hp
      · simp at hp; subst hp; exact hk
    · rw [List.map_append, List.nodup_append]
      refine ⟨hnd, by simp, fun a ha b hb => ?_⟩
      simp at hb
      subst hb
      obtain ⟨p, hp, rfl⟩ := List.mem_map.1 ha
      exact hno p hp
  · exact absurd h3 (hno (e0.key, e0.val) (by rw [← hm]; exact List.mem_map_of_mem (f := fun e : MapEntry => (e.key, e.val)) (List.mem_of_getElem? h2)))

/-- 'm[k] = v' of a key that is there. -/
theorem MapAt.put (h : MapAt S w b m) (K : KeyOk P k S) (ht : P.underlying t = some (.map k e)) {key v0 : Value} (hk : S key) {j : Nat} (hj : m[j]? = some (key, v0)) (v : Value) :
    ∃ w', (Instr.mapUpdate t (.map (some b)) key v).run P w = .ok () w' ∧ MapAt S w' b (m.set j (key, v)) ∧ Frm (One b) w w' := by
  obtain ⟨es, cl, hb, hm, hs⟩ := h.entries
  obtain ⟨_, _, _, _, hS, hnd⟩ := h
  rcases K.find w hk es.toList hs with ⟨_, h2⟩ | ⟨i, e0, h1, h2, h3⟩
  · have hin := List.mem_of_getElem? hj
    rw [← hm] at hin
    obtain ⟨e0, he, h3⟩ := List.mem_map.1 hin
    cases h3
    exact absurd rfl (h2 e0 he)
  · have hi : i < es.toList.length := (List.getElem?_eq_some_iff.1 h2).1
    have hje : es[i]? = some e0 := by simpa using h2
    have hmi : m[i]? = some (e0.key, e0.val) := by rw [← hm, List.getElem?_map, h2]; rfl
    have hij : i = j := by
      obtain ⟨a1, a2⟩ := List.getElem?_eq_some_iff.1 hmi
      obtain ⟨b1, b2⟩ := List.getElem?_eq_some_iff.1 hj
      exact nodup_at hnd (i := i) (k := j) (by simpa using a1) (by simpa using b1) (by simp [a2, b2, h3])
    subst hij
    have hlist : (es.modify i (fun e' => { e' with key := key, val := v })).toList = es.toList.set i { e0 with key := key, val := v } := by rw [Array.toList_modify, modify_eq_set _ _ _ _ h2]
    have hmap : (es.modify i (fun e' => { e' with key := key, val := v })).toList.map (fun e => (e.key, e.val)) = m.set i (key, v) := by
      rw [hlist, List.map_set, hm]
    refine ⟨setBlock w b (.map (es.modify i (fun e' => { e' with key := key, val := v })) cl), ?_, ⟨_, _, heap_setBlock_same hb _, hmap, ?_, ?_⟩, ⟨rfl, rfl, rfl, by simp [setBlock], fun i _ hi => heap_setBlock_other hb _ (fun e => hi e)⟩⟩
    · simp [Instr.mapUpdate, run_underlying ht, MapKept.run_getObj_map hb, K.check w false hk, h1, hje, h3, K.stays w hk, MapKept.run_setObj_map _ hb, Result.andThen, setBlock]
    · intro p hp
      rcases List.mem_or_eq_of_mem_set hp with hp | rfl
      · exact hS p hp
      · exact hk
    · have : (m.set i (key, v)).map (·.1) = m.map (·.1) := by
        rw [List.map_set]
        apply List.ext_getElem?
        intro q
        rw [List.getElem?_set]
        split
        · subst q
          rw [List.getElem?_map, hj]
          simp [(List.getElem?_eq_some_iff.1 hj).1]
        · rfl
      rw [this]
      exact hnd
end

/-- 'm[k] = v' at the operation. -/
theorem wpl_push {P : Program} {w : World} {ops : Array Oper} {rest : List Oper} {o : Oper} {a : Act} {Q : Exit → Act → World → Prop} {k e t : TypeId} {S : Value → Prop} {b : Nat} {m : List (Value × Value)} (hg : o.guard = none) (mo x v : Operand) (hop : o.op = Op.mapUpdate t mo x v)
    (K : KeyOk P k S) (ht : P.underlying t = some (.map k e)) (h : MapAt S w b m) (hm : a.eval mo = .map (some b)) {key val : Value} (hx : a.eval x = key) (hv : a.eval v = val) (hk : S key) (hno : ∀ p ∈ m, p.1 ≠ key)
    (hK : ∀ w', MapAt S w' b (m ++ [(key, val)]) → Frm (One b) w w' → wpList P ops Q rest (a.put o.dst undef) w') : wpList P ops Q (o :: rest) a w := by
  refine wpList_plain hg fun K' hK' => ?_
  obtain ⟨w', hrun, r1, r2⟩ := h.push K ht hk hno val
  unfold Oper.wp
  simp [execOp, hop, hm, hx, hv, hrun, Result.andThen]
  exact hK' _ _ (hK w' r1 r2)
theorem wpl_put {P : Program} {w : World} {ops : Array Oper} {rest : List Oper} {o : Oper} {a : Act} {Q : Exit → Act → World → Prop} {k e t : TypeId} {S : Value → Prop} {b : Nat} {m : List (Value × Value)} (hg : o.guard = none) (mo x v : Operand) (hop : o.op = Op.mapUpdate t mo x v)
    (K : KeyOk P k S) (ht : P.underlying t = some (.map k e)) (h : MapAt S w b m) (hm : a.eval mo = .map (some b)) {key val v0 : Value} (hx : a.eval x = key) (hv : a.eval v = val) (hk : S key) {j : Nat} (hj : m[j]? = some (key, v0))
    (hK : ∀ w', MapAt S w' b (m.set j (key, val)) → Frm (One b) w w' → wpList P ops Q rest (a.put o.dst undef) w') : wpList P ops Q (o :: rest) a w := by
  refine wpList_plain hg fun K' hK' => ?_
  obtain ⟨w', hrun, r1, r2⟩ := h.put K ht hk hj val
  unfold Oper.wp
  simp [execOp, hop, hm, hx, hv, hrun, Result.andThen]
  exact hK' _ _ (hK w' r1 r2)
end Go.Proofs.Ytemjdmgfilbfaaa
