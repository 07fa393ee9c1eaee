/-
  A map of the call's own, ranged over: in whatever order. No Go function is named here. Pointers to items as keys of a map. The program's Load.
-/
import Derived.Maps.RangeWalk
import Derived.LaidEql
import Derived.Test.YtemjdmgfilbfaaaM38f6fa6d
import Derived.Test.YtemjdmgfilbfaaaM1d64679b
import Derived.Test.YtemjdmgfilbfaaaM37a9eb65
import Derived.Test.YtemjdmgfilbfaaaM87357a7f
set_option linter.unusedVariables false
set_option linter.unusedSimpArgs false
namespace Go.Proofs.Ytemjdmgfilbfaaa
open Go.RowKit Go.ChangeMaps Go.MapKept
set_option linter.unusedVariables false
set_option linter.unusedSimpArgs false

/-- As MapAt, and the entries' stamps are apart. -/
def MapB (S : Value → Prop) (w : World) (b : Nat) (m : List (Value × Value)) : Prop :=
  ∃ es clock, w.heap[b]? = some (.map es clock) ∧ es.toList.map (fun e => (e.key, e.val)) = m ∧ (∀ p ∈ m, S p.1) ∧ (m.map (·.1)).Nodup ∧ (es.toList.map (·.born)).Nodup ∧ ∀ e ∈ es.toList, e.born < clock
theorem MapB.at_ {S : Value → Prop} {w : World} {b : Nat} {m : List (Value × Value)} (h : MapB S w b m) : MapAt S w b m := by
  obtain ⟨es, c, h1, h2, h3, h4, _⟩ := h
  exact ⟨es, c, h1, h2, h3, h4⟩
theorem MapB.lt {S : Value → Prop} {w : World} {b : Nat} {m : List (Value × Value)} (h : MapB S w b m) : b < w.heap.size := h.at_.lt
theorem MapB.made (S : Value → Prop) (w : World) : MapB S (w.alloc (.map #[] 0)) w.heap.size [] :=
  ⟨#[], 0, heap_new w _, rfl, (fun p hp => by cases hp), List.nodup_nil, List.nodup_nil, fun e he => by cases he⟩
theorem MapB.frm {S : Value → Prop} {T : Nat → Prop} {w w' : World} {b : Nat} {m : List (Value × Value)} (h : MapB S w b m) (hF : Frm T w w') (hn : ¬ T b) : MapB S w' b m := by
  obtain ⟨es, c, hb, r⟩ := h
  exact ⟨es, c, hF.heap hb hn, r⟩
theorem MapB.push {P : Program} {k e t : TypeId} {S : Value → Prop} {w : World} {b : Nat} {m : List (Value × Value)} (h : MapB S w b m) (K : KeyOk P k S) (ht : P.underlying t = some (.map k e)) {key : Value} (hk : S key) (hno : ∀ p ∈ m, p.1 ≠ key) (v : Value) :
    ∃ w', (Instr.mapUpdate t (.map (some b)) key v).run P w = .ok () w' ∧ MapB S w' b (m ++ [(key, v)]) ∧ Frm (One b) w w' := by
  obtain ⟨es, cl, hb, hm, hS, hnd, hbn, hbl⟩ := h
  have hs : ∀ e ∈ es.toList, S e.key := fun e he => hS (e.key, e.val) (by rw [← hm]; exact List.mem_map_of_mem (f := fun e : MapEntry => (e.key, e.val)) he)
  rcases K.find w hk es.toList hs with ⟨h1, _⟩ | ⟨j, e0, h1, h2, h3⟩
  · refine ⟨setBlock w b (.map (es.push ⟨key, v, cl⟩) (cl + 1)), ?_, ⟨_, _, heap_setBlock_same hb _, by simp [hm], ?_, ?_, ?_, ?_⟩, ⟨rfl, rfl, rfl, by simp [setBlock], fun i _ hi => heap_setBlock_other hb _ (fun e => hi e)⟩⟩
    · simp [Instr.mapUpdate, run_underlying ht, MapKept.run_getObj_map hb, K.check w false hk, h1, MapKept.run_setObj_map _ hb, Result.andThen, setBlock]
    · intro p hp
      rcases List.mem_append.1 hp with hp | hp
      · exact hS p hp
      · simp at hp; subst hp; exact hk
    · rw [List.map_append, List.nodup_append]
      refine ⟨hnd, by simp, fun a ha b hb => ?_⟩
      simp at hb
      subst hb
      obtain ⟨p, hp, rfl⟩ := List.mem_map.1 ha
      exact hno p hp
    · rw [Array.toList_push, List.map_append, List.nodup_append]
      refine ⟨hbn, by simp, fun a ha b hb => ?_⟩
      simp at hb
      subst hb
      obtain ⟨p, hp, rfl⟩ := List.mem_map.1 ha
      have := hbl p hp
      omega
    · intro x hx
      rw [Array.toList_push] at hx
      rcases List.mem_append.1 hx with hx | hx
      · have := hbl x hx; omega
      · simp at hx; subst hx; simp
  · exact absurd h3 (hno (e0.key, e0.val) (by rw [← hm]; exact List.mem_map_of_mem (f := fun e : MapEntry => (e.key, e.val)) (List.mem_of_getElem? h2)))

/-- A new key is put in: what is asked of the key said outright. -/
theorem MapB.put_new {P : Program} {k e t : TypeId} {S : Value → Prop} {w : World} {b : Nat} {m : List (Value × Value)} (h : MapB S w b m) (ht : P.underlying t = some (.map k e)) {key : Value} (hk : S key) (hno : ∀ p ∈ m, p.1 ≠ key)
    (hc : (Instr.checkKey false 10000 k key).run P w = .ok () w) (hf : ∀ es : List MapEntry, (∀ e ∈ es, e.key ∈ m.map (·.1)) → (Instr.findKey k key es).run P w = .ok none w) (v : Value) :
    ∃ w', (Instr.mapUpdate t (.map (some b)) key v).run P w = .ok () w' ∧ MapB S w' b (m ++ [(key, v)]) ∧ Frm (One b) w w' := by
  obtain ⟨es, cl, hb, hm, hS, hnd, hbn, hbl⟩ := h
  have h1 := hf es.toList (fun e he => by rw [← hm, List.map_map]; exact List.mem_map_of_mem (f := fun e : MapEntry => e.key) he)
  refine ⟨setBlock w b (.map (es.push ⟨key, v, cl⟩) (cl + 1)), ?_, ⟨_, _, heap_setBlock_same hb _, by simp [hm], ?_, ?_, ?_, ?_⟩, ⟨rfl, rfl, rfl, by simp [setBlock], fun i _ hi => heap_setBlock_other hb _ (fun e => hi e)⟩⟩
  · simp [Instr.mapUpdate, run_underlying ht, MapKept.run_getObj_map hb, hc, h1, MapKept.run_setObj_map _ hb, Result.andThen, setBlock]
  · intro p hp
    rcases List.mem_append.1 hp with hp | hp
    · exact hS p hp
    · simp at hp; subst hp; exact hk
  · rw [List.map_append, List.nodup_append]
    refine ⟨hnd, by simp, fun a ha b hb => ?_⟩
    simp at hb
    subst hb
    obtain ⟨p, hp, rfl⟩ := List.mem_map.1 ha
    exact hno p hp
  · rw [Array.toList_push, List.map_append, List.nodup_append]
    refine ⟨hbn, by simp, fun a ha b hb => ?_⟩
    simp at hb
    subst hb
    obtain ⟨p, hp, rfl⟩ := List.mem_map.1 ha
    have := hbl p hp
    omega
  · intro x hx
    rw [Array.toList_push] at hx
    rcases List.mem_append.1 hx with hx | hx
    · have := hbl x hx; omega
    · simp at hx; subst hx; simp

/-- Block r goes through map b, which holds m; 'left' is still to come. -/
def IterB (w : World) (b r : Nat) (m left : List (Value × Value)) : Prop :=
  ∃ (es : Array MapEntry) (clock : Nat) (seen : Array Nat), w.heap[b]? = some (.map es clock) ∧ es.toList.map (fun e => (e.key, e.val)) = m ∧ (es.toList.map (·.born)).Nodup ∧ (∀ e ∈ es.toList, e.born < clock) ∧
    w.heap[r]? = some (.mapIter (some b) clock seen clock) ∧ left = ((leftOf es seen).toList.map fun e => (e.key, e.val))
theorem IterB.frm {T : Nat → Prop} {w w' : World} {b r : Nat} {m left : List (Value × Value)} (h : IterB w b r m left) (hF : Frm T w w') (hb : ¬ T b) (hr : ¬ T r) : IterB w' b r m left := by
  obtain ⟨es, c, seen, h1, h2, h3, h4, h5, h6⟩ := h
  exact ⟨es, c, seen, hF.heap h1 hb, h2, h3, h4, hF.heap h5 hr, h6⟩
theorem MapB.range {P : Program} {k e t : TypeId} {S : Value → Prop} {w : World} {b : Nat} {m : List (Value × Value)} (h : MapB S w b m) (ht : P.underlying t = some (.map k e)) :
    ∃ w', (Instr.range t (.map (some b))).run P w = .ok (.pointer (some ⟨w.heap.size, 0, none⟩)) w' ∧ IterB w' b w.heap.size m m ∧ Frm (fun _ => False) w w' ∧ w'.heap.size = w.heap.size + 1 := by
  obtain ⟨es, cl, hb, hm, hS, hnd, hbn, hbl⟩ := h
  refine ⟨w.alloc (.mapIter (some b) cl #[] cl), ?_, ⟨es, cl, #[], heap_alloc_old hb, hm, hbn, hbl, heap_new w _, ?_⟩, (Frm.refl _ _).alloc _, by simp⟩
  · simp [Instr.range, run_underlying ht, MapKept.run_getObj_map hb, Result.andThen, newObj]
    rfl
  · rw [← hm]
    congr 1
    unfold leftOf
    simp
    exact (List.filter_eq_self.2 (fun _ _ => rfl)).symm
theorem IterB.next {P : Program} {w : World} {b r : Nat} {m left : List (Value × Value)} (h : IterB w b r m left) (ty : TypeId) :
    (left = [] ∧ (Instr.next (.pointer (some ⟨r, 0, none⟩)) false ty).run P w = .ok (.tuple #[.bool false]) w) ∨
    ∃ k v left' w', (k, v) ∈ left ∧ (Instr.next (.pointer (some ⟨r, 0, none⟩)) false ty).run P w = .ok (.tuple #[.bool true, k, v]) w' ∧ IterB w' b r m left' ∧ left'.length < left.length ∧ (∀ p ∈ left, p ∈ left' ∨ p = (k, v)) ∧ (∀ p ∈ left', p ∈ left) ∧ Frm (One r) w w' ∧
      (Instr.entry (.pointer (some ⟨r, 0, none⟩))).run P w' = .ok (.tuple #[k, v]) w' := by
  obtain ⟨es, cl, seen, hb, hm, hbn, hbl, hr, hl⟩ := h
  rcases run_next_at (P := P) w ty r b cl cl seen es cl hr hb hbl (Nat.le_refl _) with ⟨h0, hrun⟩ | ⟨e, he, w1, hw1, hrun⟩
  · refine .inl ⟨?_, hrun⟩
    rw [hl, Array.eq_empty_of_size_eq_zero h0]
    rfl
  · have hb1 : w1.heap[b]? = some (.map es cl) := by rcases hw1 with rfl | rfl <;> exact hb
    have hr1 : w1.heap[r]? = some (.mapIter (some b) cl seen cl) := by rcases hw1 with rfl | rfl <;> exact hr
    have hrb : b ≠ r := fun h => by rw [h, hr] at hb; cases hb
    have hF1 : Frm (fun _ => False) w w1 := by
      rcases hw1 with rfl | rfl
      · exact Frm.refl _ _
      · exact (Frm.refl _ _).drew
    have hrs : r < w1.heap.size := (Array.getElem?_eq_some_iff.1 hr1).1
    have hbs : (setBlock w1 r (.mapIter (some b) cl (seen.push e.born) cl)).heap[b]? = some (.map es cl) := by
      unfold setBlock
      simp only []
      rw [Array.getElem?_setIfInBounds_ne (Ne.symm hrb)]
      exact hb1
    have hrr : (setBlock w1 r (.mapIter (some b) cl (seen.push e.born) cl)).heap[r]? = some (.mapIter (some b) cl (seen.push e.born) cl) := by
      unfold setBlock
      simp only []
      rw [Array.getElem?_setIfInBounds_self_of_lt hrs]
    have hee : e ∈ es.toList := by
      unfold leftOf at he
      simp at he
      simpa using he.1
    have hle : ∀ x, x ∈ (leftOf es (seen.push e.born)).toList ↔ x ∈ (leftOf es seen).toList ∧ x.born ≠ e.born := fun x => by
      unfold leftOf
      simp
      constructor
      · rintro ⟨h1, h2, h3⟩
        exact ⟨⟨h1, h2⟩, h3⟩
      · rintro ⟨⟨h1, h2⟩, h3⟩
        exact ⟨h1, h2, h3⟩
    refine .inr ⟨e.key, e.val, _, _, ?_, hrun, ⟨es, cl, seen.push e.born, hbs, hm, hbn, hbl, hrr, rfl⟩, ?_, ?_, ?_, ?_, run_entry_at (P := P) _ r b cl seen es cl e hrr hbs hee hbn⟩
    · rw [hl]
      exact List.mem_map_of_mem (f := fun e : MapEntry => (e.key, e.val)) he
    · rw [hl, List.length_map, List.length_map]
      have e1 : (leftOf es (seen.push e.born)).toList = (leftOf es seen).toList.filter (fun x => x.born != e.born) := by
        unfold leftOf
        simp only [Array.toList_filter, List.filter_filter]
        congr 1
        funext x
        simp [Bool.and_comm, bne]
        by_cases h1 : x.born = e.born <;> by_cases h2 : x.born ∈ seen <;> simp [h1, h2]
      rw [e1]
      exact List.length_filter_lt_length_iff_exists.2 ⟨e, he, by simp⟩
    · intro p hp
      rw [hl] at hp
      obtain ⟨x, hx, rfl⟩ := List.mem_map.1 hp
      by_cases hxe : x.born = e.born
      · right
        have hxs : x ∈ es.toList := by
          unfold leftOf at hx
          simp at hx
          simpa using hx.1
        have : x = e := by
          obtain ⟨i, hi, rfl⟩ := List.getElem_of_mem hxs
          obtain ⟨j, hj, rfl⟩ := List.getElem_of_mem hee
          have : i = j := nodup_at hbn (i := i) (k := j) (by simpa using hi) (by simpa using hj) (by simpa using hxe)
          subst this
          rfl
        rw [this]
      · left
        exact List.mem_map.2 ⟨x, (hle x).2 ⟨hx, hxe⟩, rfl⟩
    · intro p hp
      obtain ⟨x, hx, rfl⟩ := List.mem_map.1 hp
      rw [hl]
      exact List.mem_map.2 ⟨x, ((hle x).1 hx).1, rfl⟩
    · refine (hF1.mono (fun _ _ h => h.elim)).trans (T := One r) ⟨rfl, rfl, rfl, by simp [setBlock], fun i _ hi => ?_⟩ (fun _ _ h => h)
      unfold setBlock
      simp only []
      exact Array.getElem?_setIfInBounds_ne (fun h => hi h.symm)
/-- 'range m' at the operation. -/
theorem wpl_range {P : Program} {w : World} {ops : Array Oper} {rest : List Oper} {o : Oper} {a : Act} {Q : Exit → Act → World → Prop} {k e t : TypeId} {S : Value → Prop} {b : Nat} {m : List (Value × Value)} (hg : o.guard = none) (mo : Operand) (hop : o.op = Op.range t mo)
    (ht : P.underlying t = some (.map k e)) (h : MapB S w b m) (hm : a.eval mo = .map (some b))
    (hK : ∀ w', IterB w' b w.heap.size m m → Frm (fun _ => False) w w' → w'.heap.size = w.heap.size + 1 → wpList P ops Q rest (a.put o.dst (.pointer (some ⟨w.heap.size, 0, none⟩))) w') : wpList P ops Q (o :: rest) a w := by
  refine wpList_plain hg fun K' hK' => ?_
  obtain ⟨w', hrun, r1, r2, r3⟩ := h.range ht
  unfold Oper.wp
  simp [execOp, hop, hm, hrun, Result.andThen]
  exact hK' _ _ (hK w' r1 r2 r3)
/-- The step at the operation. -/
theorem wpl_next {P : Program} {w : World} {ops : Array Oper} {rest : List Oper} {o : Oper} {a : Act} {Q : Exit → Act → World → Prop} {b r : Nat} {m left : List (Value × Value)} (hg : o.guard = none) (it : Operand) (hop : o.op = Op.next it false)
    (hit : a.eval it = .pointer (some ⟨r, 0, none⟩)) (h : IterB w b r m left)
    (hDone : left = [] → wpList P ops Q rest (a.put o.dst (.tuple #[.bool false])) w)
    (hMore : ∀ k v left' w', (k, v) ∈ left → IterB w' b r m left' → left'.length < left.length → (∀ p ∈ left, p ∈ left' ∨ p = (k, v)) → (∀ p ∈ left', p ∈ left) → Frm (One r) w w' →
      (Instr.entry (.pointer (some ⟨r, 0, none⟩))).run P w' = .ok (.tuple #[k, v]) w' → wpList P ops Q rest (a.put o.dst (.tuple #[.bool true, k, v])) w') : wpList P ops Q (o :: rest) a w := by
  refine wpList_plain hg fun K' hK' => ?_
  unfold Oper.wp
  rcases h.next (P := P) o.type with ⟨h0, hrun⟩ | ⟨k, v, left', w', h1, hrun, h2, h3, h4, h5, h6, h7⟩
  · simp [execOp, hop, hit, hrun, Result.andThen]
    exact hK' _ _ (hDone h0)
  · simp [execOp, hop, hit, hrun, Result.andThen]
    exact hK' _ _ (hMore k v left' w' h1 h2 h3 h4 h5 h6 h7)
/-- 'm[k] = v' at the operation, a new key. -/
theorem wpl_pushB {P : Program} {w : World} {ops : Array Oper} {rest : List Oper} {o : Oper} {a : Act} {Q : Exit → Act → World → Prop} {k e t : TypeId} {S : Value → Prop} {b : Nat} {m : List (Value × Value)} (hg : o.guard = none) (mo x v : Operand) (hop : o.op = Op.mapUpdate t mo x v)
    (K : KeyOk P k S) (ht : P.underlying t = some (.map k e)) (h : MapB S w b m) (hm : a.eval mo = .map (some b)) {key val : Value} (hx : a.eval x = key) (hv : a.eval v = val) (hk : S key) (hno : ∀ p ∈ m, p.1 ≠ key)
    (hK : ∀ w', MapB S w' b (m ++ [(key, val)]) → Frm (One b) w w' → wpList P ops Q rest (a.put o.dst undef) w') : wpList P ops Q (o :: rest) a w := by
  refine wpList_plain hg fun K' hK' => ?_
  obtain ⟨w', hrun, r1, r2⟩ := h.push K ht hk hno val
  unfold Oper.wp
  simp [execOp, hop, hm, hx, hv, hrun, Result.andThen]
  exact hK' _ _ (hK w' r1 r2)
/-- The same at the operation. -/
theorem wpl_put_new {P : Program} {w : World} {ops : Array Oper} {rest : List Oper} {o : Oper} {a : Act} {Q : Exit → Act → World → Prop} {k e t : TypeId} {S : Value → Prop} {b : Nat} {m : List (Value × Value)} (hg : o.guard = none) (mo x v : Operand) (hop : o.op = Op.mapUpdate t mo x v)
    (ht : P.underlying t = some (.map k e)) (h : MapB S w b m) (hm : a.eval mo = .map (some b)) {key val : Value} (hx : a.eval x = key) (hv : a.eval v = val) (hk : S key) (hno : ∀ p ∈ m, p.1 ≠ key)
    (hc : (Instr.checkKey false 10000 k key).run P w = .ok () w) (hf : ∀ es : List MapEntry, (∀ e ∈ es, e.key ∈ m.map (·.1)) → (Instr.findKey k key es).run P w = .ok none w)
    (hK : ∀ w', MapB S w' b (m ++ [(key, val)]) → Frm (One b) w w' → wpList P ops Q rest (a.put o.dst undef) w') : wpList P ops Q (o :: rest) a w := by
  refine wpList_plain hg fun K' hK' => ?_
  obtain ⟨w', hrun, r1, r2⟩ := h.put_new ht hk hno hc hf val
  unfold Oper.wp
  simp [execOp, hop, hm, hx, hv, hrun, Result.andThen]
  exact hK' _ _ (hK w' r1 r2)
end Go.Proofs.Ytemjdmgfilbfaaa
namespace Go.Proofs.Ytemjdmgfilbfaaa
open Go.RowKit
set_option linter.unusedVariables false
set_option linter.unusedSimpArgs false

theorem info_item : ∃ j, Try.prog.info? 83 = some j ∧ j.size ≠ 0 := by
  have h : (Try.prog.info? 83).map (·.size) = some 17 := by kernel_rfl
  obtain ⟨i, hi, h1⟩ := Option.map_eq_some_iff.1 h
  exact ⟨i, hi, by omega⟩
theorem check_ptr (w : World) (em : Bool) (g : Nat) : (Instr.checkKey em 10000 81 (ptr g)).run Try.prog w = .ok () w := by
  have hu : Try.prog.underlying 81 = some (.pointer 83) := Try.underlying81
  have h : ∀ n : Nat, (Instr.checkKey em (n + 1) 81 (ptr g)).run Try.prog w = .ok () w := fun n => by
    unfold ptr Instr.checkKey
    simp [run_underlying hu, Result.andThen]
  exact h 9999
theorem equal_other (w : World) {g q : Nat} {c d : Array Value} {t s : TypeId} (hg : w.heap[g]? = some (.cells c t (0, 0))) (hq : w.heap[q]? = some (.cells d s (0, 0))) (hne : q ≠ g) : (Op.equal 81 (ptr g) (ptr q)).run Try.prog w = .ok false w := by
  have hu : Try.prog.underlying 81 = some (.pointer 83) := Try.underlying81
  obtain ⟨j, hj, hs⟩ := info_item
  have hn : (⟨g, 0, none⟩ : Addr) ≠ ⟨q, 0, none⟩ := fun e => hne (by cases e; rfl)
  have h : ∀ n : Nat, (Op.equalIn (n + 1) 81 (ptr g) (ptr q)).run Try.prog w = .ok false w := fun n => by
    unfold ptr
    simp [Op.equalIn, run_underlying hu, sizeOf, typeInfo, hj, hs, run_sameAddr_other w hn hg hq]
  exact h 9999
theorem find_ptr (w : World) {g : Nat} {c : Array Value} {t : TypeId} (hg : w.heap[g]? = some (.cells c t (0, 0))) (es : List MapEntry) (hes : ∀ e ∈ es, ∃ q d s, e.key = ptr q ∧ q ≠ g ∧ w.heap[q]? = some (.cells d s (0, 0))) :
    (Instr.findKey 81 (ptr g) es).run Try.prog w = .ok none w := by
  have hu : Try.prog.underlying 81 = some (.pointer 83) := Try.underlying81
  have hask : ∀ (l : List MapEntry) (i : Nat), (∀ e ∈ l, e ∈ es) → (Instr.findAsking 81 (ptr g) l i).run Try.prog w = .ok none w := by
    intro l
    induction l with
    | nil => intro i _; rfl
    | cons e r ih =>
      intro i hl
      obtain ⟨q, d, s, hk, hne, hq⟩ := hes e (hl e (List.mem_cons_self ..))
      unfold Instr.findAsking
      simp [hk, equal_other w hg hq hne, Result.andThen, ih (i + 1) (fun x hx => hl x (List.mem_cons_of_mem _ hx))]
  unfold Instr.findKey
  simp only [Sem.run_bind, run_underlying hu, Result.andThen]
  cases es with
  | nil => rfl
  | cons e r =>
    have : Instr.findNow (.pointer 83) (ptr g) (e :: r) 0 = none := by
      unfold Instr.findNow
      simp [Instr.sameNow]
    rw [this]
    exact hask (e :: r) 0 (fun x hx => hx)
end Go.Proofs.Ytemjdmgfilbfaaa
namespace Go.Proofs.Ytemjdmgfilbfaaa
open Go.RowKit
open List (getElem_toArray getElem_cons_zero getElem_cons_succ setIfInBounds_toArray set_cons_zero set_cons_succ)
set_option linter.unusedVariables false
set_option linter.unusedSimpArgs false

def LoadP (b : Nat) (l : List (Nat × Im)) (bs : List UInt8) (w : World) (e : Ending) (w' : World) : Prop :=
  e = .returned (.int .i64 (loadD (im l) bs).2) ∧ ∃ l', DAt w' b l' ∧ im l' = (loadD (im l) bs).1 ∧ l'.map (·.1) = l.map (·.1) ∧ Frm (fun j => ∃ q ∈ l, j = q.1) w w'
/-- The map's pairs. -/
def prs (l : List (Nat × Im)) (ps : List (Nat × Va)) : List (Value × Value) := ps.map fun p => ((l[p.1]?.map fun q => ptr q.1).getD (.pointer none), valV p.2)

theorem prs_snoc (l : List (Nat × Im)) (ps : List (Nat × Va)) (p : Nat × Va) : prs l (ps ++ [p]) = prs l ps ++ [((l[p.1]?.map fun q => ptr q.1).getD (.pointer none), valV p.2)] := by simp [prs]
theorem got_lt {d : List Im} {ls : List It} (h : (gotD d ls).1 = 0) : ∀ p ∈ (gotD d ls).2, p.1 < d.length := by
  intro p hp
  obtain ⟨h1, h2⟩ := got_places d ls h
  obtain ⟨j, hj, rfl⟩ := List.getElem_of_mem hp
  obtain ⟨hk, _⟩ := find_is (h2 j (by omega) hj)
  exact hk
theorem prs_facts {w : World} {b : Nat} {l : List (Nat × Im)} {ls : List It} {ps : List (Nat × Va)} {kk : Nat} {v : Va} (h : DAt w b l) (hs : (ls.map plP).Pairwise (· < ·)) (hg : gotD (im l) ls = (0, ps ++ [(kk, v)])) (hk : kk < l.length) :
    (∀ q ∈ prs l ps, q.1 ≠ ptr l[kk].1) ∧ ∀ es : List MapEntry, (∀ e ∈ es, e.key ∈ (prs l ps).map (·.1)) → (Instr.findKey 81 (ptr l[kk].1) es).run Try.prog w = .ok none w := by
  have hn := got_nodup hs (by rw [hg])
  have hlt := got_lt (d := im l) (ls := ls) (by rw [hg])
  rw [hg] at hn hlt
  simp only at hn hlt
  rw [List.map_append, List.nodup_append] at hn
  have hpq : ∀ q ∈ prs l ps, ∃ (j : Nat) (hj : j < l.length), q.1 = ptr l[j].1 ∧ l[j].1 ≠ l[kk].1 := fun q hq => by
    obtain ⟨x, hx, rfl⟩ := List.mem_map.1 hq
    have hxl : x.1 < l.length := by have := hlt x (List.mem_append_left _ hx); simpa using this
    refine ⟨x.1, hxl, by simp [hxl], fun e => ?_⟩
    have hne : x.1 ≠ kk := hn.2.2 x.1 (List.mem_map.2 ⟨x, hx, rfl⟩) kk (by simp)
    have := nodup_at h.nd (i := x.1) (k := kk) (by simpa using hxl) (by simpa using hk) (by simpa using e)
    exact hne this
  refine ⟨fun q hq e => ?_, fun es hes => ?_⟩
  · obtain ⟨j, hj, e1, e2⟩ := hpq q hq
    rw [e1] at e
    unfold ptr at e
    simp only [Value.pointer.injEq, Option.some.injEq, Addr.mk.injEq, and_true] at e
    exact e2 e
  · refine find_ptr w (h.el _ (List.getElem_mem hk)) es fun e he => ?_
    obtain ⟨q, hq, e1⟩ := List.mem_map.1 (hes e he)
    obtain ⟨j, hj, e2, e3⟩ := hpq q hq
    exact ⟨l[j].1, _, _, by rw [← e1, e2], e3, h.el _ (List.getElem_mem hj)⟩
theorem cell_map {w : World} {M o : Nat} {es : Array MapEntry} {cl : Nat} (h : w.heap[M]? = some (.map es cl)) : w.cell? ⟨M, o, none⟩ = none := by
  simp [World.cell?, h]
theorem bytes_map {w w' : World} {M : Nat} {es : Array MapEntry} {cl : Nat} {v : Value} {bs : List UInt8} (hb : BytesAt w v bs) (h : w.heap[M]? = some (.map es cl)) (hF : Frm (One M) w w') : BytesAt w' v bs := by
  obtain ⟨A, cap, rfl, h1, h2, h3⟩ := hb
  refine ⟨A, cap, rfl, h1, h2, fun h0 => ?_⟩
  obtain ⟨g, off, rfl, hc⟩ := h3 h0
  refine ⟨g, off, rfl, fun i hi => hF.cell (hc i hi) fun e => ?_⟩
  have e : g = M := e
  subst e
  have := hc i hi
  rw [cell_map h] at this
  cases this
theorem PartsAt.map_frm {B M : Nat} {w w' : World} {v : Value} {xs : List Itm} {es : Array MapEntry} {cl : Nat} (hp : PartsAt B w v xs) (h : w.heap[M]? = some (.map es cl)) (hF : Frm (One M) w w') : PartsAt B w' v xs := by
  refine ⟨hF.row hp.1 fun q hq e => ?_, fun x hx => ⟨bytes_map (hp.2 x hx).1 h hF, (hp.2 x hx).2⟩⟩
  have e : q = M := e
  subst e
  obtain ⟨_, cur, hc⟩ := row_block hp.1 hq
  rw [h] at hc
  cases hc
/-- How many are left of a range. -/
def itLeft (w : World) (M r : Nat) : Nat := match w.heap[M]?, w.heap[r]? with
  | some (.map es _), some (.mapIter _ _ seen _) => (leftOf es seen).toList.length
  | _, _ => 0
theorem IterB.left_eq {w : World} {M r : Nat} {m left : List (Value × Value)} (h : IterB w M r m left) : itLeft w M r = left.length := by
  obtain ⟨es, c, seen, h1, _, _, _, h5, h6⟩ := h
  unfold itLeft
  rw [h1, h5, h6]
  simp
theorem DAt.iter_frm {w w' : World} {b r : Nat} {l : List (Nat × Im)} {x : Option Nat} {s c : Nat} {seen : Array Nat} (h : DAt w b l) (hr : w.heap[r]? = some (.mapIter x s seen c)) (hF : Frm (One r) w w') : DAt w' b l := by
  have hne : ∀ k o t fz, w.heap[k]? = some (.cells o t fz) → k ≠ r := fun k o t fz hk e => by
    rw [e, hr] at hk
    cases hk
  obtain ⟨v, hO, _⟩ := h.row
  exact h.frm hF (fun e => hne _ _ _ _ hO e) (fun q hq e => hne _ _ _ _ (h.el q hq) e) (fun k cur e hk => hne _ _ _ _ hk e)
theorem IterB.sub {w : World} {M r : Nat} {m left : List (Value × Value)} (h : IterB w M r m left) : ∀ q ∈ left, q ∈ m := by
  obtain ⟨es, c, seen, _, h2, _, _, _, h6⟩ := h
  intro q hq
  rw [h6] at hq
  obtain ⟨x, hx, rfl⟩ := List.mem_map.1 hq
  rw [← h2]
  refine List.mem_map.2 ⟨x, ?_, rfl⟩
  unfold leftOf at hx
  simp at hx
  simpa using hx.1
/-- What a range over what was got has done so far. -/
structure Put (w : World) (b : Nat) (l l' : List (Nat × Im)) (ps : List (Nat × Va)) (left : List (Value × Value)) : Prop where
  at_ : DAt w b l'
  fst : l'.map (·.1) = l.map (·.1)
  ent : l'.map (·.2.1) = l.map (·.2.1)
  set : ∀ p ∈ ps, (∃ hk : p.1 < l.length, (ptr l[p.1].1, valV p.2) ∈ left) ∨ (l'[p.1]?.map (·.2.2)) = some p.2
  oth : ∀ k, (∀ p ∈ ps, p.1 ≠ k) → l'[k]? = l[k]?
theorem Put.done {w : World} {b : Nat} {l l' : List (Nat × Im)} {ps : List (Nat × Va)} (h : Put w b l l' ps []) (hn : (ps.map (·.1)).Nodup) : im l' = putAll (im l) ps := by
  have hl : l'.length = l.length := by have := congrArg List.length h.fst; simpa using this
  refine putAll_uniq hn (by simpa using hl) (fun p hp hk => ?_) (fun k hk => ?_)
  · have hk2 : p.1 < l.length := by simpa using hk
    have hk3 : p.1 < l'.length := by omega
    rcases h.set p hp with ⟨_, h1⟩ | h1
    · cases h1
    · have e : l'[p.1].2.1 = l[p.1].2.1 := by
        have := congrArg (fun z => z[p.1]?) h.ent
        simpa [hk2, hk3] using this
      simp [hk3] at h1
      simp only [List.getElem?_map, List.getElem?_eq_getElem hk3, Option.map_some, List.getElem_map, ← e]
      rw [← h1]
  · simp only [List.getElem?_map]
    rw [h.oth k hk]
theorem Put.step {w w' : World} {b : Nat} {l l' : List (Nat × Im)} {ps : List (Nat × Va)} {left left' : List (Value × Value)} (h : Put w b l l' ps left) (hnd : (l.map (·.1)).Nodup) (hn : (ps.map (·.1)).Nodup) {q : Nat × Va} (hq : q ∈ ps) (hql : q.1 < l.length) (hql' : q.1 < l'.length)
    (hall : ∀ x ∈ left, x ∈ left' ∨ x = (ptr l[q.1].1, valV q.2)) (hD : DAt w' b (l'.set q.1 (l'[q.1].1, (l'[q.1].2.1, q.2)))) : Put w' b l (l'.set q.1 (l'[q.1].1, (l'[q.1].2.1, q.2))) ps left' := by
  refine ⟨hD, ?_, ?_, fun p hp => ?_, fun k hk => ?_⟩
  · rw [List.map_set, ← h.fst]
    have e : (l'.map (·.1))[q.1]'(by simpa using hql') = l'[q.1].1 := by simp
    conv => lhs; rw [← e]
    exact List.set_getElem_self _
  · rw [List.map_set, ← h.ent]
    have e : (l'.map (·.2.1))[q.1]'(by simpa using hql') = l'[q.1].2.1 := by simp
    conv => lhs; rw [← e]
    exact List.set_getElem_self _
  · by_cases hpq : p.1 = q.1
    · have : p = q := nodup_of_map (f := (·.1)) hn hp hq hpq
      subst this
      right
      rw [List.getElem?_set_self hql']
      rfl
    · rcases h.set p hp with ⟨hk, h1⟩ | h1
      · left
        refine ⟨hk, ?_⟩
        rcases hall _ h1 with h2 | h2
        · exact h2
        · have e1 : ptr l[p.1].1 = ptr l[q.1].1 := congrArg Prod.fst h2
          unfold ptr at e1
          simp only [Value.pointer.injEq, Option.some.injEq, Addr.mk.injEq, and_true] at e1
          exact absurd (nodup_at hnd (i := p.1) (k := q.1) (by simpa using hk) (by simpa using hql) (by simpa using e1)) hpq
      · right
        rw [List.getElem?_set_ne (fun e => hpq e.symm)]
        exact h1
  · rw [List.getElem?_set_ne (fun e => hk q hq e)]
    exact h.oth k hk
/-- What Decode told, boxed. -/
def DecC (wr : World) (v : Va) (c : Int) (pv ev : Value) (wz : World) : Prop := ∃ gb, pv = .pointer (some ⟨gb, 0, none⟩) ∧ ev = .int .i64 c ∧ wz.heap[gb]? = some (.cells #[.int .i64 v.ty, .int .u64 v.n, .string (strB2 v.b)] 36 (0, 0)) ∧ Frm (fun _ => False) wr wz ∧ wr.heap.size ≤ gb
theorem store3c {w : World} {g : Nat} {t : TypeId} {fz : Nat × Nat} {d0 d1 d2 c0 c1 c2 : Value} (h : w.heap[g]? = some (.cells #[d0, d1, d2] t fz)) :
    (((w.setCell ⟨g, 0, none⟩ c0).setCell ⟨g, 1, none⟩ c1).setCell ⟨g, 2, none⟩ c2).heap[g]? = some (.cells #[c0, c1, c2] t fz) :=
  heap_set_at (heap_set_at (heap_set_at h rfl) rfl) rfl

set_option maxRecDepth 100000 in
set_option maxHeartbeats 2000000 in
theorem odLoad_any (b : Nat) (l : List (Nat × Im)) (v : Value) (bs : List UInt8) (w : World) (h : DAt w b l) (hd : DOk (im l)) (hv : BytesAt w v bs) (hl : bs.length ≤ 140737488351232) : Calls Try.prog 24 #[ptr b, v] w (LoadP b l bs w) := by
  have HD := Lib.hid h
  have HOK := Lib.hid hd
  have HPT := Lib.hid (odParts_any v bs w hv hl)
  have HBS := Lib.hid hv
  have HBL := Lib.hid hl
  obtain ⟨A, cap, rfl, _, _, _⟩ := hv
  obtain ⟨d, hde⟩ : ∃ d, d = im l := ⟨_, rfl⟩
  have HDE := Lib.hid hde
  unfold LoadP PartsP at *
  rw [← hde]
  clear h hd hl
  cases hp : partsD bs with
  | none =>
    have E : Hid (loadD d bs = (d, 8)) := by unfold Hid loadD; rw [hp]
    rw [E.out]
    have HPN := Lib.hid hp
    unfold ptr
    clear hp hde
    go_enter Try.func24, Try.ntmps24
    go_wp2_with (go_at_call 63; refine HPT.out.mono ?_; rintro e w1 ⟨hF1, ⟨-, rfl⟩ | ⟨ls, pv, xs, hs, -⟩⟩; rotate_left; exact absurd (hs.symm.trans HPN.out) (by simp); have HF1 := Lib.hid hF1; clear hF1)
    go_ret
    exact ⟨rfl, l, HD.out.grow HF1.out, HDE.out.symm, rfl, HF1.out.mono (fun _ _ h => h.elim)⟩
  | some ls =>
    have HPS := Lib.hid hp
    have E : Hid (loadD d bs = if (gotD d ls).1 ≠ 0 then (d, (gotD d ls).1) else (putAll d (gotD d ls).2, 0)) := by unfold Hid loadD; rw [hp]
    generalize loadD d bs = rr at *
    have hmm := @run_makeMap Try.prog
    unfold ptr
    clear hp hde
    go_enter Try.func24, Try.ntmps24
    go_wp2_with (go_at_call 63; refine HPT.out.mono ?_; rintro e w1 ⟨hF1, ⟨hn, -⟩ | ⟨ls', pv, xs, hs, rfl, hX, hxb⟩⟩; exact absurd (hn.symm.trans HPS.out) (by simp); have HF1 := Lib.hid hF1; have HX := Lib.hid hX; have HXB : Hid (xs.map bare = ls) := hxb.trans (Option.some.inj (hs.symm.trans HPS.out)); obtain ⟨Ap, cp, rfl, hm1, hm2, _⟩ := row_open hX.1; have hm63 : xs.length ≤ 9223372036854775807 := Nat.le_trans hm1 hm2; clear hF1 hX hxb hs hm1 hm2)
    clear hmm
    go_loopw [26] (fun i wr => ∃ k : Nat, k ≤ xs.length ∧ i = .int .i64 k ∧ MapB (fun _ => True) wr w1.heap.size (prs l (gotD d (ls.take k)).2) ∧ (gotD d (ls.take k)).1 = 0 ∧ Frm (fun _ => False) w wr ∧ PartsAt w.heap.size wr (.slice Ap xs.length cp) xs) (fun i _ => xs.length - (intOf i).toNat)
    case atStart => exact ⟨0, Nat.zero_le _, rfl, MapB.made _ _, rfl, HF1.out.alloc _, HX.out.grow ((Frm.refl _ _).alloc _)⟩
    case round =>
      obtain ⟨k, hk, rfl, hM, hc, hF, hX⟩ := hrel
      have HM := Lib.hid hM
      have HC := Lib.hid hc
      have HF := Lib.hid hF
      have hlsl : ls.length = xs.length := by rw [← HXB.out]; simp
      by_cases hlt : k < xs.length
      · have HKL : Hid (k + 1 ≤ xs.length) := hlt
        have hkl : k < ls.length := by omega
        have hmem := List.getElem_mem hlt
        have hlk : ls[k] = bare xs[k] := by
          have : ls[k]? = some (bare xs[k]) := by rw [← HXB.out, List.getElem?_map, List.getElem?_eq_getElem hlt]; rfl
          rw [List.getElem?_eq_getElem hkl] at this
          exact Option.some.inj this
        have HBAD := Lib.hid (fun c => gotD_bad (d := d) (c := c) hkl hc)
        have HGOOD := Lib.hid (fun p => gotD_good (d := d) (p := p) hkl hc)
        rw [hlk] at HBAD HGOOD
        obtain ⟨A', cap', eA, _, _, q3⟩ := row_open hX.1
        simp only [Value.slice.injEq] at eA
        obtain ⟨rfl, -, rfl⟩ := eA
        obtain ⟨g, rfl, _, ⟨cur, hcu⟩, _, hcc⟩ := q3 (by omega)
        have hgl := lt_of_block hcu
        have hcell : ∀ o (ho : o < 3), wr.cell? ⟨g, k * 3 + o, none⟩ = some ((encIt xs[k])[o]'(by rw [encIt_len]; exact ho)) := fun o ho => by
          rw [hcc _ (by omega), cellsOf_get encIt_len xs k o hlt ho]
          exact List.getElem?_eq_getElem (by rw [encIt_len]; exact ho)
        obtain ⟨hbx, hrg⟩ := hX.2 _ hmem
        have HX := Lib.hid hX
        have hxlen : (xs[k]).2.2.2.length ≤ 140737488351232 := by
          have h1 : bare xs[k] ∈ ls := by rw [← HXB.out]; exact List.mem_map_of_mem hmem
          have h2 := parts_len HPS.out _ h1
          have h3 := HBL.out
          exact Nat.le_trans h2 h3
        generalize xs[k] = x at *
        obtain ⟨xi, xsb, xv, xb⟩ := x
        simp only [bare, Rg] at hrg hbx HBAD HGOOD hlk
        simp only at hxlen
        have HXLN := Lib.hid hxlen
        clear hxlen
        obtain ⟨Ab, cb, rfl, _, _, _⟩ := hbx.open_
        have u0 := hcell 0 (by decide)
        have u1 := hcell 1 (by decide)
        have u2 := hcell 2 (by decide)
        simp only [encIt, getElem_cons_succ, getElem_cons_zero, Nat.add_zero] at u0 u1 u2
        have HBX := Lib.hid hbx
        have HFD := Lib.hid (fun W hW => odFind_any b l xi xsb W (HD.out.grow hW) HOK.out ⟨hrg.2.2.1, hrg.2.2.2⟩)
        unfold FindP ptr at HFD
        have kB := heap_new wr (.cells #[.int .u16 xi, .int .u8 xsb, .slice Ab xb.length cb] 114)
        have hxB : Frm (fun _ => False) wr (wr.alloc (.cells #[.int .u16 xi, .int .u8 xsb, .slice Ab xb.length cb] 114)) := (Frm.refl _ _).alloc _
        have KB := Lib.hid kB
        have HXB2 := Lib.hid (hF.trans' hxB)
        have HXW := Lib.hid hxB
        clear hM hc hF hX hcell hcc hcu q3 hbx hmem hrg kB hxB hlk
        go_wp2_with fail
        refine (HFD.out _ HXB2.out).mono ?_
        rintro e w3 ⟨hF3, hf⟩
        have HF3 := Lib.hid (HXB2.out.trans' hF3)
        have HK3 := Lib.hid (hF3.heap KB.out (fun h => h))
        have HM3 := Lib.hid (HM.out.frm (HXW.out.trans' hF3) (fun h => h))
        have HX3 := Lib.hid (HX.out.grow (HXW.out.trans' hF3))
        have HBX3 := Lib.hid (HBX.out.grow (HXW.out.trans' hF3))
        clear hF3 HFD HM HX HBX KB HXB2 HXW HF
        rcases hf with ⟨kk, hkk, hfd, -, -, rfl⟩ | ⟨hfd, hne, rfl⟩
        case inr =>
          have hfd' : findD d xi xsb = none := by rw [HDE.out]; exact hfd
          have H4 := Lib.hid (HBAD.out 4 (fun r => by rw [gotD_none (by exact hfd')]))
          have hb9 : (findC (im l) xi xsb != 0) = true := by simpa using hne
          clear hfd hfd' hne
          go_wp2_with fail
          go_ret
          rw [E.out, if_pos (by rw [H4.out]; decide), H4.out]
          exact ⟨rfl, l, HD.out.grow HF3.out, HDE.out.symm, rfl, HF3.out.mono (fun _ _ h => h.elim)⟩
        case inl =>
          have hfd' : findD d xi xsb = some kk := by rw [HDE.out]; exact hfd
          have hdk : d[kk]? = some l[kk].2 := by rw [HDE.out]; simp [hkk]
          have hit := HF3.out.heap (HD.out.el _ (List.getElem_mem hkk)) (fun h => h)
          have HACC := Lib.hid (fun (h1 : l[kk].2.1.acc ≠ 2) => HBAD.out 4 (fun r => by rw [gotD_acc (x := (xi, xsb, xb)) (by exact hfd') hdk h1]))
          have HDEC := Lib.hid (fun (h1 : l[kk].2.1.acc = 2) (h2 : (decV l[kk].2.1.df.ty xb).2 ≠ 0) => HBAD.out 8 (fun r => by rw [gotD_dec (x := (xi, xsb, xb)) (by exact hfd') hdk h1 h2]))
          have HNEXT := Lib.hid (fun (h1 : l[kk].2.1.acc = 2) (h2 : (decV l[kk].2.1.df.ty xb).2 = 0) => HGOOD.out (kk, (decV l[kk].2.1.df.ty xb).1) (fun r => by rw [gotD_next (x := (xi, xsb, xb)) (by exact hfd') hdk h1 h2]))
          have HIT := Lib.hid hit
          have HLK : Hid ((l[kk]?.map fun q => ptr q.1).getD (.pointer none) = ptr l[kk].1) := by unfold Hid; simp [hkk]
          have hsrt : ((ls.take (k + 1)).map plP).Pairwise (· < ·) := List.Pairwise.sublist (List.Sublist.map _ (List.take_sublist _ _)) (parts_sorted HPS.out)
          have HPF := Lib.hid (fun (W : World) (hW : DAt W b l) (u : Va) (hg : gotD (im l) (ls.take (k + 1)) = (0, (gotD d (ls.take k)).2 ++ [(kk, u)])) => prs_facts hW hsrt hg hkk)
          clear hfd hfd' hdk hit HBAD HGOOD hsrt
          generalize l[kk].1 = p at *
          generalize l[kk].2 = y at *
          have y2 : w3.cell? ⟨p, 2, none⟩ = some (.int .i64 y.1.acc) := cell_at HIT.out
          have y11 : w3.cell? ⟨p, 11, none⟩ = some (.int .i64 y.1.df.ty) := cell_at HIT.out
          have hpl := lt_of_block HIT.out
          have z2 : w3.cell? ⟨wr.heap.size, 2, none⟩ = some (.slice Ab xb.length cb) := cell_at HK3.out
          have hBl := lt_of_block HK3.out
          by_cases ha : y.1.acc = 2
          case neg =>
            have b1 : (y.1.acc != 2) = true := by simpa using ha
            have H4 := Lib.hid (HACC.out ha)
            clear ha HACC HDEC HNEXT
            go_wp2_with fail
            go_ret
            rw [E.out, if_pos (by rw [H4.out]; decide), H4.out]
            exact ⟨rfl, l, HD.out.grow HF3.out, HDE.out.symm, rfl, HF3.out.mono (fun _ _ h => h.elim)⟩
          case pos =>
            have HDEC2 := Lib.hid (HDEC.out ha)
            have HNEXT2 := Lib.hid (HNEXT.out ha)
            have b1 : (y.1.acc != 2) = false := by simpa using ha
            have HDE2 := Lib.hid (fun W (hW : Frm (fun _ => False) w3 W) => tyDec_any y.1.df.ty (.slice Ab xb.length cb) xb W (HBX3.out.grow hW) HXLN.out)
            have hcc : ∀ Wx, Frm (fun _ => False) w3 Wx → Wx.cell? ⟨p, 11, none⟩ = some (.int .i64 y.1.df.ty) ∧ Wx.cell? ⟨wr.heap.size, 2, none⟩ = some (.slice Ab xb.length cb) := fun Wx h => ⟨h.cell y11 (fun h => h), h.cell z2 (fun h => h)⟩
            have HCC := Lib.hid hcc
            generalize decV y.1.df.ty xb = dd at *
            obtain ⟨dv, de⟩ := dd
            unfold DecP valV at HDE2
            simp only at HDE2
            clear ha HACC HDEC HNEXT hcc
            go_upto_region 11 with fail
            clear y2 y11 z2
            go_cut [12, 13] (fun pv ev wz => DecC w3 dv de pv ev wz)
            case first =>
              refine wp_region_held_drew (S := fun W => Frm (fun _ => False) w3 W) (by kernel_rfl) ((Frm.refl _ _).drew) (fun hHeld => ?_)
              refine wpAnyH_take (i := 0) (v := ?_) rfl (by kernel_rfl) (by kernel_rfl) (by kernel_rfl) (fun _ _ _ h => h) (Or.inl ⟨by rfl, ?_⟩) (by assumption) ?_; rotate_left; · (intro wq hSq; have hq := HCC.out wq hSq; go_split_ands; go_simp; (try with_reducible rfl))
              try simp only [Act.put, getElem_toArray, getElem_cons_zero, getElem_cons_succ, setIfInBounds_toArray, set_cons_zero, set_cons_succ]
              refine wpAnyH_take (i := 1) (v := ?_) rfl (by kernel_rfl) (by kernel_rfl) (by kernel_rfl) (fun _ _ _ h => h) (Or.inl ⟨by rfl, ?_⟩) (by assumption) ?_; rotate_left; · (intro wq hSq; have hq := HCC.out wq hSq; go_split_ands; go_simp; (try with_reducible rfl))
              try simp only [Act.put, getElem_toArray, getElem_cons_zero, getElem_cons_succ, setIfInBounds_toArray, set_cons_zero, set_cons_succ]
              refine wpAnyH_take (i := 2) (v := ?_) rfl (by kernel_rfl) (by kernel_rfl) (by kernel_rfl) (fun _ _ _ h => h) (Or.inl ⟨by rfl, ?_⟩) (by assumption) ?_; rotate_left; · (intro wq hSq; have hq := HCC.out wq hSq; go_split_ands; go_simp; (try with_reducible rfl))
              try simp only [Act.put, getElem_toArray, getElem_cons_zero, getElem_cons_succ, setIfInBounds_toArray, set_cons_zero, set_cons_succ]
              refine wpAnyH_take (i := 3) (v := ?_) rfl (by kernel_rfl) (by kernel_rfl) (by kernel_rfl) (fun _ _ _ h => h) (Or.inl ⟨by rfl, ?_⟩) (by assumption) ?_; rotate_left; · (intro wq hSq; have hq := HCC.out wq hSq; go_split_ands; go_simp; (try with_reducible rfl))
              try simp only [Act.put, getElem_toArray, getElem_cons_zero, getElem_cons_succ, setIfInBounds_toArray, set_cons_zero, set_cons_succ]
              refine wpAnyH_take (i := 4) (v := ?_) rfl (by kernel_rfl) (by kernel_rfl) (by kernel_rfl) (fun _ _ _ h => h) (Or.inl ⟨by rfl, ?_⟩) (by assumption) ?_; rotate_left; · (intro wq hSq; have hq := HCC.out wq hSq; go_split_ands; go_simp; (try with_reducible rfl))
              try simp only [Act.put, getElem_toArray, getElem_cons_zero, getElem_cons_succ, setIfInBounds_toArray, set_cons_zero, set_cons_succ]
              refine wpAnyH_take (i := 5) (v := ?_) rfl (by kernel_rfl) (by kernel_rfl) (by kernel_rfl) (fun _ _ _ h => h) (Or.inl ⟨by rfl, ?_⟩) (by assumption) ?_; rotate_left; · (intro wq hSq; have hq := HCC.out wq hSq; go_split_ands; go_simp; (try with_reducible rfl))
              try simp only [Act.put, getElem_toArray, getElem_cons_zero, getElem_cons_succ, setIfInBounds_toArray, set_cons_zero, set_cons_succ]
              refine wpAnyH_take (i := 6) (v := ?_) rfl (by kernel_rfl) (by kernel_rfl) (by kernel_rfl) (fun _ _ _ h => h) (Or.inl ⟨by rfl, ?_⟩) (by assumption) ?_; rotate_left; · (intro wq hSq; have hq := HCC.out wq hSq; go_split_ands; go_simp; (try with_reducible rfl))
              try simp only [Act.put, getElem_toArray, getElem_cons_zero, getElem_cons_succ, setIfInBounds_toArray, set_cons_zero, set_cons_succ]
              refine wpAnyH_take (i := 7) (v := ?_) rfl (by kernel_rfl) (by kernel_rfl) (by kernel_rfl) (fun _ _ _ h => h) (Or.inl ⟨by rfl, ?_⟩) (by assumption) ?_; rotate_left; · (intro wq hSq; have hq := HCC.out wq hSq; go_split_ands; go_simp; (try with_reducible rfl))
              try simp only [Act.put, getElem_toArray, getElem_cons_zero, getElem_cons_succ, setIfInBounds_toArray, set_cons_zero, set_cons_succ]
              refine wpAnyH_ready (rs := [8, 12]) (by kernel_rfl) (by simp) ?_
              refine AllReadyH.cons rfl (fun K hK => ?_) (AllReadyH.cons rfl (fun K hK => ?_) AllReadyH.nil)
              · try simp only [getElem_toArray, getElem_cons_zero, getElem_cons_succ]
                go_simp
                refine (HDE2.out _ (Frm.refl _ _).drew).mono ?_
                rintro e w6 ⟨rfl, hF6⟩
                go_wp2_with fail
                refine hK.out _ _ (hHeld.trans' hF6) (fun hHeld => ?_)
                clear hK K
                try simp only [Act.put, setIfInBounds_toArray, set_cons_zero, set_cons_succ]
                refine wpAnyH_take (i := 9) (v := ?_) rfl (by kernel_rfl) (by kernel_rfl) (by kernel_rfl) (fun _ _ _ h => h) (Or.inl ⟨by rfl, ?_⟩) (by assumption) ?_; rotate_left; · (intro wq hSq; have hq := HCC.out wq hSq; go_split_ands; go_simp; (try with_reducible rfl))
                try simp only [Act.put, getElem_toArray, getElem_cons_zero, getElem_cons_succ, setIfInBounds_toArray, set_cons_zero, set_cons_succ]
                refine wpAnyH_take (i := 10) (v := ?_) rfl (by kernel_rfl) (by kernel_rfl) (by kernel_rfl) (fun _ _ _ h => h) (Or.inl ⟨by rfl, ?_⟩) (by assumption) ?_; rotate_left; · (intro wq hSq; have hq := HCC.out wq hSq; go_split_ands; go_simp; (try with_reducible rfl))
                try simp only [Act.put, getElem_toArray, getElem_cons_zero, getElem_cons_succ, setIfInBounds_toArray, set_cons_zero, set_cons_succ]
                refine wpAnyH_take (i := 11) (v := ?_) rfl (by kernel_rfl) (by kernel_rfl) (by kernel_rfl) (fun _ _ _ h => h) (Or.inl ⟨by rfl, ?_⟩) (by assumption) ?_; rotate_left; · (intro wq hSq; have hq := HCC.out wq hSq; go_split_ands; go_simp; (try with_reducible rfl))
                try simp only [Act.put, getElem_toArray, getElem_cons_zero, getElem_cons_succ, setIfInBounds_toArray, set_cons_zero, set_cons_succ]
                have hH6 := hHeld
                refine wpAnyH_ready (rs := [12]) (by kernel_rfl) (by simp) ?_
                refine AllReadyH.cons rfl (fun K hK => ?_) AllReadyH.nil
                try simp only [getElem_toArray, getElem_cons_zero, getElem_cons_succ]
                go_simp
                refine hK.out _ _ (hHeld.alloc _) (fun hHeld => ?_)
                clear hK K
                try simp only [Act.put, setIfInBounds_toArray, set_cons_zero, set_cons_succ]
                refine wpAnyH_ready (rs := [13]) (by kernel_rfl) (by simp) ?_
                refine AllReadyH.cons rfl (fun K hK => ?_) AllReadyH.nil
                try simp only [getElem_toArray, getElem_cons_zero, getElem_cons_succ]
                go_simp
                refine hK.out _ _ (hH6.alloc _) (fun hHeld => ?_)
                clear hK K
                try simp only [Act.put, setIfInBounds_toArray, set_cons_zero, set_cons_succ]
                refine wpAnyH_take (i := 14) (v := ?_) rfl (by kernel_rfl) (by kernel_rfl) (by kernel_rfl) (fun _ _ _ h => h) (Or.inl ⟨by rfl, ?_⟩) (by assumption) ?_; rotate_left; · (intro wq hSq; have hq := HCC.out wq hSq; go_split_ands; go_simp; (try with_reducible rfl))
                try simp only [Act.put, getElem_toArray, getElem_cons_zero, getElem_cons_succ, setIfInBounds_toArray, set_cons_zero, set_cons_succ]
                refine wpAnyH_done (by kernel_rfl) ?_ _
                have hB6 := Lib.hid (heap_new w6 (.cells #[.int .i64 dv.ty, .int .u64 dv.n, .string (strB2 dv.b)] 36))
                have hyF := Lib.hid (hH6.alloc (.cells #[.int .i64 dv.ty, .int .u64 dv.n, .string (strB2 dv.b)] 36))
                have hs6 := Lib.hid hH6.size
                clear hHeld hH6 hF6
                go_wp2_with fail
                go_meet
                exact ⟨_, rfl, rfl, hB6.out, hyF.out, hs6.out⟩
              · try simp only [getElem_toArray, getElem_cons_zero, getElem_cons_succ]
                go_simp
                refine hK.out _ _ (hHeld.alloc _) (fun hHeld => ?_)
                clear hK K
                try simp only [Act.put, setIfInBounds_toArray, set_cons_zero, set_cons_succ]
                refine wpAnyH_ready (rs := [8]) (by kernel_rfl) (by simp) ?_
                refine AllReadyH.cons rfl (fun K hK => ?_) AllReadyH.nil
                try simp only [getElem_toArray, getElem_cons_zero, getElem_cons_succ]
                go_simp
                refine (HDE2.out _ hHeld).mono ?_
                rintro e w6 ⟨rfl, hF6⟩
                have kz : w6.heap[w3.heap.size]? = some (.cells #[.int .i64 0, .int .u64 0, .string ⟨#[]⟩] 36 (0, 0)) := hF6.heap (by first | exact heap_new w3.drew _ | exact heap_drew' (heap_new w3 _) | exact heap_drew' (heap_new_at rfl)) (fun h => h)
                go_wp2_with fail
                refine hK.out _ _ (hHeld.trans' hF6) (fun hHeld => ?_)
                clear hK K
                try simp only [Act.put, setIfInBounds_toArray, set_cons_zero, set_cons_succ]
                refine wpAnyH_take (i := 9) (v := ?_) rfl (by kernel_rfl) (by kernel_rfl) (by kernel_rfl) (fun _ _ _ h => h) (Or.inl ⟨by rfl, ?_⟩) (by assumption) ?_; rotate_left; · (intro wq hSq; have hq := HCC.out wq hSq; go_split_ands; go_simp; (try with_reducible rfl))
                try simp only [Act.put, getElem_toArray, getElem_cons_zero, getElem_cons_succ, setIfInBounds_toArray, set_cons_zero, set_cons_succ]
                refine wpAnyH_take (i := 10) (v := ?_) rfl (by kernel_rfl) (by kernel_rfl) (by kernel_rfl) (fun _ _ _ h => h) (Or.inl ⟨by rfl, ?_⟩) (by assumption) ?_; rotate_left; · (intro wq hSq; have hq := HCC.out wq hSq; go_split_ands; go_simp; (try with_reducible rfl))
                try simp only [Act.put, getElem_toArray, getElem_cons_zero, getElem_cons_succ, setIfInBounds_toArray, set_cons_zero, set_cons_succ]
                refine wpAnyH_take (i := 11) (v := ?_) rfl (by kernel_rfl) (by kernel_rfl) (by kernel_rfl) (fun _ _ _ h => h) (Or.inl ⟨by rfl, ?_⟩) (by assumption) ?_; rotate_left; · (intro wq hSq; have hq := HCC.out wq hSq; go_split_ands; go_simp; (try with_reducible rfl))
                try simp only [Act.put, getElem_toArray, getElem_cons_zero, getElem_cons_succ, setIfInBounds_toArray, set_cons_zero, set_cons_succ]
                have n0 : w6.cell? ⟨w3.heap.size, 0, none⟩ = some (.int .i64 0) := cell_at kz
                have n1 : w6.cell? ⟨w3.heap.size, 1, none⟩ = some (.int .u64 0) := cell_at kz
                have n2 : w6.cell? ⟨w3.heap.size, 2, none⟩ = some (.string ⟨#[]⟩) := cell_at kz
                have nf := frees kz
                refine wpAnyH_ready (rs := [13]) (by kernel_rfl) (by simp) ?_
                refine AllReadyH.cons rfl (fun K hK => ?_) AllReadyH.nil
                try simp only [getElem_toArray, getElem_cons_zero, getElem_cons_succ]
                go_simp
                refine hK.out _ _ (((hHeld.setCell (p := ⟨w3.heap.size, 0, none⟩) (fun h => absurd h (Nat.lt_irrefl _)) _).setCell (p := ⟨w3.heap.size, 1, none⟩) (fun h => absurd h (Nat.lt_irrefl _)) _).setCell (p := ⟨w3.heap.size, 2, none⟩) (fun h => absurd h (Nat.lt_irrefl _)) _) (fun hHeld => ?_)
                clear hK K
                try simp only [Act.put, setIfInBounds_toArray, set_cons_zero, set_cons_succ]
                refine wpAnyH_take (i := 14) (v := ?_) rfl (by kernel_rfl) (by kernel_rfl) (by kernel_rfl) (fun _ _ _ h => h) (Or.inl ⟨by rfl, ?_⟩) (by assumption) ?_; rotate_left; · (intro wq hSq; have hq := HCC.out wq hSq; go_split_ands; go_simp; (try with_reducible rfl))
                try simp only [Act.put, getElem_toArray, getElem_cons_zero, getElem_cons_succ, setIfInBounds_toArray, set_cons_zero, set_cons_succ]
                refine wpAnyH_done (by kernel_rfl) ?_ _
                have hB6 := Lib.hid (store3c (c0 := .int .i64 dv.ty) (c1 := .int .u64 dv.n) (c2 := .string (strB2 dv.b)) kz)
                have hyF := Lib.hid hHeld
                clear hHeld hF6 kz n0 n1 n2 nf
                go_wp2_with fail
                go_meet
                exact ⟨_, rfl, rfl, hB6.out, hyF.out, Nat.le_refl _⟩
            case rest =>
              obtain ⟨gb, rfl, rfl, hB, hFc, hgb⟩ := hcut
              have f0 : wc.cell? ⟨gb, 0, none⟩ = some (.int .i64 dv.ty) := cell_at hB
              have f1 : wc.cell? ⟨gb, 1, none⟩ = some (.int .u64 dv.n) := cell_at hB
              have f2 : wc.cell? ⟨gb, 2, none⟩ = some (.string (strB2 dv.b)) := cell_at hB
              have hgbl := lt_of_block hB
              have HFC := Lib.hid (HF3.out.trans' hFc)
              have HMC := Lib.hid (HM3.out.frm hFc (fun h => h))
              have HXC := Lib.hid (HX3.out.grow hFc)
              clear hB hFc HCC HDE2 HM3 HX3 HBX3
              by_cases hde : de = 0
              case neg =>
                have H8 := Lib.hid (HDEC2.out hde)
                have b2 : (de != 0) = true := by simpa using hde
                clear hde HDEC2 HNEXT2
                go_wp2_with fail
                go_ret
                rw [E.out, if_pos (by rw [H8.out]; decide), H8.out]
                exact ⟨rfl, l, HD.out.grow HFC.out, HDE.out.symm, rfl, HFC.out.mono (fun _ _ h => h.elim)⟩
              case pos =>
                subst hde
                have HN := Lib.hid (HNEXT2.out rfl)
                obtain ⟨p1, p2⟩ := HPF.out wc (HD.out.grow HFC.out) dv (by rw [← HDE.out]; exact HN.out)
                obtain ⟨w4, hrun, hM4, hF4⟩ := HMC.out.put_new (P := Try.prog) Try.underlying112 (key := ptr p) trivial p1 (check_ptr _ _ _) p2 (valV dv)
                have HM4 := Lib.hid hM4
                have hF4' : Frm (fun _ => False) w w4 := HFC.out.trans hF4 (fun i hi e => by cases e; have := HF1.out.size; omega)
                have HF4 := Lib.hid hF4'
                have HX4 : Hid (PartsAt w.heap.size w4 (.slice (some ⟨g, 0, none⟩) xs.length cp) xs) := by
                  obtain ⟨es9, cl9, h9, _⟩ := HMC.out
                  exact HXC.out.map_frm h9 hF4
                unfold ptr valV at hrun
                clear hM4 hF4 hF4' p1 p2 HDEC2 HNEXT2
                go_wp2_with fail
                go_roundw
                case rel => exact ⟨k + 1, HKL.out, by go_num, by rw [HN.out, prs_snoc, HLK.out]; exact HM4.out, by rw [HN.out], HF4.out, HX4.out⟩
                case measure => have := HKL.out; simp [intOf]; omega
      · have hkn : k = xs.length := by omega
        subst hkn
        rw [← hlsl, List.take_length] at HM HC
        obtain ⟨ps, hps⟩ : ∃ ps, ps = (gotD d ls).2 := ⟨_, rfl⟩
        rw [← hps] at HM
        have HND := Lib.hid (got_nodup (parts_sorted HPS.out) HC.out)
        have HLT := Lib.hid (got_lt HC.out)
        rw [← hps] at HND HLT
        have HE : Hid (rr = (putAll d ps, 0)) := by unfold Hid; rw [E.out, if_neg (by rw [HC.out]; decide), hps]
        have HDr := Lib.hid (HD.out.grow hF)
        clear hM hc hF hX hps hlsl
        obtain ⟨wo, hwo⟩ : ∃ wo : World, wo = wr := ⟨_, rfl⟩
        subst hwo
        go_wp2_with (at_range; refine wpl_range rfl (.tmp 69) rfl Try.underlying112 HM.out rfl ?_; intro w4 hit4 hF4 hs4)
        try go_frame
        have hPut : Put w4 b l l ps (prs l ps) := ⟨HDr.out.grow hF4, rfl, rfl, fun p hp => .inl (by
          have hk : p.1 < l.length := by have := HLT.out p hp; rw [HDE.out] at this; simpa using this
          exact ⟨hk, List.mem_map.2 ⟨p, hp, by simp [hk]⟩⟩), fun k _ => rfl⟩
        have HPUT := Lib.hid hPut
        have HIT4 := Lib.hid hit4
        have HF4 := Lib.hid (HF.out.trans' hF4)
        clear hit4 hF4 hPut HM
        go_loopw [14] (fun _ wr => ∃ (left : List (Value × Value)) (l' : List (Nat × Im)), IterB wr w1.heap.size wo.heap.size (prs l ps) left ∧ Put wr b l l' ps left ∧ Frm (fun j => ∃ q ∈ l, j = q.1) w wr) (fun _ wr => itLeft wr w1.heap.size wo.heap.size)
        case atStart => exact ⟨_, l, HIT4.out, HPUT.out, HF4.out.mono (fun _ _ h => h.elim)⟩
        case round =>
          obtain ⟨left, l', hit, hput, hFr⟩ := hrel
          have HITR := Lib.hid hit
          have HPR := Lib.hid hput
          have HFR := Lib.hid hFr
          clear hit hput hFr
          go_wp2_with (at_next; refine wpl_next rfl (.tmp 70) rfl rfl HITR.out ?_ ?_)
          · intro hl0
            subst hl0
            have HDN := Lib.hid (HPR.out.done HND.out)
            go_wp2_with fail
            go_ret
            rw [HE.out]
            exact ⟨rfl, l', HPR.out.at_, by rw [HDN.out, HDE.out], HPR.out.fst, by first | exact HFR.out | exact HFR.out.mono (fun _ _ ⟨q, hq, e⟩ => ⟨q.2.1, q.2.2, by subst e; exact hq⟩)⟩
          · intro kv vv left' w5 hmem hit5 hlt hall hsub hF5 hen
            have hsb := HITR.out.sub _ hmem
            obtain ⟨q, hq, e⟩ := List.mem_map.1 hsb
            have hql : q.1 < l.length := by have := HLT.out q hq; rw [HDE.out] at this; simpa using this
            have hql' : q.1 < l'.length := by have := congrArg List.length HPR.out.fst; simp at this; omega
            simp only [List.getElem?_eq_getElem hql, Option.map_some, Option.getD_some, Prod.mk.injEq] at e
            obtain ⟨rfl, rfl⟩ := e
            have hrr : ∃ (es : Array MapEntry) (c : Nat) (seen : Array Nat), wr.heap[w1.heap.size]? = some (.map es c) ∧ wr.heap[wo.heap.size]? = some (.mapIter (some w1.heap.size) c seen c) := by
              obtain ⟨es, c, seen, h1, _, _, _, h5, _⟩ := HITR.out
              exact ⟨es, c, seen, h1, h5⟩
            obtain ⟨es, c, seen, hmp, hir⟩ := hrr
            have hD5 := HPR.out.at_.iter_frm hir hF5
            have he1 : l'[q.1].1 = l[q.1].1 := by
              have := congrArg (fun z => z[q.1]?) HPR.out.fst
              simpa [hql, hql'] using this
            have hi := hD5.el _ (List.getElem_mem hql')
            have HUPD := Lib.hid (fun W x' hF hp => hD5.upd hql' x' (w' := W) hF hp)
            have HSTEP := Lib.hid (fun W hD => HPR.out.step HD.out.nd HND.out hq hql hql' (w' := W) (left' := left') (fun x hx => by
              rcases hall x.1 x.2 hx with h | h
              · exact .inl h
              · exact .inr (Prod.ext h.1 h.2)) hD)
            have HMEM : Hid (∃ q' ∈ l, l[q.1].1 = q'.1) := ⟨l[q.1], List.getElem_mem hql, rfl⟩
            rw [he1] at hi
            have hpM : w1.heap.size ≠ l[q.1].1 := fun e => by
              have h8 := hD5.el _ (List.getElem_mem hql')
              have h9 := HPR.out.at_.el _ (List.getElem_mem hql')
              unfold ItAt at h9
              rw [he1, ← e, hmp] at h9
              cases h9
            have hpR : wo.heap.size ≠ l[q.1].1 := fun e => by
              have h9 := HPR.out.at_.el _ (List.getElem_mem hql')
              unfold ItAt at h9
              rw [he1, ← e, hir] at h9
              cases h9
            have HE1 := Lib.hid he1
            have hle := HITR.out.left_eq
            have HLE := Lib.hid hle
            have HLTN := Lib.hid hlt
            have HIT5 := Lib.hid hit5
            have HF5 := Lib.hid hF5
            have HI := Lib.hid hi
            have i14 : w5.cell? ⟨l[q.1].1, 14, none⟩ = some (.int .i64 l'[q.1].2.2.ty) := cell_at hi
            have i15 : w5.cell? ⟨l[q.1].1, 15, none⟩ = some (.int .u64 l'[q.1].2.2.n) := cell_at hi
            have i16 : w5.cell? ⟨l[q.1].1, 16, none⟩ = some (.string (strB2 l'[q.1].2.2.b)) := cell_at hi
            have hfz := frees hi
            have hpl := lt_of_block hi
            unfold ptr valV at hen ⊢
            clear hmem hsb hit5 hlt hall hsub hF5 hD5 hi hle hmp hir
            generalize l[q.1].1 = p at *
            go_wp2_with fail
            have hFp : Frm (One p) w5 ((((w5.setCell ⟨p, 14, none⟩ (.int .i64 q.2.ty)).setCell ⟨p, 15, none⟩ (.int .u64 q.2.n)).setCell ⟨p, 16, none⟩ (.string (strB2 q.2.b))).alloc (.cells #[.int .i64 q.2.ty, .int .u64 q.2.n, .string (strB2 q.2.b)] 36)) := ((((Frm.refl _ _).set1 _).set1 _).set1 _).alloc _
            have hIp : ItAt ((((w5.setCell ⟨p, 14, none⟩ (.int .i64 q.2.ty)).setCell ⟨p, 15, none⟩ (.int .u64 q.2.n)).setCell ⟨p, 16, none⟩ (.string (strB2 q.2.b))).alloc (.cells #[.int .i64 q.2.ty, .int .u64 q.2.n, .string (strB2 q.2.b)] 36)) p (l'[q.1].2.1, q.2) := heap_alloc_old (store17 q.2 HI.out)
            have hDp := HUPD.out _ (l'[q.1].2.1, q.2) (by rw [HE1.out]; exact hFp) (by rw [HE1.out]; exact hIp)
            have hPp := HSTEP.out _ hDp
            have hIt := HIT5.out.frm hFp (fun e => hpM e) (fun e => hpR e)
            have hFf : Frm (fun j => ∃ q ∈ l, j = q.1) w ((((w5.setCell ⟨p, 14, none⟩ (.int .i64 q.2.ty)).setCell ⟨p, 15, none⟩ (.int .u64 q.2.n)).setCell ⟨p, 16, none⟩ (.string (strB2 q.2.b))).alloc (.cells #[.int .i64 q.2.ty, .int .u64 q.2.n, .string (strB2 q.2.b)] 36)) :=
              HFR.out.trans (T := fun j => j = wo.heap.size ∨ j = p) ((HF5.out.mono (fun _ _ h => .inl h)).trans hFp (fun _ _ h => .inr h)) (fun i hi h => h.elim (fun e => absurd hi (Nat.not_lt.2 (by rw [e]; exact HF.out.size))) (fun e => by rw [e]; exact HMEM.out))
            have hMs := hIt.left_eq
            have HPP := Lib.hid hPp
            have HITP := Lib.hid hIt
            have HFF := Lib.hid hFf
            have HMS := Lib.hid hMs
            clear hFp hIp hDp hPp hIt hFf hMs
            go_roundw
            case rel => exact ⟨left', _, HITP.out, HPP.out, HFF.out⟩
            case measure =>
              rw [HMS.out, HLE.out]
              exact HLTN.out
end Go.Proofs.Ytemjdmgfilbfaaa
