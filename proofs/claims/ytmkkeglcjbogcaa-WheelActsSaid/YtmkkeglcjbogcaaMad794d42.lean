/-
  Small laws on worlds that every text of this seat uses: blocks, frames, byte rows. No Go function is named here. A map of the call's own, as a list of keys and values in the order in which they came. No Go function is named here. A map of the call's own, ranged over: in whatever order. No Go function is named here. A map's entry: looked for, then written. No Go function is named here. A map of the call's own, whatever order its entries stand in. No Go function is named here. The wheel as a function: its timers by their numbers, whatever slots. No program in sight.
-/
import Derived.WalkKit
import Derived.WalkSpells
import Derived.WalkLawsBesides
import Derived.ProofKit
import Derived.Deep.Draws
import Derived.Deep.AppendLies
import Derived.Deep.RegionHeld3
import Derived.Deep.QuietTactic
import Derived.BigQuiet
import Derived.Lib.Hide
import Derived.KernelRfl
import Derived.Maps.OwnOps
import Derived.Maps.OwnSet
import Derived.Maps.RangeWalk
set_option linter.unusedVariables false
set_option linter.unusedSimpArgs false
namespace Go.Proofs.Ytmkkeglcjbogcaa
open Go.RowKit

/-- Blocks of S aside (and new ones), w' is as w was. -/
structure Frm (S : Nat → Prop) (w w' : World) : Prop where
  os : w'.os = w.os
  tape : w'.tape = w.tape
  output : w'.output = w.output
  size : w.heap.size ≤ w'.heap.size
  block : ∀ k, k < w.heap.size → ¬ S k → w'.heap[k]? = w.heap[k]?

section
variable {S T U : Nat → Prop} {a b c w w' : World}

theorem Frm.refl (S : Nat → Prop) (w : World) : Frm S w w := ⟨rfl, rfl, rfl, Nat.le_refl _, fun _ _ _ => rfl⟩

theorem Frm.trans (h : Frm S a b) (k : Frm T b c) (hT : ∀ i, i < a.heap.size → T i → S i) : Frm S a c :=
  ⟨k.os.trans h.os, k.tape.trans h.tape, k.output.trans h.output, Nat.le_trans h.size k.size,
    fun i hi hn => (k.block i (Nat.lt_of_lt_of_le hi h.size) (fun ht => hn (hT i hi ht))).trans (h.block i hi hn)⟩

theorem Frm.trans' (h : Frm S a b) (k : Frm S b c) : Frm S a c := h.trans k fun _ _ h => h

theorem Frm.mono (h : Frm S a b) (hS : ∀ i, i < a.heap.size → S i → T i) : Frm T a b :=
  ⟨h.os, h.tape, h.output, h.size, fun i hi hn => h.block i hi fun hs => hn (hS i hi hs)⟩

theorem Frm.alloc (h : Frm S a w) (o : Obj) : Frm S a (w.alloc o) :=
  ⟨h.os, h.tape, h.output, by have := h.size; simp; omega, fun k hk hn => by
    rw [Below.heap_alloc _ _ _ (Nat.lt_of_lt_of_le hk h.size)]; exact h.block k hk hn⟩

theorem Frm.drew (h : Frm S a w) : Frm S a w.drew := ⟨h.os, h.tape, h.output, h.size, h.block⟩
theorem Frm.drewN (h : Frm S a w) (n : Nat) : Frm S a (w.drewN n) := ⟨h.os, h.tape, h.output, h.size, h.block⟩

theorem Frm.setCell (h : Frm S a w) {p : Addr} (hp : p.block < a.heap.size → S p.block) (u : Value) : Frm S a (w.setCell p u) :=
  ⟨h.os, h.tape, h.output, by have := h.size; simp; omega, fun k hk hn => by
    rw [Below.heap_setCell _ _ _ _ (fun e => hn (by rw [e]; exact hp (by rw [← e]; exact hk)))]; exact h.block k hk hn⟩

theorem Frm.grown (h : Frm S a w) {row : Option Nat} (hg : w.grownBy w' row) (hr : ∀ k, row = some k → k < a.heap.size → S k) : Frm S a w' :=
  ⟨hg.os.trans h.os, hg.tape.trans h.tape, hg.output.trans h.output, Nat.le_trans h.size hg.size, fun k hk hn => by
    rw [hg.block k (Nat.lt_of_lt_of_le hk h.size) (fun e => hn (hr k e.symm hk))]; exact h.block k hk hn⟩

theorem Frm.of_below {B : Nat} (h : Below B a b) : Frm (fun k => B ≤ k) a b :=
  ⟨h.os, h.tape, h.output, h.size, fun k _ hn => h.block k (by omega)⟩

theorem Frm.below {B : Nat} (h : Frm S a b) (hB : B ≤ a.heap.size) (hS : ∀ i, i < B → ¬ S i) : Below B a b :=
  ⟨h.os, h.tape, h.output, h.size, fun k hk => h.block k (by omega) (hS k hk)⟩

theorem Frm.heap (h : Frm S w w') {k : Nat} {o : Obj} (hk : w.heap[k]? = some o) (hn : ¬ S k) : w'.heap[k]? = some o := by
  rw [h.block k (lt_of_block hk) hn]; exact hk

theorem Frm.heapEq (h : Frm S w w') {k : Nat} (hk : k < w.heap.size) (hn : ¬ S k) : w'.heap[k]? = w.heap[k]? := h.block k hk hn

theorem Frm.cell (h : Frm S w w') {p : Addr} {v : Value} (hk : w.cell? p = some v) (hn : ¬ S p.block) : w'.cell? p = some v := by
  rw [World.cell?_of_block (w := w) (h.block _ (World.block_lt_of_cell? w p hk) hn)]; exact hk

theorem Frm.row (h : Frm S w w') {base e size n : Nat} {v : Value} {xs : List Value} (hr : w.ownsRow base e size v n xs) (hn : ∀ k, v.ownBlock = some k → ¬ S k) :
    w'.ownsRow base e size v n xs := by
  obtain ⟨h1, h2⟩ := hr
  refine ⟨h1, ?_⟩
  rcases h2 with h2 | ⟨g, cap, cur, rfl, hg, hh, r⟩
  · exact Or.inl h2
  · exact Or.inr ⟨g, cap, cur, rfl, hg, h.heap hh (hn g rfl), r⟩
end

theorem nodup_at {α : Type} {l : List α} (h : l.Nodup) {i k : Nat} (hi : i < l.length) (hk : k < l.length) (e : l[i] = l[k]) : i = k := by
  rcases Nat.lt_trichotomy i k with h1 | h1 | h1
  · exact absurd e (List.pairwise_iff_getElem.1 h i k hi hk h1)
  · exact h1
  · exact absurd e.symm (List.pairwise_iff_getElem.1 h k i hk hi h1)

/-- The one block b. -/
def One (b : Nat) : Nat → Prop := fun k => k = b
theorem Frm.set1 {b o : Nat} {a w : World} (h : Frm (One b) a w) (u : Value) : Frm (One b) a (w.setCell ⟨b, o, none⟩ u) := h.setCell (p := ⟨b, o, none⟩) (fun _ => rfl) u

theorem row_base {w : World} {base base' e size n : Nat} {v : Value} {xs : List Value} (hr : w.ownsRow base e size v n xs) (hb : base' ≤ base) : w.ownsRow base' e size v n xs := by
  obtain ⟨h1, h2⟩ := hr
  refine ⟨h1, ?_⟩
  rcases h2 with h2 | ⟨g, cap, cur, hv, hg, hh, r⟩
  · exact Or.inl h2
  · exact Or.inr ⟨g, cap, cur, hv, by omega, hh, r⟩

theorem row_new {w : World} {cs : Array Value} {e n size B g : Nat} {xs : List Value} (hg : g = w.heap.size) (h : cs.size = n * size) (hx : cs.toList = xs) (hn : n ≤ maxLen) (hB : B ≤ w.heap.size) :
    (w.alloc (.cells cs e)).ownsRow B e size (.slice (some ⟨g, 0, none⟩) n n) n xs := by
  subst hg
  refine ⟨by rw [← hx]; simpa using h, .inr ⟨w.heap.size, n, cs, rfl, hB, heap_alloc_new w _, Nat.le_refl _, hn, h, ?_⟩⟩
  rw [hx, List.take_of_length_le (by rw [← hx]; simp [h])]

/-- The type and block of a row that is not nil. -/
theorem row_block {w : World} {base e size n : Nat} {v : Value} {xs : List Value} (hr : w.ownsRow base e size v n xs) {k : Nat} (hk : v.ownBlock = some k) :
    base ≤ k ∧ ∃ cur, w.heap[k]? = some (.cells cur e (0, 0)) := by
  rcases hr.2 with ⟨rfl, _⟩ | ⟨g, cap, cur, rfl, hg, hh, r⟩
  · cases hk
  · cases hk; exact ⟨hg, cur, hh⟩

/-- What a row's value looks like, and its cells. -/
theorem row_open {w : World} {base e size n : Nat} {v : Value} {xs : List Value} (hr : w.ownsRow base e size v n xs) :
    ∃ (A : Option Addr) (cap : Nat), v = .slice A n cap ∧ n ≤ cap ∧ cap ≤ maxLen ∧
      (0 < n → ∃ g, A = some ⟨g, 0, none⟩ ∧ base ≤ g ∧ (∃ cur, w.heap[g]? = some (.cells cur e (0, 0))) ∧ (∀ j, w.frozen? ⟨g, j, none⟩ = false) ∧ ∀ j, j < n * size → w.cell? ⟨g, j, none⟩ = xs[j]?) := by
  have hr' := hr
  rcases hr.2 with ⟨rfl, rfl⟩ | ⟨g, cap, cur, rfl, hg, hh, hc, hm, hs, ht⟩
  · exact ⟨none, 0, rfl, Nat.le_refl _, Nat.zero_le _, fun h => absurd h (by omega)⟩
  · exact ⟨_, cap, rfl, hc, hm, fun _ => ⟨g, rfl, hg, ⟨cur, hh⟩, fun j => hr'.frozenAt j, fun j hj => hr'.cellAt j hj⟩⟩

theorem block_ne {w : World} {i j : Nat} {c d : Array Value} {s t : TypeId} {f g : Nat × Nat} (hi : w.heap[i]? = some (.cells c s f)) (hj : w.heap[j]? = some (.cells d t g)) (h : s ≠ t) : i ≠ j := by
  rintro rfl
  rw [hi] at hj
  cases hj
  exact h rfl

theorem heap_set_same {w : World} {b o : Nat} {cs : Array Value} {t : TypeId} {fz : Nat × Nat} (h : w.heap[b]? = some (.cells cs t fz)) (v : Value) :
    (w.setCell ⟨b, o, none⟩ v).heap[b]? = some (.cells (cs.setIfInBounds o v) t fz) := by
  simp [World.setCell, Array.getElem?_modify, h]

theorem heap_set_other {w : World} {k : Nat} {a : Addr} {v : Value} {x : Option Obj} (h : w.heap[k]? = x) (hk : k ≠ a.block) : (w.setCell a v).heap[k]? = x := by
  rw [Below.heap_setCell _ _ _ _ hk]; exact h

theorem heap_alloc_old {w : World} {k : Nat} {o x : Obj} (h : w.heap[k]? = some x) : (w.alloc o).heap[k]? = some x := by
  rw [Below.heap_alloc _ _ _ (lt_of_block h)]; exact h

theorem heap_new (w : World) (o : Obj) : (w.alloc o).heap[w.heap.size]? = some o := heap_alloc_new w o

theorem heap_drew' {w : World} {k : Nat} {x : Option Obj} (h : w.heap[k]? = x) : w.drew.heap[k]? = x := h
theorem heap_drewN' {w : World} {m k : Nat} {x : Option Obj} (h : w.heap[k]? = x) : (w.drewN m).heap[k]? = x := h
theorem heap_set_at {w : World} {b o : Nat} {cs ds : Array Value} {t : TypeId} {fz : Nat × Nat} {v : Value} (h : w.heap[b]? = some (.cells cs t fz)) (e : cs.setIfInBounds o v = ds) :
    (w.setCell ⟨b, o, none⟩ v).heap[b]? = some (.cells ds t fz) := by rw [← e]; exact heap_set_same h v
theorem heap_fin {w : World} {b : Nat} {cs ds : Array Value} {t : TypeId} {fz : Nat × Nat} (h : w.heap[b]? = some (.cells cs t fz)) (e : cs = ds) : w.heap[b]? = some (.cells ds t fz) := by rw [← e]; exact h
theorem cell_alloc_old {w : World} {a : Addr} {v : Value} {o : Obj} (h : w.cell? a = some v) : (w.alloc o).cell? a = some v := by
  rw [World.cell?_of_block (w := w) (Below.heap_alloc w o a.block (World.block_lt_of_cell? w a h))]; exact h
theorem cell_drew' {w : World} {a : Addr} {v : Value} (h : w.cell? a = some v) : w.drew.cell? a = some v := h
theorem cell_drewN' {w : World} {a : Addr} {n : Nat} {v : Value} (h : w.cell? a = some v) : (w.drewN n).cell? a = some v := h
theorem heap_new_at {w : World} {k : Nat} {o : Obj} (h : k = w.heap.size) : (w.alloc o).heap[k]? = some o := by rw [h]; exact heap_new w o

theorem cell_at {w : World} {b o : Nat} {cs : Array Value} {t : TypeId} {fz : Nat × Nat} (h : w.heap[b]? = some (.cells cs t fz)) : w.cell? ⟨b, o, none⟩ = cs[o]? := by
  simp [World.cell?, h]

theorem free_at {w : World} {b o : Nat} {cs : Array Value} {t : TypeId} (h : w.heap[b]? = some (.cells cs t (0, 0))) : w.frozen? ⟨b, o, none⟩ = false := by
  simp [World.frozen?, h]
theorem frees {w : World} {b : Nat} {cs : Array Value} {t : TypeId} (h : w.heap[b]? = some (.cells cs t (0, 0))) : ∀ o, w.frozen? ⟨b, o, none⟩ = false := fun _ => free_at h

/-- What append asks of its types: t a slice of e, 'size' cells and 'bytes' bytes each. -/
structure El (P : Program) (t e : TypeId) (size bytes : Nat) : Prop where
  ht : P.underlying t = some (.slice e)
  pos : 0 < size
  ex : ∃ i z, P.info? e = some i ∧ i.zero = some z ∧ i.size = size ∧ i.bytes = bytes ∧ z.cells.size = size

theorem El.of {P : Program} {t e : TypeId} {z : Value} {size bytes : Nat} (ht : P.underlying t = some (.slice e)) (h : (P.info? e).map (fun i => (i.zero, i.size, i.bytes)) = some (some z, size, bytes)) (hz : z.cells.size = size) (hp : 0 < size) :
    El P t e size bytes := by
  obtain ⟨i, hi, h0, h1, h2⟩ := info_parts h
  exact ⟨ht, hp, i, z, hi, h0, h1, h2, hz⟩

theorem add_zero' (b i : Nat) : (⟨b, 0, none⟩ : Addr).add i = ⟨b, i, none⟩ := by
  unfold Addr.add
  by_cases h : i = 0
  · simp [h]
  · simp [h]
theorem add_off (b o i : Nat) : (⟨b, o, none⟩ : Addr).add i = ⟨b, o + i, none⟩ := by
  unfold Addr.add
  by_cases h : i = 0
  · simp [h]
  · simp [h]

/-- Append of a slice that lies in a block just made. -/
theorem wpl_app_new {P : Program} {ops : Array Oper} {rest : List Oper} {o : Oper} {a : Act} {Q : Exit → Act → World → Prop} {W : World} {t e e2 : TypeId} {size bytes B : Nat} (hgd : o.guard = none) (E : El P t e size bytes) (s x : Operand)
    (ho : o.op = .call { callee := .builtin .append, args := #[s, x], argTypes := #[t, t] }) {v : Value} {n g m c : Nat} {xs : List Value} {arr : Array Value} (hs : a.eval s = v) (hx : a.eval x = .slice (some ⟨g, 0, none⟩) m c)
    (hg : g = W.heap.size) (hown : W.ownsRow B e size v n xs) (hl : arr.size = m * size) (h1 : ∀ u ∈ arr.toList, u.oneCell' = true)
    (h63 : n + m ≤ maxLen) (hbytes : (n + m) * bytes ≤ 140737488355328) (hbase : B ≤ W.heap.size)
    (h : ∀ v' w', w'.ownsRow B e size v' (n + m) (xs ++ arr.toList) → Frm (fun k => v.ownBlock = some k) W w' → wpList P ops Q rest (a.put o.dst v') w') : wpList P ops Q (o :: rest) a (W.alloc (.cells arr e2)) := by
  obtain ⟨i, z, hi, hz, h2, h3, h4⟩ := E.ex
  refine wpList_append_own _ hgd s x t ho B e i z size bytes E.ht hi hz h2 h3 h4 E.pos v n xs hs (hown.alloc _) ⟨g, 0, none⟩ m c arr.toList hx (by simpa using hl) ?_ h1 h63 hbytes (by simp; omega) ?_
  · intro j u hj
    subst hg
    rw [add_zero', World.cell?_alloc_new]
    simpa using hj
  · intro v' w' ho' hg' _
    exact h v' w' ho' (((Frm.refl _ _).alloc _).grown hg' (fun k hk _ => hk))

/-- Append of a slice that lies in a block known whole: at a plain region's operation, and at one that draws its order. -/
theorem wp_app {P : Program} {o : Oper} {a : Act} {K : Act → World → Prop} {Q : Exit → Act → World → Prop} {w : World} {t e e2 : TypeId} {size bytes B : Nat} (E : El P t e size bytes) (s x : Operand)
    (ho : o.op = .call { callee := .builtin .append, args := #[s, x], argTypes := #[t, t] }) {v : Value} {n gb m c : Nat} {xs : List Value} {arr : Array Value} {fr : Nat × Nat} (hs : a.eval s = v) (hx : a.eval x = .slice (some ⟨gb, 0, none⟩) m c)
    (hown : w.ownsRow B e size v n xs) (hnew : w.heap[gb]? = some (.cells arr e2 fr)) (hl : arr.size = m * size) (h1 : ∀ u ∈ arr.toList, u.oneCell' = true) (hm : 0 < m)
    (h63 : n + m ≤ maxLen) (hbytes : (n + m) * bytes ≤ 140737488355328) (hbase : B ≤ w.heap.size)
    (h : ∀ g cap w', w'.ownsRow B e size (.slice (some ⟨g, 0, none⟩) (n + m) cap) (n + m) (xs ++ arr.toList) → Frm (fun k => v.ownBlock = some k) w w' → (v.ownBlock = some g ∨ w.heap.size = g) → g < w'.heap.size →
      K (a.put o.dst (.slice (some ⟨g, 0, none⟩) (n + m) cap)) w') : o.wp P a w K Q := by
  obtain ⟨i, z, hi, hz, h2, h3, h4⟩ := E.ex
  refine wp_append_lies w s x t ho B e i z size bytes E.ht hi hz h2 h3 h4 E.pos v n xs hs hown ⟨gb, 0, none⟩ m c arr.toList hx (by simpa using hl) (World.news_of_block hnew) h1 hm h63 hbytes hbase w.heap.size rfl ?_
  intro g cap w' ho' hg' hat hlt
  exact h g cap w' ho' ((Frm.refl _ _).grown hg' (fun k hk _ => hk)) (hat.imp id Eq.symm) hlt

theorem wpl_app {P : Program} {ops : Array Oper} {rest : List Oper} {o : Oper} {a : Act} {Q : Exit → Act → World → Prop} {w : World} {t e e2 : TypeId} {size bytes B : Nat} (hgd : o.guard = none) (E : El P t e size bytes) (s x : Operand)
    (ho : o.op = .call { callee := .builtin .append, args := #[s, x], argTypes := #[t, t] }) {v : Value} {n gb m c : Nat} {xs : List Value} {arr : Array Value} {fr : Nat × Nat} (hs : a.eval s = v) (hx : a.eval x = .slice (some ⟨gb, 0, none⟩) m c)
    (hown : w.ownsRow B e size v n xs) (hnew : w.heap[gb]? = some (.cells arr e2 fr)) (hl : arr.size = m * size) (h1 : ∀ u ∈ arr.toList, u.oneCell' = true) (hm : 0 < m)
    (h63 : n + m ≤ maxLen) (hbytes : (n + m) * bytes ≤ 140737488355328) (hbase : B ≤ w.heap.size)
    (h : ∀ g cap w', w'.ownsRow B e size (.slice (some ⟨g, 0, none⟩) (n + m) cap) (n + m) (xs ++ arr.toList) → Frm (fun k => v.ownBlock = some k) w w' → (v.ownBlock = some g ∨ w.heap.size = g) → g < w'.heap.size →
      wpList P ops Q rest (a.put o.dst (.slice (some ⟨g, 0, none⟩) (n + m) cap)) w') : wpList P ops Q (o :: rest) a w :=
  wpList_plain hgd fun _ hK => wp_app E s x ho hs hx hown hnew hl h1 hm h63 hbytes hbase fun g cap w' h2 h3 h4 h5 => hK _ _ (h g cap w' h2 h3 h4 h5)

theorem step_app {P : Program} {ops : Array Oper} {o : Oper} {a : Act} {K : Act → World → Prop} {Q : Exit → Act → World → Prop} {X : Prop} {w : World} {t e e2 : TypeId} {size bytes B : Nat} (hgd : o.guard = none) (E : El P t e size bytes) (s x : Operand)
    (ho : o.op = .call { callee := .builtin .append, args := #[s, x], argTypes := #[t, t] }) {v : Value} {n gb m c : Nat} {xs : List Value} {arr : Array Value} {fr : Nat × Nat} (hs : a.eval s = v) (hx : a.eval x = .slice (some ⟨gb, 0, none⟩) m c)
    (hown : w.ownsRow B e size v n xs) (hnew : w.heap[gb]? = some (.cells arr e2 fr)) (hl : arr.size = m * size) (h1 : ∀ u ∈ arr.toList, u.oneCell' = true) (hm : 0 < m)
    (h63 : n + m ≤ maxLen) (hbytes : (n + m) * bytes ≤ 140737488355328) (hbase : B ≤ w.heap.size)
    (h : ∀ g cap w', w'.ownsRow B e size (.slice (some ⟨g, 0, none⟩) (n + m) cap) (n + m) (xs ++ arr.toList) → Frm (fun k => v.ownBlock = some k) w w' → (v.ownBlock = some g ∨ w.heap.size = g) → g < w'.heap.size →
      K (a.put o.dst (.slice (some ⟨g, 0, none⟩) (n + m) cap)) w') : if Region.wanted o (yielded ops a.tmps) = true then Oper.wp P o a w K Q else X := by
  rw [if_pos (by simp [Region.wanted, hgd])]
  exact wp_app E s x ho hs hx hown hnew hl h1 hm h63 hbytes hbase h

theorem ret_int {k : IntKind} {a b : Int} (h : a = b) : Ending.returned (.int k a) = .returned (.int k b) := by rw [h]

/-- A slice of bytes that reads as bs. -/
def BytesAt (w : World) (v : Value) (bs : List UInt8) : Prop :=
  ∃ A cap, v = .slice A bs.length cap ∧ bs.length ≤ cap ∧ cap ≤ maxLen ∧ (0 < bs.length → ∃ b off, A = some ⟨b, off, none⟩ ∧
    ∀ i, i < bs.length → w.cell? ⟨b, off + i, none⟩ = some (.int .u8 (bs.getD i 0).toNat))

end Go.Proofs.Ytmkkeglcjbogcaa
namespace Go.Proofs.Ytmkkeglcjbogcaa
open Go.RowKit Go.ChangeMaps Go.MapKept
set_option linter.unusedVariables false

/-- Keys of a type that the model compares as they stand. -/
structure KeyOk (P : Program) (k : TypeId) (S : Value → Prop) : Prop where
  check : ∀ (w : World) (em : Bool) {v : Value}, S v → (Instr.checkKey em 10000 k v).run P w = .ok () w
  find : ∀ (w : World) {x : Value}, S x → ∀ es : List MapEntry, (∀ e ∈ es, S e.key) →
    ((Instr.findKey k x es).run P w = .ok none w ∧ ∀ e ∈ es, e.key ≠ x) ∨ ∃ j e, (Instr.findKey k x es).run P w = .ok (some (j, e.val)) w ∧ es[j]? = some e ∧ e.key = x
  stays : ∀ (w : World) {v : Value}, S v → (Instr.keyThatStays v v).run P w = .ok v w

theorem KeyOk.of_keyed {P : Program} {k : TypeId} (K : Maps.Keyed P k) : KeyOk P k (fun v => ∃ l, keyOf P k v = some l) where
  check w em _ h := by obtain ⟨l, h⟩ := h; exact K.check w em h
  find w _ h es hes := by obtain ⟨l, h⟩ := h; exact K.find w h es hes
  stays w _ h := by obtain ⟨l, h⟩ := h; exact K.stays w h

/-- Block b is a map that holds m: keys and values, as they came. -/
def MapAt (S : Value → Prop) (w : World) (b : Nat) (m : List (Value × Value)) : Prop :=
  ∃ es clock, w.heap[b]? = some (.map es clock) ∧ es.toList.map (fun e => (e.key, e.val)) = m ∧ (∀ p ∈ m, S p.1) ∧ (m.map (·.1)).Nodup

theorem MapAt.lt {S : Value → Prop} {w : World} {b : Nat} {m : List (Value × Value)} (h : MapAt S w b m) : b < w.heap.size := by
  obtain ⟨es, c, hb, _⟩ := h
  exact (Array.getElem?_eq_some_iff.1 hb).1
theorem MapAt.made (S : Value → Prop) (w : World) : MapAt S (w.alloc (.map #[] 0)) w.heap.size [] :=
  ⟨#[], 0, heap_new w _, rfl, (fun p hp => by cases hp), List.nodup_nil⟩
theorem MapAt.frm {S : Value → Prop} {T : Nat → Prop} {w w' : World} {b : Nat} {m : List (Value × Value)} (h : MapAt S w b m) (hF : Frm T w w') (hn : ¬ T b) : MapAt S w' b m := by
  obtain ⟨es, c, hb, r⟩ := h
  exact ⟨es, c, hF.heap hb hn, r⟩

section
variable {P : Program} {k e t : TypeId} {S : Value → Prop} {w : World} {b : Nat} {m : List (Value × Value)}

theorem MapAt.entries (h : MapAt S w b m) : ∃ es clock, w.heap[b]? = some (.map es clock) ∧ es.toList.map (fun e => (e.key, e.val)) = m ∧ ∀ e ∈ es.toList, S e.key := by
  obtain ⟨es, c, hb, hm, hs, _⟩ := h
  exact ⟨es, c, hb, hm, fun e he => hs (e.key, e.val) (by rw [← hm]; exact List.mem_map_of_mem (f := fun e : MapEntry => (e.key, e.val)) he)⟩

/-- 'm[k]' of a key that is not there. -/
theorem MapAt.miss (h : MapAt S w b m) (K : KeyOk P k S) (ht : P.underlying t = some (.map k e)) {z : Value} (hz : (zeroValue e).run P w = .ok z w) {key : Value} (hk : S key) (hno : ∀ p ∈ m, p.1 ≠ key) (c : Bool) :
    (Instr.lookup t (.map (some b)) key c).run P w = .ok (if c then .tuple #[z, .bool false] else z) w := by
  obtain ⟨es, cl, hb, hm, hs⟩ := h.entries
  rcases K.find w hk es.toList hs with ⟨h1, _⟩ | ⟨j, e0, h1, h2, h3⟩
  · simp [Instr.lookup, run_underlying ht, MapKept.run_getObj_map hb, K.check w _ hk, h1, hz, Result.andThen]
  · exact absurd h3 (hno (e0.key, e0.val) (by rw [← hm]; exact List.mem_map_of_mem (f := fun e : MapEntry => (e.key, e.val)) (List.mem_of_getElem? h2)))

/-- 'm[k]' of a key that is there. -/
theorem MapAt.hit (h : MapAt S w b m) (K : KeyOk P k S) (ht : P.underlying t = some (.map k e)) {key v : Value} (hk : S key) (hin : (key, v) ∈ m) (c : Bool) :
    (Instr.lookup t (.map (some b)) key c).run P w = .ok (if c then .tuple #[v, .bool true] else v) w := by
  obtain ⟨es, cl, hb, hm, hs⟩ := h.entries
  obtain ⟨_, _, _, _, _, hnd⟩ := h
  rcases K.find w hk es.toList hs with ⟨_, h2⟩ | ⟨j, e0, h1, h2, h3⟩
  · rw [← hm] at hin
    obtain ⟨e0, he, h3⟩ := List.mem_map.1 hin
    cases h3
    exact absurd rfl (h2 e0 he)
  · have hv : e0.val = v := by
      have h4 : (e0.key, e0.val) ∈ m := by rw [← hm]; exact List.mem_map_of_mem (f := fun e : MapEntry => (e.key, e.val)) (List.mem_of_getElem? h2)
      rw [h3] at h4
      obtain ⟨i, hi, hie⟩ := List.getElem_of_mem h4
      obtain ⟨i', hi', hie'⟩ := List.getElem_of_mem hin
      have : i = i' := nodup_at hnd (i := i) (k := i') (by simpa using hi) (by simpa using hi') (by simp [hie, hie'])
      subst this
      rw [hie] at hie'
      simpa using hie'
    subst hv
    simp [Instr.lookup, run_underlying ht, MapKept.run_getObj_map hb, K.check w _ hk, h1, Result.andThen]

/-- 'm[k] = v' of a key that is not there. -/
theorem MapAt.push (h : MapAt S w b m) (K : KeyOk P k S) (ht : P.underlying t = some (.map k e)) {key : Value} (hk : S key) (hno : ∀ p ∈ m, p.1 ≠ key) (v : Value) :
    ∃ w', (Instr.mapUpdate t (.map (some b)) key v).run P w = .ok () w' ∧ MapAt S w' b (m ++ [(key, v)]) ∧ Frm (One b) w w' := by
  obtain ⟨es, cl, hb, hm, hs⟩ := h.entries
  obtain ⟨_, _, _, _, hS, hnd⟩ := h
  rcases K.find w hk es.toList hs with ⟨h1, _⟩ | ⟨j, e0, h1, h2, h3⟩
  · refine ⟨setBlock w b (.map (es.push ⟨key, v, cl⟩) (cl + 1)), ?_, ⟨_, _, heap_setBlock_same hb _, by simp [hm], ?_, ?_⟩, ⟨rfl, rfl, rfl, by simp [setBlock], fun i _ hi => heap_setBlock_other hb _ (fun e => hi e)⟩⟩
    · simp [Instr.mapUpdate, run_underlying ht, MapKept.run_getObj_map hb, K.check w false hk, h1, MapKept.run_setObj_map _ hb, Result.andThen, setBlock]
    · intro p hp
      rcases List.mem_append.1 hp with hp | hp
      · exact hS p hp
      · simp at hp; subst hp; exact hk
    · rw [List.map_append, List.nodup_append]
      refine ⟨hnd, by simp, fun a ha b hb => ?_⟩
      simp at hb
      subst hb
      obtain ⟨p, hp, rfl⟩ := List.mem_map.1 ha
      exact hno p hp
  · exact absurd h3 (hno (e0.key, e0.val) (by rw [← hm]; exact List.mem_map_of_mem (f := fun e : MapEntry => (e.key, e.val)) (List.mem_of_getElem? h2)))

/-- 'm[k] = v' of a key that is there. -/
theorem MapAt.put (h : MapAt S w b m) (K : KeyOk P k S) (ht : P.underlying t = some (.map k e)) {key v0 : Value} (hk : S key) {j : Nat} (hj : m[j]? = some (key, v0)) (v : Value) :
    ∃ w', (Instr.mapUpdate t (.map (some b)) key v).run P w = .ok () w' ∧ MapAt S w' b (m.set j (key, v)) ∧ Frm (One b) w w' := by
  obtain ⟨es, cl, hb, hm, hs⟩ := h.entries
  obtain ⟨_, _, _, _, hS, hnd⟩ := h
  rcases K.find w hk es.toList hs with ⟨_, h2⟩ | ⟨i, e0, h1, h2, h3⟩
  · have hin := List.mem_of_getElem? hj
    rw [← hm] at hin
    obtain ⟨e0, he, h3⟩ := List.mem_map.1 hin
    cases h3
    exact absurd rfl (h2 e0 he)
  · have hi : i < es.toList.length := (List.getElem?_eq_some_iff.1 h2).1
    have hje : es[i]? = some e0 := by simpa using h2
    have hmi : m[i]? = some (e0.key, e0.val) := by rw [← hm, List.getElem?_map, h2]; rfl
    have hij : i = j := by
      obtain ⟨a1, a2⟩ := List.getElem?_eq_some_iff.1 hmi
      obtain ⟨b1, b2⟩ := List.getElem?_eq_some_iff.1 hj
      exact nodup_at hnd (i := i) (k := j) (by simpa using a1) (by simpa using b1) (by simp [a2, b2, h3])
    subst hij
    have hlist : (es.modify i (fun e' => { e' with key := key, val := v })).toList = es.toList.set i { e0 with key := key, val := v } := by rw [Array.toList_modify, modify_eq_set _ _ _ _ h2]
    have hmap : (es.modify i (fun e' => { e' with key := key, val := v })).toList.map (fun e => (e.key, e.val)) = m.set i (key, v) := by
      rw [hlist, List.map_set, hm]
    refine ⟨setBlock w b (.map (es.modify i (fun e' => { e' with key := key, val := v })) cl), ?_, ⟨_, _, heap_setBlock_same hb _, hmap, ?_, ?_⟩, ⟨rfl, rfl, rfl, by simp [setBlock], fun i _ hi => heap_setBlock_other hb _ (fun e => hi e)⟩⟩
    · simp [Instr.mapUpdate, run_underlying ht, MapKept.run_getObj_map hb, K.check w false hk, h1, hje, h3, K.stays w hk, MapKept.run_setObj_map _ hb, Result.andThen, setBlock]
    · intro p hp
      rcases List.mem_or_eq_of_mem_set hp with hp | rfl
      · exact hS p hp
      · exact hk
    · have : (m.set i (key, v)).map (·.1) = m.map (·.1) := by
        rw [List.map_set]
        apply List.ext_getElem?
        intro q
        rw [List.getElem?_set]
        split
        · subst q
          rw [List.getElem?_map, hj]
          simp [(List.getElem?_eq_some_iff.1 hj).1]
        · rfl
      rw [this]
      exact hnd
end

/-- 'm[k] = v' at the operation. -/
theorem wpl_push {P : Program} {w : World} {ops : Array Oper} {rest : List Oper} {o : Oper} {a : Act} {Q : Exit → Act → World → Prop} {k e t : TypeId} {S : Value → Prop} {b : Nat} {m : List (Value × Value)} (hg : o.guard = none) (mo x v : Operand) (hop : o.op = Op.mapUpdate t mo x v)
    (K : KeyOk P k S) (ht : P.underlying t = some (.map k e)) (h : MapAt S w b m) (hm : a.eval mo = .map (some b)) {key val : Value} (hx : a.eval x = key) (hv : a.eval v = val) (hk : S key) (hno : ∀ p ∈ m, p.1 ≠ key)
    (hK : ∀ w', MapAt S w' b (m ++ [(key, val)]) → Frm (One b) w w' → wpList P ops Q rest (a.put o.dst undef) w') : wpList P ops Q (o :: rest) a w := by
  refine wpList_plain hg fun K' hK' => ?_
  obtain ⟨w', hrun, r1, r2⟩ := h.push K ht hk hno val
  unfold Oper.wp
  simp [execOp, hop, hm, hx, hv, hrun, Result.andThen]
  exact hK' _ _ (hK w' r1 r2)
theorem wpl_put {P : Program} {w : World} {ops : Array Oper} {rest : List Oper} {o : Oper} {a : Act} {Q : Exit → Act → World → Prop} {k e t : TypeId} {S : Value → Prop} {b : Nat} {m : List (Value × Value)} (hg : o.guard = none) (mo x v : Operand) (hop : o.op = Op.mapUpdate t mo x v)
    (K : KeyOk P k S) (ht : P.underlying t = some (.map k e)) (h : MapAt S w b m) (hm : a.eval mo = .map (some b)) {key val v0 : Value} (hx : a.eval x = key) (hv : a.eval v = val) (hk : S key) {j : Nat} (hj : m[j]? = some (key, v0))
    (hK : ∀ w', MapAt S w' b (m.set j (key, val)) → Frm (One b) w w' → wpList P ops Q rest (a.put o.dst undef) w') : wpList P ops Q (o :: rest) a w := by
  refine wpList_plain hg fun K' hK' => ?_
  obtain ⟨w', hrun, r1, r2⟩ := h.put K ht hk hj val
  unfold Oper.wp
  simp [execOp, hop, hm, hx, hv, hrun, Result.andThen]
  exact hK' _ _ (hK w' r1 r2)
end Go.Proofs.Ytmkkeglcjbogcaa
namespace Go.Proofs.Ytmkkeglcjbogcaa
open Go.RowKit Go.ChangeMaps Go.MapKept
set_option linter.unusedVariables false
set_option linter.unusedSimpArgs false

/-- As MapAt, and the entries' stamps are apart. -/
def MapB (S : Value → Prop) (w : World) (b : Nat) (m : List (Value × Value)) : Prop :=
  ∃ es clock, w.heap[b]? = some (.map es clock) ∧ es.toList.map (fun e => (e.key, e.val)) = m ∧ (∀ p ∈ m, S p.1) ∧ (m.map (·.1)).Nodup ∧ (es.toList.map (·.born)).Nodup ∧ ∀ e ∈ es.toList, e.born < clock
theorem MapB.at_ {S : Value → Prop} {w : World} {b : Nat} {m : List (Value × Value)} (h : MapB S w b m) : MapAt S w b m := by
  obtain ⟨es, c, h1, h2, h3, h4, _⟩ := h
  exact ⟨es, c, h1, h2, h3, h4⟩
theorem MapB.lt {S : Value → Prop} {w : World} {b : Nat} {m : List (Value × Value)} (h : MapB S w b m) : b < w.heap.size := h.at_.lt
theorem MapB.made (S : Value → Prop) (w : World) : MapB S (w.alloc (.map #[] 0)) w.heap.size [] :=
  ⟨#[], 0, heap_new w _, rfl, (fun p hp => by cases hp), List.nodup_nil, List.nodup_nil, fun e he => by cases he⟩
theorem MapB.frm {S : Value → Prop} {T : Nat → Prop} {w w' : World} {b : Nat} {m : List (Value × Value)} (h : MapB S w b m) (hF : Frm T w w') (hn : ¬ T b) : MapB S w' b m := by
  obtain ⟨es, c, hb, r⟩ := h
  exact ⟨es, c, hF.heap hb hn, r⟩
theorem MapB.push {P : Program} {k e t : TypeId} {S : Value → Prop} {w : World} {b : Nat} {m : List (Value × Value)} (h : MapB S w b m) (K : KeyOk P k S) (ht : P.underlying t = some (.map k e)) {key : Value} (hk : S key) (hno : ∀ p ∈ m, p.1 ≠ key) (v : Value) :
    ∃ w', (Instr.mapUpdate t (.map (some b)) key v).run P w = .ok () w' ∧ MapB S w' b (m ++ [(key, v)]) ∧ Frm (One b) w w' := by
  obtain ⟨es, cl, hb, hm, hS, hnd, hbn, hbl⟩ := h
  have hs : ∀ e ∈ es.toList, S e.key := fun e he => hS (e.key, e.val) (by rw [← hm]; exact List.mem_map_of_mem (f := fun e : MapEntry => (e.key, e.val)) he)
  rcases K.find w hk es.toList hs with ⟨h1, _⟩ | ⟨j, e0, h1, h2, h3⟩
  · refine ⟨setBlock w b (.map (es.push ⟨key, v, cl⟩) (cl + 1)), ?_, ⟨_, _, heap_setBlock_same hb _, by simp [hm], ?_, ?_, ?_, ?_⟩, ⟨rfl, rfl, rfl, by simp [setBlock], fun i _ hi => heap_setBlock_other hb _ (fun e => hi e)⟩⟩
    · simp [Instr.mapUpdate, run_underlying ht, MapKept.run_getObj_map hb, K.check w false hk, h1, MapKept.run_setObj_map _ hb, Result.andThen, setBlock]
    · intro p hp
      rcases List.mem_append.1 hp with hp | hp
      · exact hS p hp
      · simp at hp; subst hp; exact hk
    · rw [List.map_append, List.nodup_append]
      refine ⟨hnd, by simp, fun a ha b hb => ?_⟩
      simp at hb
      subst hb
      obtain ⟨p, hp, rfl⟩ := List.mem_map.1 ha
      exact hno p hp
    · rw [Array.toList_push, List.map_append, List.nodup_append]
      refine ⟨hbn, by simp, fun a ha b hb => ?_⟩
      simp at hb
      subst hb
      obtain ⟨p, hp, rfl⟩ := List.mem_map.1 ha
      have := hbl p hp
      omega
    · intro x hx
      rw [Array.toList_push] at hx
      rcases List.mem_append.1 hx with hx | hx
      · have := hbl x hx; omega
      · simp at hx; subst hx; simp
  · exact absurd h3 (hno (e0.key, e0.val) (by rw [← hm]; exact List.mem_map_of_mem (f := fun e : MapEntry => (e.key, e.val)) (List.mem_of_getElem? h2)))

/-- A new key is put in: what is asked of the key said outright. -/
theorem MapB.put_new {P : Program} {k e t : TypeId} {S : Value → Prop} {w : World} {b : Nat} {m : List (Value × Value)} (h : MapB S w b m) (ht : P.underlying t = some (.map k e)) {key : Value} (hk : S key) (hno : ∀ p ∈ m, p.1 ≠ key)
    (hc : (Instr.checkKey false 10000 k key).run P w = .ok () w) (hf : ∀ es : List MapEntry, (∀ e ∈ es, e.key ∈ m.map (·.1)) → (Instr.findKey k key es).run P w = .ok none w) (v : Value) :
    ∃ w', (Instr.mapUpdate t (.map (some b)) key v).run P w = .ok () w' ∧ MapB S w' b (m ++ [(key, v)]) ∧ Frm (One b) w w' := by
  obtain ⟨es, cl, hb, hm, hS, hnd, hbn, hbl⟩ := h
  have h1 := hf es.toList (fun e he => by rw [← hm, List.map_map]; exact List.mem_map_of_mem (f := fun e : MapEntry => e.key) he)
  refine ⟨setBlock w b (.map (es.push ⟨key, v, cl⟩) (cl + 1)), ?_, ⟨_, _, heap_setBlock_same hb _, by simp [hm], ?_, ?_, ?_, ?_⟩, ⟨rfl, rfl, rfl, by simp [setBlock], fun i _ hi => heap_setBlock_other hb _ (fun e => hi e)⟩⟩
  · simp [Instr.mapUpdate, run_underlying ht, MapKept.run_getObj_map hb, hc, h1, MapKept.run_setObj_map _ hb, Result.andThen, setBlock]
  · intro p hp
    rcases List.mem_append.1 hp with hp | hp
    · exact hS p hp
    · simp at hp; subst hp; exact hk
  · rw [List.map_append, List.nodup_append]
    refine ⟨hnd, by simp, fun a ha b hb => ?_⟩
    simp at hb
    subst hb
    obtain ⟨p, hp, rfl⟩ := List.mem_map.1 ha
    exact hno p hp
  · rw [Array.toList_push, List.map_append, List.nodup_append]
    refine ⟨hbn, by simp, fun a ha b hb => ?_⟩
    simp at hb
    subst hb
    obtain ⟨p, hp, rfl⟩ := List.mem_map.1 ha
    have := hbl p hp
    omega
  · intro x hx
    rw [Array.toList_push] at hx
    rcases List.mem_append.1 hx with hx | hx
    · have := hbl x hx; omega
    · simp at hx; subst hx; simp

/-- Block r goes through map b, which holds m; 'left' is still to come. -/
def IterB (w : World) (b r : Nat) (m left : List (Value × Value)) : Prop :=
  ∃ (es : Array MapEntry) (clock : Nat) (seen : Array Nat), w.heap[b]? = some (.map es clock) ∧ es.toList.map (fun e => (e.key, e.val)) = m ∧ (es.toList.map (·.born)).Nodup ∧ (∀ e ∈ es.toList, e.born < clock) ∧
    w.heap[r]? = some (.mapIter (some b) clock seen clock) ∧ left = ((leftOf es seen).toList.map fun e => (e.key, e.val))
theorem IterB.frm {T : Nat → Prop} {w w' : World} {b r : Nat} {m left : List (Value × Value)} (h : IterB w b r m left) (hF : Frm T w w') (hb : ¬ T b) (hr : ¬ T r) : IterB w' b r m left := by
  obtain ⟨es, c, seen, h1, h2, h3, h4, h5, h6⟩ := h
  exact ⟨es, c, seen, hF.heap h1 hb, h2, h3, h4, hF.heap h5 hr, h6⟩
theorem MapB.range {P : Program} {k e t : TypeId} {S : Value → Prop} {w : World} {b : Nat} {m : List (Value × Value)} (h : MapB S w b m) (ht : P.underlying t = some (.map k e)) :
    ∃ w', (Instr.range t (.map (some b))).run P w = .ok (.pointer (some ⟨w.heap.size, 0, none⟩)) w' ∧ IterB w' b w.heap.size m m ∧ Frm (fun _ => False) w w' ∧ w'.heap.size = w.heap.size + 1 := by
  obtain ⟨es, cl, hb, hm, hS, hnd, hbn, hbl⟩ := h
  refine ⟨w.alloc (.mapIter (some b) cl #[] cl), ?_, ⟨es, cl, #[], heap_alloc_old hb, hm, hbn, hbl, heap_new w _, ?_⟩, (Frm.refl _ _).alloc _, by simp⟩
  · simp [Instr.range, run_underlying ht, MapKept.run_getObj_map hb, Result.andThen, newObj]
    rfl
  · rw [← hm]
    congr 1
    unfold leftOf
    simp
    exact (List.filter_eq_self.2 (fun _ _ => rfl)).symm
theorem IterB.next {P : Program} {w : World} {b r : Nat} {m left : List (Value × Value)} (h : IterB w b r m left) (ty : TypeId) :
    (left = [] ∧ (Instr.next (.pointer (some ⟨r, 0, none⟩)) false ty).run P w = .ok (.tuple #[.bool false]) w) ∨
    ∃ k v left' w', (k, v) ∈ left ∧ (Instr.next (.pointer (some ⟨r, 0, none⟩)) false ty).run P w = .ok (.tuple #[.bool true, k, v]) w' ∧ IterB w' b r m left' ∧ left'.length < left.length ∧ (∀ p ∈ left, p ∈ left' ∨ p = (k, v)) ∧ (∀ p ∈ left', p ∈ left) ∧ Frm (One r) w w' ∧
      (Instr.entry (.pointer (some ⟨r, 0, none⟩))).run P w' = .ok (.tuple #[k, v]) w' := by
  obtain ⟨es, cl, seen, hb, hm, hbn, hbl, hr, hl⟩ := h
  rcases run_next_at (P := P) w ty r b cl cl seen es cl hr hb hbl (Nat.le_refl _) with ⟨h0, hrun⟩ | ⟨e, he, w1, hw1, hrun⟩
  · refine .inl ⟨?_, hrun⟩
    rw [hl, Array.eq_empty_of_size_eq_zero h0]
    rfl
  · have hb1 : w1.heap[b]? = some (.map es cl) := by rcases hw1 with rfl | rfl <;> exact hb
    have hr1 : w1.heap[r]? = some (.mapIter (some b) cl seen cl) := by rcases hw1 with rfl | rfl <;> exact hr
    have hrb : b ≠ r := fun h => by rw [h, hr] at hb; cases hb
    have hF1 : Frm (fun _ => False) w w1 := by
      rcases hw1 with rfl | rfl
      · exact Frm.refl _ _
      · exact (Frm.refl _ _).drew
    have hrs : r < w1.heap.size := (Array.getElem?_eq_some_iff.1 hr1).1
    have hbs : (setBlock w1 r (.mapIter (some b) cl (seen.push e.born) cl)).heap[b]? = some (.map es cl) := by
      unfold setBlock
      simp only []
      rw [Array.getElem?_setIfInBounds_ne (Ne.symm hrb)]
      exact hb1
    have hrr : (setBlock w1 r (.mapIter (some b) cl (seen.push e.born) cl)).heap[r]? = some (.mapIter (some b) cl (seen.push e.born) cl) := by
      unfold setBlock
      simp only []
      rw [Array.getElem?_setIfInBounds_self_of_lt hrs]
    have hee : e ∈ es.toList := by
      unfold leftOf at he
      simp at he
      simpa using he.1
    have hle : ∀ x, x ∈ (leftOf es (seen.push e.born)).toList ↔ x ∈ (leftOf es seen).toList ∧ x.born ≠ e.born := fun x => by
      unfold leftOf
      simp
      constructor
      · rintro ⟨h1, h2, h3⟩
        exact ⟨⟨h1, h2⟩, h3⟩
      · rintro ⟨⟨h1, h2⟩, h3⟩
        exact ⟨h1, h2, h3⟩
    refine .inr ⟨e.key, e.val, _, _, ?_, hrun, ⟨es, cl, seen.push e.born, hbs, hm, hbn, hbl, hrr, rfl⟩, ?_, ?_, ?_, ?_, run_entry_at (P := P) _ r b cl seen es cl e hrr hbs hee hbn⟩
    · rw [hl]
      exact List.mem_map_of_mem (f := fun e : MapEntry => (e.key, e.val)) he
    · rw [hl, List.length_map, List.length_map]
      have e1 : (leftOf es (seen.push e.born)).toList = (leftOf es seen).toList.filter (fun x => x.born != e.born) := by
        unfold leftOf
        simp only [Array.toList_filter, List.filter_filter]
        congr 1
        funext x
        simp [Bool.and_comm, bne]
        by_cases h1 : x.born = e.born <;> by_cases h2 : x.born ∈ seen <;> simp [h1, h2]
      rw [e1]
      exact List.length_filter_lt_length_iff_exists.2 ⟨e, he, by simp⟩
    · intro p hp
      rw [hl] at hp
      obtain ⟨x, hx, rfl⟩ := List.mem_map.1 hp
      by_cases hxe : x.born = e.born
      · right
        have hxs : x ∈ es.toList := by
          unfold leftOf at hx
          simp at hx
          simpa using hx.1
        have : x = e := by
          obtain ⟨i, hi, rfl⟩ := List.getElem_of_mem hxs
          obtain ⟨j, hj, rfl⟩ := List.getElem_of_mem hee
          have : i = j := nodup_at hbn (i := i) (k := j) (by simpa using hi) (by simpa using hj) (by simpa using hxe)
          subst this
          rfl
        rw [this]
      · left
        exact List.mem_map.2 ⟨x, (hle x).2 ⟨hx, hxe⟩, rfl⟩
    · intro p hp
      obtain ⟨x, hx, rfl⟩ := List.mem_map.1 hp
      rw [hl]
      exact List.mem_map.2 ⟨x, ((hle x).1 hx).1, rfl⟩
    · refine (hF1.mono (fun _ _ h => h.elim)).trans (T := One r) ⟨rfl, rfl, rfl, by simp [setBlock], fun i _ hi => ?_⟩ (fun _ _ h => h)
      unfold setBlock
      simp only []
      exact Array.getElem?_setIfInBounds_ne (fun h => hi h.symm)
/-- 'range m' at the operation. -/
theorem wpl_range {P : Program} {w : World} {ops : Array Oper} {rest : List Oper} {o : Oper} {a : Act} {Q : Exit → Act → World → Prop} {k e t : TypeId} {S : Value → Prop} {b : Nat} {m : List (Value × Value)} (hg : o.guard = none) (mo : Operand) (hop : o.op = Op.range t mo)
    (ht : P.underlying t = some (.map k e)) (h : MapB S w b m) (hm : a.eval mo = .map (some b))
    (hK : ∀ w', IterB w' b w.heap.size m m → Frm (fun _ => False) w w' → w'.heap.size = w.heap.size + 1 → wpList P ops Q rest (a.put o.dst (.pointer (some ⟨w.heap.size, 0, none⟩))) w') : wpList P ops Q (o :: rest) a w := by
  refine wpList_plain hg fun K' hK' => ?_
  obtain ⟨w', hrun, r1, r2, r3⟩ := h.range ht
  unfold Oper.wp
  simp [execOp, hop, hm, hrun, Result.andThen]
  exact hK' _ _ (hK w' r1 r2 r3)
/-- The step at the operation. -/
theorem wpl_next {P : Program} {w : World} {ops : Array Oper} {rest : List Oper} {o : Oper} {a : Act} {Q : Exit → Act → World → Prop} {b r : Nat} {m left : List (Value × Value)} (hg : o.guard = none) (it : Operand) (hop : o.op = Op.next it false)
    (hit : a.eval it = .pointer (some ⟨r, 0, none⟩)) (h : IterB w b r m left)
    (hDone : left = [] → wpList P ops Q rest (a.put o.dst (.tuple #[.bool false])) w)
    (hMore : ∀ k v left' w', (k, v) ∈ left → IterB w' b r m left' → left'.length < left.length → (∀ p ∈ left, p ∈ left' ∨ p = (k, v)) → (∀ p ∈ left', p ∈ left) → Frm (One r) w w' →
      (Instr.entry (.pointer (some ⟨r, 0, none⟩))).run P w' = .ok (.tuple #[k, v]) w' → wpList P ops Q rest (a.put o.dst (.tuple #[.bool true, k, v])) w') : wpList P ops Q (o :: rest) a w := by
  refine wpList_plain hg fun K' hK' => ?_
  unfold Oper.wp
  rcases h.next (P := P) o.type with ⟨h0, hrun⟩ | ⟨k, v, left', w', h1, hrun, h2, h3, h4, h5, h6, h7⟩
  · simp [execOp, hop, hit, hrun, Result.andThen]
    exact hK' _ _ (hDone h0)
  · simp [execOp, hop, hit, hrun, Result.andThen]
    exact hK' _ _ (hMore k v left' w' h1 h2 h3 h4 h5 h6 h7)
/-- 'm[k] = v' at the operation, a new key. -/
theorem wpl_pushB {P : Program} {w : World} {ops : Array Oper} {rest : List Oper} {o : Oper} {a : Act} {Q : Exit → Act → World → Prop} {k e t : TypeId} {S : Value → Prop} {b : Nat} {m : List (Value × Value)} (hg : o.guard = none) (mo x v : Operand) (hop : o.op = Op.mapUpdate t mo x v)
    (K : KeyOk P k S) (ht : P.underlying t = some (.map k e)) (h : MapB S w b m) (hm : a.eval mo = .map (some b)) {key val : Value} (hx : a.eval x = key) (hv : a.eval v = val) (hk : S key) (hno : ∀ p ∈ m, p.1 ≠ key)
    (hK : ∀ w', MapB S w' b (m ++ [(key, val)]) → Frm (One b) w w' → wpList P ops Q rest (a.put o.dst undef) w') : wpList P ops Q (o :: rest) a w := by
  refine wpList_plain hg fun K' hK' => ?_
  obtain ⟨w', hrun, r1, r2⟩ := h.push K ht hk hno val
  unfold Oper.wp
  simp [execOp, hop, hm, hx, hv, hrun, Result.andThen]
  exact hK' _ _ (hK w' r1 r2)
/-- The same at the operation. -/
theorem wpl_put_new {P : Program} {w : World} {ops : Array Oper} {rest : List Oper} {o : Oper} {a : Act} {Q : Exit → Act → World → Prop} {k e t : TypeId} {S : Value → Prop} {b : Nat} {m : List (Value × Value)} (hg : o.guard = none) (mo x v : Operand) (hop : o.op = Op.mapUpdate t mo x v)
    (ht : P.underlying t = some (.map k e)) (h : MapB S w b m) (hm : a.eval mo = .map (some b)) {key val : Value} (hx : a.eval x = key) (hv : a.eval v = val) (hk : S key) (hno : ∀ p ∈ m, p.1 ≠ key)
    (hc : (Instr.checkKey false 10000 k key).run P w = .ok () w) (hf : ∀ es : List MapEntry, (∀ e ∈ es, e.key ∈ m.map (·.1)) → (Instr.findKey k key es).run P w = .ok none w)
    (hK : ∀ w', MapB S w' b (m ++ [(key, val)]) → Frm (One b) w w' → wpList P ops Q rest (a.put o.dst undef) w') : wpList P ops Q (o :: rest) a w := by
  refine wpList_plain hg fun K' hK' => ?_
  obtain ⟨w', hrun, r1, r2⟩ := h.put_new ht hk hno hc hf val
  unfold Oper.wp
  simp [execOp, hop, hm, hx, hv, hrun, Result.andThen]
  exact hK' _ _ (hK w' r1 r2)
end Go.Proofs.Ytmkkeglcjbogcaa
namespace Go.Proofs.Ytmkkeglcjbogcaa
open Go.RowKit Go.ChangeMaps Go.MapKept
set_option linter.unusedVariables false
set_option linter.unusedSimpArgs false

/-- A map whose last entry, of stamp cl, has just been made. -/
def MapS (S : Value → Prop) (w : World) (b : Nat) (m : List (Value × Value)) (key z : Value) (cl : Nat) : Prop :=
  ∃ es : Array MapEntry, w.heap[b]? = some (.map (es.push ⟨key, z, cl⟩) (cl + 1)) ∧ es.toList.map (fun e => (e.key, e.val)) = m ∧ (∀ p ∈ m, S p.1) ∧ (m.map (·.1)).Nodup ∧ (es.toList.map (·.born)).Nodup ∧ (∀ e ∈ es.toList, e.born < cl) ∧ S key ∧ ∀ p ∈ m, p.1 ≠ key
theorem MapB.enter {P : Program} {k e t : TypeId} {S : Value → Prop} {w : World} {b : Nat} {m : List (Value × Value)} (h : MapB S w b m) (K : KeyOk P k S) (ht : P.underlying t = some (.map k e)) {z : Value} (hz : (zeroValue e).run P w = .ok z w) {key : Value} (hk : S key) (hno : ∀ p ∈ m, p.1 ≠ key) :
    ∃ (cl : Nat) (w' : World), (Instr.mapEntry t (.map (some b)) key).run P w = .ok (.tuple #[z, goInt (cl : Int)]) w' ∧ MapS S w' b m key z cl ∧ Frm (One b) w w' := by
  obtain ⟨es, cl, hb, hm, hS, hnd, hbn, hbl⟩ := h
  have hs : ∀ e ∈ es.toList, S e.key := fun e he => hS (e.key, e.val) (by rw [← hm]; exact List.mem_map_of_mem (f := fun e : MapEntry => (e.key, e.val)) he)
  rcases K.find w hk es.toList hs with ⟨h1, _⟩ | ⟨j, e0, h1, h2, h3⟩
  · refine ⟨cl, setBlock w b (.map (es.push ⟨key, z, cl⟩) (cl + 1)), ?_, ⟨es, heap_setBlock_same hb _, hm, hS, hnd, hbn, hbl, hk, hno⟩, ⟨rfl, rfl, rfl, by simp [setBlock], fun i _ hi => heap_setBlock_other hb _ (fun e => hi e)⟩⟩
    simp [Instr.mapEntry, run_underlying ht, MapKept.run_getObj_map hb, K.check w false hk, h1, hz, MapKept.run_setObj_map _ hb, Result.andThen, setBlock]
  · exact absurd h3 (hno (e0.key, e0.val) (by rw [← hm]; exact List.mem_map_of_mem (f := fun e : MapEntry => (e.key, e.val)) (List.mem_of_getElem? h2)))
theorem MapS.store {P : Program} {t : TypeId} {S : Value → Prop} {w : World} {b : Nat} {m : List (Value × Value)} {key z : Value} {cl : Nat} (h : MapS S w b m key z cl) (v : Value) :
    ∃ w', (Instr.entryStore t (.map (some b)) (goInt (cl : Int)) v).run P w = .ok () w' ∧ MapB S w' b (m ++ [(key, v)]) ∧ Frm (One b) w w' := by
  obtain ⟨es, hb, hm, hS, hnd, hbn, hbl, hk, hno⟩ := h
  have hfi : (es.push ⟨key, z, cl⟩).findIdx? (fun e => (e.born : Int) == (cl : Int)) = some es.size := by
    rw [Array.findIdx?_push]
    have : es.findIdx? (fun e => (e.born : Int) == (cl : Int)) = none := by
      rw [Array.findIdx?_eq_none_iff]
      intro x hx
      have := hbl x (by simpa using hx)
      simp
      omega
    rw [this]
    simp
  have hmo : (es.push ⟨key, z, cl⟩).modify es.size (fun e => { e with val := v }) = es.push ⟨key, v, cl⟩ := by
    apply Array.ext'
    apply List.ext_getElem?
    intro i
    rw [Array.toList_modify, List.getElem?_modify, Array.toList_push, Array.toList_push]
    by_cases hi : es.size = i
    · subst hi
      simp
    · rcases Nat.lt_or_ge i es.size with h1 | h1
      · rw [List.getElem?_append_left (by simpa using h1), List.getElem?_append_left (by simpa using h1)]
        simp [hi]
      · rw [List.getElem?_eq_none (by simp; omega), List.getElem?_eq_none (by simp; omega)]
        rfl
  refine ⟨setBlock w b (.map (es.push ⟨key, v, cl⟩) (cl + 1)), ?_, ⟨_, _, heap_setBlock_same hb _, by simp [hm], ?_, ?_, ?_, ?_⟩, ⟨rfl, rfl, rfl, by simp [setBlock], fun i _ hi => heap_setBlock_other hb _ (fun e => hi e)⟩⟩
  · simp [Instr.entryStore, MapKept.run_getObj_map hb, asInt, asIntOf, goInt, hfi, hmo, MapKept.run_setObj_map _ hb, Result.andThen, setBlock]
  · intro p hp
    rcases List.mem_append.1 hp with hp | hp
    · exact hS p hp
    · simp at hp; subst hp; exact hk
  · rw [List.map_append, List.nodup_append]
    refine ⟨hnd, by simp, fun a ha b hb => ?_⟩
    simp at hb
    subst hb
    obtain ⟨p, hp, rfl⟩ := List.mem_map.1 ha
    exact hno p hp
  · rw [Array.toList_push, List.map_append, List.nodup_append]
    refine ⟨hbn, by simp, fun a ha b hb => ?_⟩
    simp at hb
    subst hb
    obtain ⟨p, hp, rfl⟩ := List.mem_map.1 ha
    have := hbl p hp
    omega
  · intro x hx
    rw [Array.toList_push] at hx
    rcases List.mem_append.1 hx with hx | hx
    · have := hbl x hx; omega
    · simp at hx; subst hx; simp
end Go.Proofs.Ytmkkeglcjbogcaa
namespace Go.Proofs.Ytmkkeglcjbogcaa
open Go.RowKit Go.ChangeMaps Go.MapKept
set_option linter.unusedVariables false
set_option linter.unusedSimpArgs false

def keyI (n : Int) : Value := .int .i64 n
def IsI (v : Value) : Prop := ∃ n, v = keyI n
theorem KeyOk.int {P : Program} {k : TypeId} (hk : P.underlying k = some (.int .i64)) : KeyOk P k IsI := by
  have isK : ∀ {v : Value}, IsI v → IsKey (.int .i64) v := fun {v} h => by obtain ⟨n, rfl⟩ := h; rfl
  refine ⟨fun w em _ h => run_checkKey hk (isK h) em 9999, fun w x hx es hes => ?_, fun w _ h => run_keyThatStays (isK h)⟩
  rcases findNow_spec (isK hx) es 0 (fun y hy => isK (hes y hy)) with ⟨h1, h2⟩ | ⟨j, e0, h1, h2, h3⟩
  · exact Or.inl ⟨run_findKey hk h1, h2⟩
  · exact Or.inr ⟨j, e0, by simpa using run_findKey hk h1, h2, h3⟩

/-- Block b is a map whose keys and values are m's, in whatever order. -/
def MapP (w : World) (b : Nat) (m : List (Value × Value)) : Prop := ∃ m', m'.Perm m ∧ MapB IsI w b m'
theorem MapP.perm {w : World} {b : Nat} {m m2 : List (Value × Value)} (h : MapP w b m) (hp : m.Perm m2) : MapP w b m2 := by
  obtain ⟨m', h1, h2⟩ := h
  exact ⟨m', h1.trans hp, h2⟩
theorem MapP.lt {w : World} {b : Nat} {m : List (Value × Value)} (h : MapP w b m) : b < w.heap.size := by
  obtain ⟨_, _, h⟩ := h
  exact h.lt
theorem MapP.frm {T : Nat → Prop} {w w' : World} {b : Nat} {m : List (Value × Value)} (h : MapP w b m) (hF : Frm T w w') (hn : ¬ T b) : MapP w' b m := by
  obtain ⟨m', h1, h2⟩ := h
  exact ⟨m', h1, h2.frm hF hn⟩
theorem MapP.made (w : World) : MapP (w.alloc (.map #[] 0)) w.heap.size [] := ⟨[], .refl _, .made _ w⟩
theorem MapP.isMap {w : World} {b : Nat} {m : List (Value × Value)} (h : MapP w b m) : ∃ es c, w.heap[b]? = some (.map es c) := by
  obtain ⟨_, _, es, c, h, _⟩ := h
  exact ⟨es, c, h⟩
theorem MapP.keys {w : World} {b : Nat} {m : List (Value × Value)} (h : MapP w b m) : (m.map (·.1)).Nodup := by
  obtain ⟨m', h1, es, c, _, _, _, h2, _⟩ := h
  exact (h1.map _).nodup_iff.1 h2
section
variable {P : Program} {k e t : TypeId} {w : World} {b : Nat} {m : List (Value × Value)}
theorem MapP.hit (h : MapP w b m) (hk : P.underlying k = some (.int .i64)) (ht : P.underlying t = some (.map k e)) {n : Int} {v : Value} (hin : (keyI n, v) ∈ m) (c : Bool) :
    (Instr.lookup t (.map (some b)) (.int .i64 n) c).run P w = .ok (if c then .tuple #[v, .bool true] else v) w := by
  obtain ⟨m', h1, h2⟩ := h
  exact h2.at_.hit (KeyOk.int hk) ht ⟨n, rfl⟩ (h1.mem_iff.2 hin) c
theorem MapP.miss (h : MapP w b m) (hk : P.underlying k = some (.int .i64)) (ht : P.underlying t = some (.map k e)) {z : Value} (hz : (zeroValue e).run P w = .ok z w) {n : Int} (hno : ∀ p ∈ m, p.1 ≠ keyI n) (c : Bool) :
    (Instr.lookup t (.map (some b)) (.int .i64 n) c).run P w = .ok (if c then .tuple #[z, .bool false] else z) w := by
  obtain ⟨m', h1, h2⟩ := h
  exact h2.at_.miss (KeyOk.int hk) ht hz ⟨n, rfl⟩ (fun p hp => hno p (h1.mem_iff.1 hp)) c
theorem MapP.len (h : MapP w b m) (ht : P.underlying t = some (.map k e)) (ty : TypeId) : (Builtin.len_ #[t] ty #[.map (some b)]).run P w = .ok (.int .i64 (m.length : Nat)) w := by
  obtain ⟨m', h1, es, c, hb, hm, _⟩ := h
  have e1 : m.length = es.size := by rw [← h1.length_eq, ← hm]; simp
  rw [e1]
  simp [Builtin.len_, run_underlying ht, MapKept.run_getObj_map hb, goInt, Result.andThen]
theorem MapP.enter (h : MapP w b m) (hk : P.underlying k = some (.int .i64)) (ht : P.underlying t = some (.map k e)) {z : Value} (hz : (zeroValue e).run P w = .ok z w) {n : Int} (hno : ∀ p ∈ m, p.1 ≠ keyI n) :
    ∃ (cl : Nat) (w' : World) (m' : List (Value × Value)), (Instr.mapEntry t (.map (some b)) (.int .i64 n)).run P w = .ok (.tuple #[z, goInt (cl : Int)]) w' ∧ m'.Perm m ∧ MapS IsI w' b m' (keyI n) z cl ∧ Frm (One b) w w' := by
  obtain ⟨m', h1, h2⟩ := h
  obtain ⟨cl, w', a1, a2, a3⟩ := h2.enter (KeyOk.int hk) ht hz (key := keyI n) ⟨n, rfl⟩ (fun p hp => hno p (h1.mem_iff.1 hp))
  exact ⟨cl, w', m', a1, h1, a2, a3⟩
theorem MapB.drop {S : Value → Prop} {j : Nat} (h : MapB S w b m) (K : KeyOk P k S) (ht : P.underlying t = some (.map k e)) {key v : Value} (hk : S key) (hj : m[j]? = some (key, v)) (ty : TypeId) :
    ∃ w', (Builtin.delete_ #[t, k] ty #[.map (some b), key]).run P w = .ok (.tuple #[]) w' ∧ MapB S w' b (m.eraseIdx j) ∧ Frm (One b) w w' := by
  obtain ⟨es, cl, hb, hm, hS, hnd, hbn, hbl⟩ := h
  have hs : ∀ e ∈ es.toList, S e.key := fun e he => hS (e.key, e.val) (by rw [← hm]; exact List.mem_map_of_mem (f := fun e : MapEntry => (e.key, e.val)) he)
  have hjm : (key, v) ∈ m := List.mem_of_getElem? hj
  rcases K.find w hk es.toList hs with ⟨_, h2⟩ | ⟨i, e0, h1, h2, h3⟩
  · rw [← hm] at hjm
    obtain ⟨e0, he, h3⟩ := List.mem_map.1 hjm
    cases h3
    exact absurd rfl (h2 e0 he)
  · have hmi : m[i]? = some (e0.key, e0.val) := by rw [← hm, List.getElem?_map, h2]; rfl
    have hij : i = j := by
      obtain ⟨a1, a2⟩ := List.getElem?_eq_some_iff.1 hmi
      obtain ⟨b1, b2⟩ := List.getElem?_eq_some_iff.1 hj
      exact nodup_at hnd (i := i) (k := j) (by simpa using a1) (by simpa using b1) (by simp [a2, b2, h3])
    subst hij
    have hjl : i < es.size := by simpa using (List.getElem?_eq_some_iff.1 h2).1
    have hsub : (es.eraseIdxIfInBounds i).toList = es.toList.eraseIdx i := by
      unfold Array.eraseIdxIfInBounds
      rw [dif_pos hjl]
      simp
    have hle : (es.toList.eraseIdx i).Sublist es.toList := List.eraseIdx_sublist _ _
    refine ⟨setBlock w b (.map (es.eraseIdxIfInBounds i) cl), ?_, ⟨_, _, heap_setBlock_same hb _, ?_, fun p hp => hS p ((List.eraseIdx_sublist _ _).subset hp), hnd.sublist ((List.eraseIdx_sublist _ _).map _), ?_, ?_⟩, ⟨rfl, rfl, rfl, by simp [setBlock], fun i _ hi => heap_setBlock_other hb _ (fun e => hi e)⟩⟩
    · simp [Builtin.delete_, run_underlying ht, MapKept.run_getObj_map hb, K.check w _ hk, h1, MapKept.run_setObj_map _ hb, Result.andThen, setBlock]
    · rw [hsub, ChangeMaps.map_eraseIdx, hm]
    · rw [hsub]; exact hbn.sublist (hle.map _)
    · rw [hsub]; exact fun x hx => hbl x (hle.subset hx)
theorem MapP.drop {m0 : List (Value × Value)} (h : MapP w b m) (hk : P.underlying k = some (.int .i64)) (ht : P.underlying t = some (.map k e)) {n : Int} {v : Value} (hp : m.Perm ((keyI n, v) :: m0)) (ty : TypeId) :
    ∃ w', (Builtin.delete_ #[t, k] ty #[.map (some b), .int .i64 n]).run P w = .ok (.tuple #[]) w' ∧ MapP w' b m0 ∧ Frm (One b) w w' := by
  obtain ⟨m', h1, h2⟩ := h
  have hin : (keyI n, v) ∈ m' := (h1.trans hp).mem_iff.2 (List.mem_cons_self ..)
  obtain ⟨j, hj⟩ := List.getElem?_of_mem hin
  obtain ⟨w', a1, a2, a3⟩ := h2.drop (KeyOk.int hk) ht ⟨n, rfl⟩ hj ty
  refine ⟨w', a1, ⟨_, ?_, a2⟩, a3⟩
  obtain ⟨hjl, hje⟩ := List.getElem?_eq_some_iff.1 hj
  have e1 : ((keyI n, v) :: m'.eraseIdx j).Perm m' := by
    rw [← hje, List.eraseIdx_eq_take_drop_succ]
    refine List.perm_middle.symm.trans ?_
    rw [← List.drop_eq_getElem_cons hjl, List.take_append_drop]
  exact (List.perm_cons _).1 (e1.trans (h1.trans hp))
end
theorem MapS.done {P : Program} {t : TypeId} {w : World} {b : Nat} {m m' : List (Value × Value)} {n : Int} {z : Value} {cl : Nat} (h : MapS IsI w b m' (keyI n) z cl) (hp : m'.Perm m) (v : Value) :
    ∃ w', (Instr.entryStore t (.map (some b)) (goInt (cl : Int)) v).run P w = .ok () w' ∧ MapP w' b ((keyI n, v) :: m) ∧ Frm (One b) w w' := by
  obtain ⟨w', a1, a2, a3⟩ := h.store v
  exact ⟨w', a1, ⟨_, (List.perm_append_comm.trans (by simpa using hp)), a2⟩, a3⟩
/-- 'delete(m, n)' at the operation. -/
theorem wpl_dropP {P : Program} {w : World} {ops : Array Oper} {rest : List Oper} {o : Oper} {a : Act} {Q : Exit → Act → World → Prop} {k e t : TypeId} {b : Nat} {m m0 : List (Value × Value)} (hg : o.guard = none) (mo x : Operand) (hop : o.op = Op.call { callee := Callee.builtin Builtin.delete, args := #[mo, x], argTypes := #[t, k] })
    (hk : P.underlying k = some (.int .i64)) (ht : P.underlying t = some (.map k e)) (h : MapP w b m) (hm : a.eval mo = .map (some b)) {n : Int} {v : Value} (hx : a.eval x = .int .i64 n) (hp : m.Perm ((keyI n, v) :: m0))
    (hK : ∀ w', MapP w' b m0 → Frm (One b) w w' → wpList P ops Q rest (a.put o.dst (.tuple #[])) w') : wpList P ops Q (o :: rest) a w := by
  refine wpList_plain hg fun K' hK' => ?_
  obtain ⟨w', hrun, r1, r2⟩ := h.drop hk ht hp o.type
  unfold Oper.wp
  simp [execOp, hop, resolve, invoke, builtin, hm, hx, hrun, Result.andThen]
  exact hK' _ _ (hK w' r1 r2)
/-- 'm[n]', made if it is not there, at an operation of a region that draws its order. -/
theorem wp_enterP {P : Program} {w : World} {o : Oper} {a : Act} {K : Act → World → Prop} {Q : Exit → Act → World → Prop} {k e t : TypeId} {b : Nat} {m : List (Value × Value)} (mo x : Operand) (hop : o.op = Op.mapEntry t mo x)
    (hk : P.underlying k = some (.int .i64)) (ht : P.underlying t = some (.map k e)) {z : Value} (hz : (zeroValue e).run P w = .ok z w) (h : MapP w b m) (hm : a.eval mo = .map (some b)) {n : Int} (hx : a.eval x = .int .i64 n) (hno : ∀ p ∈ m, p.1 ≠ keyI n)
    (hK : ∀ (cl : Nat) w' m', m'.Perm m → MapS IsI w' b m' (keyI n) z cl → Frm (One b) w w' → K (a.put o.dst (.tuple #[z, .int .i64 (cl : Int)])) w') : o.wp P a w K Q := by
  obtain ⟨cl, w', m', hrun, r1, r2, r3⟩ := h.enter hk ht hz hno
  unfold Oper.wp
  simp [execOp, hop, hm, hx, hrun, Result.andThen]
  exact hK cl w' m' r1 r2 r3
theorem wp_estoreP {P : Program} {w : World} {o : Oper} {a : Act} {K : Act → World → Prop} {Q : Exit → Act → World → Prop} {t : TypeId} {b : Nat} {m m' : List (Value × Value)} (mo s v : Operand) (hop : o.op = Op.entryStore t mo s v)
    {n : Int} {z : Value} {cl : Nat} (h : MapS IsI w b m' (keyI n) z cl) (hp : m'.Perm m) (hm : a.eval mo = .map (some b)) (hs : a.eval s = .int .i64 (cl : Int)) {val : Value} (hv : a.eval v = val)
    (hK : ∀ w', MapP w' b ((keyI n, val) :: m) → Frm (One b) w w' → K (a.put o.dst undef) w') : o.wp P a w K Q := by
  obtain ⟨w', hrun, r1, r2⟩ := h.done (P := P) (t := t) hp val
  simp only [goInt] at hrun
  unfold Oper.wp
  simp [execOp, hop, hm, hs, hv, hrun, Result.andThen]
  exact hK w' r1 r2
end Go.Proofs.Ytmkkeglcjbogcaa
namespace Go.Proofs.Ytmkkeglcjbogcaa
set_option linter.unusedVariables false

/-- A timer: its number, when it runs out, behind how many ticks again (0: once), what it tells. -/
structure Tm where
  (no due per what : Int)
/-- A wheel: its timers in the order of their numbers, the ticks that went by, the last number. -/
structure Wh where
  (tm : List Tm) (now last : Int)
structure Wh.ok (s : Wh) : Prop where
  (srt : s.tm.Pairwise fun a b => a.no < b.no) (lo : ∀ t ∈ s.tm, 1 ≤ t.no ∧ t.no ≤ s.last) (due : ∀ t ∈ s.tm, s.now < t.due ∧ t.due ≤ s.now + 4294967296) (per : ∀ t ∈ s.tm, 0 ≤ t.per ∧ t.per ≤ 4294967296) (len : s.tm.length ≤ 1024) (now : 0 ≤ s.now)
/-- The least of numbers, and whether there is any. -/
def leastL : List Int → Int × Bool
  | [] => (0, false)
  | x :: r => (r.foldl min x, true)
theorem leastL_mem : ∀ (l : List Int), l ≠ [] → (leastL l).1 ∈ l ∧ ∀ x ∈ l, (leastL l).1 ≤ x := by
  intro l hl
  cases l with
  | nil => exact absurd rfl hl
  | cons x r =>
    show r.foldl min x ∈ x :: r ∧ ∀ y ∈ x :: r, r.foldl min x ≤ y
    clear hl
    induction r generalizing x with
    | nil => simp
    | cons y r ih =>
      simp only [List.foldl_cons]
      obtain ⟨h1, h2⟩ := ih (min x y)
      refine ⟨?_, fun z hz => ?_⟩
      · rcases List.mem_cons.1 h1 with h | h
        · rw [h]
          rcases Int.le_total x y with h3 | h3
          · rw [Int.min_eq_left h3]; exact List.mem_cons_self ..
          · rw [Int.min_eq_right h3]; exact List.mem_cons_of_mem _ (List.mem_cons_self ..)
        · exact List.mem_cons_of_mem _ (List.mem_cons_of_mem _ h)
      · have h3 := h2 (min x y) (List.mem_cons_self ..)
        rcases List.mem_cons.1 hz with rfl | hz
        · omega
        · rcases List.mem_cons.1 hz with rfl | hz
          · omega
          · exact h2 z (List.mem_cons_of_mem _ hz)
/-- It does not matter in which order they stand. -/
theorem leastL_perm {a b : List Int} (h : a.Perm b) : leastL a = leastL b := by
  by_cases ha : a = []
  · subst ha; rw [List.nil_perm.1 h]
  · have hb : b ≠ [] := fun e => ha (by rw [e] at h; exact List.perm_nil.1 h)
    obtain ⟨a1, a2⟩ := leastL_mem a ha
    obtain ⟨b1, b2⟩ := leastL_mem b hb
    have e1 : (leastL a).1 = (leastL b).1 := Int.le_antisymm (a2 _ (h.mem_iff.2 b1)) (b2 _ (h.mem_iff.1 a1))
    have e2 : (leastL a).2 = (leastL b).2 := by
      cases a with
      | nil => exact absurd rfl ha
      | cons x r => cases b with
        | nil => exact absurd rfl hb
        | cons y q => rfl
    exact Prod.ext e1 e2
def Wh.next (s : Wh) : Int × Bool := leastL (s.tm.map fun t => t.due - s.now)
/-- The timers of this tick run out: a timer behind it. -/
def fireT (now : Int) (t : Tm) : Option Tm := if t.due = now then (if 0 < t.per then some ⟨t.no, t.due + t.per, t.per, t.what⟩ else none) else some t
def tellT (now : Int) (told : List Int) (t : Tm) : List Int := if t.due = now ∧ told.length < 65536 then told ++ [t.what] else told
def Wh.fires (s : Wh) (told : List Int) : Wh × List Int := (⟨s.tm.filterMap (fireT s.now), s.now, s.last⟩, s.tm.foldl (tellT s.now) told)
def Wh.left (s : Wh) (no : Int) : Int × Bool := match s.tm.find? (fun t => t.no == no) with
  | some t => (t.due - s.now, true)
  | none => (0, false)
def Wh.cancel (s : Wh) (no : Int) : Wh × Bool := (⟨s.tm.filter (fun t => t.no != no), s.now, s.last⟩, s.tm.any (fun t => t.no == no))
def withinW (n : Int) : Bool := decide (1 ≤ n ∧ n ≤ 4294967296)
def Wh.adds (s : Wh) (after per what : Int) : Wh × Int × Int :=
  if 1024 ≤ s.tm.length then (s, 0, 2) else (⟨s.tm ++ [⟨s.last + 1, s.now + after, per, what⟩], s.now, s.last + 1⟩, s.last + 1, 0)
def Wh.add (s : Wh) (after what : Int) : Wh × Int × Int := if withinW after then s.adds after 0 what else (s, 0, 1)
def Wh.every (s : Wh) (first per what : Int) : Wh × Int × Int := if withinW first && withinW per then s.adds first per what else (s, 0, 1)
/-- Ticks up to e; f is a bound on the rounds. -/
def Wh.run (e : Int) : Nat → Wh → List Int → Wh × List Int
  | 0, s, told => (s, told)
  | f + 1, s, told =>
    if s.next.2 = false ∨ e - s.now < s.next.1 then (⟨s.tm, e, s.last⟩, told)
    else let r := Wh.fires ⟨s.tm, s.now + s.next.1, s.last⟩ told
         Wh.run e f r.1 r.2
def Wh.tick (s : Wh) (n : Int) : Wh × List Int := Wh.run (s.now + min n 1048576) 1048577 s []
end Go.Proofs.Ytmkkeglcjbogcaa
