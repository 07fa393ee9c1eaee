/-
  Small laws on worlds that every text of this seat uses: blocks, frames, byte rows. No Go function is named here. More small laws: slices of structs that came in; a slice of bytes copied. A call of a Go function at an operation of a region that draws its order. Bytes and items in memory: laws that every text of the items uses. No Go function is named here. Values of types: what can be, what is told of them, their bytes. Plain: no Go function is named here. A dictionary, as a list of entries and values in order. Plain: no Go function is named here. What the code knows of types: of, fits, check, plain.
-/
import Derived.WalkKit
import Derived.WalkSpells
import Derived.WalkLawsBesides
import Derived.ProofKit
import Derived.Deep.Draws
import Derived.Deep.AppendLies
import Derived.Deep.RegionHeld3
import Derived.Deep.QuietTactic
import Derived.BigQuiet
import Derived.Lib.Hide
import Derived.KernelRfl
import Derived.Test.YtemjdmgfilbfaaaGreatProg
import Derived.Lib.Bytealg
import Derived.Test.YtemjdmgfilbfaaaGreatChecked
set_option linter.unusedVariables false
set_option linter.unusedSimpArgs false
namespace Go.Proofs.YtemjdmgfilbfaaaGreat
open Go.RowKit

/-- Blocks of S aside (and new ones), w' is as w was. -/
structure Frm (S : Nat → Prop) (w w' : World) : Prop where
  os : w'.os = w.os
  tape : w'.tape = w.tape
  output : w'.output = w.output
  size : w.heap.size ≤ w'.heap.size
  block : ∀ k, k < w.heap.size → ¬ S k → w'.heap[k]? = w.heap[k]?

section
variable {S T U : Nat → Prop} {a b c w w' : World}

theorem Frm.refl (S : Nat → Prop) (w : World) : Frm S w w := ⟨rfl, rfl, rfl, Nat.le_refl _, fun _ _ _ => rfl⟩

theorem Frm.trans (h : Frm S a b) (k : Frm T b c) (hT : ∀ i, i < a.heap.size → T i → S i) : Frm S a c :=
  ⟨k.os.trans h.os, k.tape.trans h.tape, k.output.trans h.output, Nat.le_trans h.size k.size,
    fun i hi hn => (k.block i (Nat.lt_of_lt_of_le hi h.size) (fun ht => hn (hT i hi ht))).trans (h.block i hi hn)⟩

theorem Frm.trans' (h : Frm S a b) (k : Frm S b c) : Frm S a c := h.trans k fun _ _ h => h

theorem Frm.mono (h : Frm S a b) (hS : ∀ i, i < a.heap.size → S i → T i) : Frm T a b :=
  ⟨h.os, h.tape, h.output, h.size, fun i hi hn => h.block i hi fun hs => hn (hS i hi hs)⟩

theorem Frm.alloc (h : Frm S a w) (o : Obj) : Frm S a (w.alloc o) :=
  ⟨h.os, h.tape, h.output, by have := h.size; simp; omega, fun k hk hn => by
    rw [Below.heap_alloc _ _ _ (Nat.lt_of_lt_of_le hk h.size)]; exact h.block k hk hn⟩

theorem Frm.drew (h : Frm S a w) : Frm S a w.drew := ⟨h.os, h.tape, h.output, h.size, h.block⟩
theorem Frm.drewN (h : Frm S a w) (n : Nat) : Frm S a (w.drewN n) := ⟨h.os, h.tape, h.output, h.size, h.block⟩

theorem Frm.setCell (h : Frm S a w) {p : Addr} (hp : p.block < a.heap.size → S p.block) (u : Value) : Frm S a (w.setCell p u) :=
  ⟨h.os, h.tape, h.output, by have := h.size; simp; omega, fun k hk hn => by
    rw [Below.heap_setCell _ _ _ _ (fun e => hn (by rw [e]; exact hp (by rw [← e]; exact hk)))]; exact h.block k hk hn⟩

theorem Frm.grown (h : Frm S a w) {row : Option Nat} (hg : w.grownBy w' row) (hr : ∀ k, row = some k → k < a.heap.size → S k) : Frm S a w' :=
  ⟨hg.os.trans h.os, hg.tape.trans h.tape, hg.output.trans h.output, Nat.le_trans h.size hg.size, fun k hk hn => by
    rw [hg.block k (Nat.lt_of_lt_of_le hk h.size) (fun e => hn (hr k e.symm hk))]; exact h.block k hk hn⟩

theorem Frm.of_below {B : Nat} (h : Below B a b) : Frm (fun k => B ≤ k) a b :=
  ⟨h.os, h.tape, h.output, h.size, fun k _ hn => h.block k (by omega)⟩

theorem Frm.below {B : Nat} (h : Frm S a b) (hB : B ≤ a.heap.size) (hS : ∀ i, i < B → ¬ S i) : Below B a b :=
  ⟨h.os, h.tape, h.output, h.size, fun k hk => h.block k (by omega) (hS k hk)⟩

theorem Frm.heap (h : Frm S w w') {k : Nat} {o : Obj} (hk : w.heap[k]? = some o) (hn : ¬ S k) : w'.heap[k]? = some o := by
  rw [h.block k (lt_of_block hk) hn]; exact hk

theorem Frm.heapEq (h : Frm S w w') {k : Nat} (hk : k < w.heap.size) (hn : ¬ S k) : w'.heap[k]? = w.heap[k]? := h.block k hk hn

theorem Frm.cell (h : Frm S w w') {p : Addr} {v : Value} (hk : w.cell? p = some v) (hn : ¬ S p.block) : w'.cell? p = some v := by
  rw [World.cell?_of_block (w := w) (h.block _ (World.block_lt_of_cell? w p hk) hn)]; exact hk

theorem Frm.row (h : Frm S w w') {base e size n : Nat} {v : Value} {xs : List Value} (hr : w.ownsRow base e size v n xs) (hn : ∀ k, v.ownBlock = some k → ¬ S k) :
    w'.ownsRow base e size v n xs := by
  obtain ⟨h1, h2⟩ := hr
  refine ⟨h1, ?_⟩
  rcases h2 with h2 | ⟨g, cap, cur, rfl, hg, hh, r⟩
  · exact Or.inl h2
  · exact Or.inr ⟨g, cap, cur, rfl, hg, h.heap hh (hn g rfl), r⟩
end

theorem nodup_at {α : Type} {l : List α} (h : l.Nodup) {i k : Nat} (hi : i < l.length) (hk : k < l.length) (e : l[i] = l[k]) : i = k := by
  rcases Nat.lt_trichotomy i k with h1 | h1 | h1
  · exact absurd e (List.pairwise_iff_getElem.1 h i k hi hk h1)
  · exact h1
  · exact absurd e.symm (List.pairwise_iff_getElem.1 h k i hk hi h1)

/-- The one block b. -/
def One (b : Nat) : Nat → Prop := fun k => k = b
theorem Frm.set1 {b o : Nat} {a w : World} (h : Frm (One b) a w) (u : Value) : Frm (One b) a (w.setCell ⟨b, o, none⟩ u) := h.setCell (p := ⟨b, o, none⟩) (fun _ => rfl) u

theorem row_base {w : World} {base base' e size n : Nat} {v : Value} {xs : List Value} (hr : w.ownsRow base e size v n xs) (hb : base' ≤ base) : w.ownsRow base' e size v n xs := by
  obtain ⟨h1, h2⟩ := hr
  refine ⟨h1, ?_⟩
  rcases h2 with h2 | ⟨g, cap, cur, hv, hg, hh, r⟩
  · exact Or.inl h2
  · exact Or.inr ⟨g, cap, cur, hv, by omega, hh, r⟩

theorem row_new {w : World} {cs : Array Value} {e n size B g : Nat} {xs : List Value} (hg : g = w.heap.size) (h : cs.size = n * size) (hx : cs.toList = xs) (hn : n ≤ maxLen) (hB : B ≤ w.heap.size) :
    (w.alloc (.cells cs e)).ownsRow B e size (.slice (some ⟨g, 0, none⟩) n n) n xs := by
  subst hg
  refine ⟨by rw [← hx]; simpa using h, .inr ⟨w.heap.size, n, cs, rfl, hB, heap_alloc_new w _, Nat.le_refl _, hn, h, ?_⟩⟩
  rw [hx, List.take_of_length_le (by rw [← hx]; simp [h])]

/-- The type and block of a row that is not nil. -/
theorem row_block {w : World} {base e size n : Nat} {v : Value} {xs : List Value} (hr : w.ownsRow base e size v n xs) {k : Nat} (hk : v.ownBlock = some k) :
    base ≤ k ∧ ∃ cur, w.heap[k]? = some (.cells cur e (0, 0)) := by
  rcases hr.2 with ⟨rfl, _⟩ | ⟨g, cap, cur, rfl, hg, hh, r⟩
  · cases hk
  · cases hk; exact ⟨hg, cur, hh⟩

/-- What a row's value looks like, and its cells. -/
theorem row_open {w : World} {base e size n : Nat} {v : Value} {xs : List Value} (hr : w.ownsRow base e size v n xs) :
    ∃ (A : Option Addr) (cap : Nat), v = .slice A n cap ∧ n ≤ cap ∧ cap ≤ maxLen ∧
      (0 < n → ∃ g, A = some ⟨g, 0, none⟩ ∧ base ≤ g ∧ (∃ cur, w.heap[g]? = some (.cells cur e (0, 0))) ∧ (∀ j, w.frozen? ⟨g, j, none⟩ = false) ∧ ∀ j, j < n * size → w.cell? ⟨g, j, none⟩ = xs[j]?) := by
  have hr' := hr
  rcases hr.2 with ⟨rfl, rfl⟩ | ⟨g, cap, cur, rfl, hg, hh, hc, hm, hs, ht⟩
  · exact ⟨none, 0, rfl, Nat.le_refl _, Nat.zero_le _, fun h => absurd h (by omega)⟩
  · exact ⟨_, cap, rfl, hc, hm, fun _ => ⟨g, rfl, hg, ⟨cur, hh⟩, fun j => hr'.frozenAt j, fun j hj => hr'.cellAt j hj⟩⟩

theorem block_ne {w : World} {i j : Nat} {c d : Array Value} {s t : TypeId} {f g : Nat × Nat} (hi : w.heap[i]? = some (.cells c s f)) (hj : w.heap[j]? = some (.cells d t g)) (h : s ≠ t) : i ≠ j := by
  rintro rfl
  rw [hi] at hj
  cases hj
  exact h rfl

theorem heap_set_same {w : World} {b o : Nat} {cs : Array Value} {t : TypeId} {fz : Nat × Nat} (h : w.heap[b]? = some (.cells cs t fz)) (v : Value) :
    (w.setCell ⟨b, o, none⟩ v).heap[b]? = some (.cells (cs.setIfInBounds o v) t fz) := by
  simp [World.setCell, Array.getElem?_modify, h]

theorem heap_set_other {w : World} {k : Nat} {a : Addr} {v : Value} {x : Option Obj} (h : w.heap[k]? = x) (hk : k ≠ a.block) : (w.setCell a v).heap[k]? = x := by
  rw [Below.heap_setCell _ _ _ _ hk]; exact h

theorem heap_alloc_old {w : World} {k : Nat} {o x : Obj} (h : w.heap[k]? = some x) : (w.alloc o).heap[k]? = some x := by
  rw [Below.heap_alloc _ _ _ (lt_of_block h)]; exact h

theorem heap_new (w : World) (o : Obj) : (w.alloc o).heap[w.heap.size]? = some o := heap_alloc_new w o

theorem heap_drew' {w : World} {k : Nat} {x : Option Obj} (h : w.heap[k]? = x) : w.drew.heap[k]? = x := h
theorem heap_drewN' {w : World} {m k : Nat} {x : Option Obj} (h : w.heap[k]? = x) : (w.drewN m).heap[k]? = x := h
theorem heap_set_at {w : World} {b o : Nat} {cs ds : Array Value} {t : TypeId} {fz : Nat × Nat} {v : Value} (h : w.heap[b]? = some (.cells cs t fz)) (e : cs.setIfInBounds o v = ds) :
    (w.setCell ⟨b, o, none⟩ v).heap[b]? = some (.cells ds t fz) := by rw [← e]; exact heap_set_same h v
theorem heap_fin {w : World} {b : Nat} {cs ds : Array Value} {t : TypeId} {fz : Nat × Nat} (h : w.heap[b]? = some (.cells cs t fz)) (e : cs = ds) : w.heap[b]? = some (.cells ds t fz) := by rw [← e]; exact h
theorem cell_alloc_old {w : World} {a : Addr} {v : Value} {o : Obj} (h : w.cell? a = some v) : (w.alloc o).cell? a = some v := by
  rw [World.cell?_of_block (w := w) (Below.heap_alloc w o a.block (World.block_lt_of_cell? w a h))]; exact h
theorem cell_drew' {w : World} {a : Addr} {v : Value} (h : w.cell? a = some v) : w.drew.cell? a = some v := h
theorem cell_drewN' {w : World} {a : Addr} {n : Nat} {v : Value} (h : w.cell? a = some v) : (w.drewN n).cell? a = some v := h
theorem heap_new_at {w : World} {k : Nat} {o : Obj} (h : k = w.heap.size) : (w.alloc o).heap[k]? = some o := by rw [h]; exact heap_new w o

theorem cell_at {w : World} {b o : Nat} {cs : Array Value} {t : TypeId} {fz : Nat × Nat} (h : w.heap[b]? = some (.cells cs t fz)) : w.cell? ⟨b, o, none⟩ = cs[o]? := by
  simp [World.cell?, h]

theorem free_at {w : World} {b o : Nat} {cs : Array Value} {t : TypeId} (h : w.heap[b]? = some (.cells cs t (0, 0))) : w.frozen? ⟨b, o, none⟩ = false := by
  simp [World.frozen?, h]
theorem frees {w : World} {b : Nat} {cs : Array Value} {t : TypeId} (h : w.heap[b]? = some (.cells cs t (0, 0))) : ∀ o, w.frozen? ⟨b, o, none⟩ = false := fun _ => free_at h

/-- What append asks of its types: t a slice of e, 'size' cells and 'bytes' bytes each. -/
structure El (P : Program) (t e : TypeId) (size bytes : Nat) : Prop where
  ht : P.underlying t = some (.slice e)
  pos : 0 < size
  ex : ∃ i z, P.info? e = some i ∧ i.zero = some z ∧ i.size = size ∧ i.bytes = bytes ∧ z.cells.size = size

theorem El.of {P : Program} {t e : TypeId} {z : Value} {size bytes : Nat} (ht : P.underlying t = some (.slice e)) (h : (P.info? e).map (fun i => (i.zero, i.size, i.bytes)) = some (some z, size, bytes)) (hz : z.cells.size = size) (hp : 0 < size) :
    El P t e size bytes := by
  obtain ⟨i, hi, h0, h1, h2⟩ := info_parts h
  exact ⟨ht, hp, i, z, hi, h0, h1, h2, hz⟩

theorem add_zero' (b i : Nat) : (⟨b, 0, none⟩ : Addr).add i = ⟨b, i, none⟩ := by
  unfold Addr.add
  by_cases h : i = 0
  · simp [h]
  · simp [h]
theorem add_off (b o i : Nat) : (⟨b, o, none⟩ : Addr).add i = ⟨b, o + i, none⟩ := by
  unfold Addr.add
  by_cases h : i = 0
  · simp [h]
  · simp [h]

/-- Append of a slice that lies in a block just made. -/
theorem wpl_app_new {P : Program} {ops : Array Oper} {rest : List Oper} {o : Oper} {a : Act} {Q : Exit → Act → World → Prop} {W : World} {t e e2 : TypeId} {size bytes B : Nat} (hgd : o.guard = none) (E : El P t e size bytes) (s x : Operand)
    (ho : o.op = .call { callee := .builtin .append, args := #[s, x], argTypes := #[t, t] }) {v : Value} {n g m c : Nat} {xs : List Value} {arr : Array Value} (hs : a.eval s = v) (hx : a.eval x = .slice (some ⟨g, 0, none⟩) m c)
    (hg : g = W.heap.size) (hown : W.ownsRow B e size v n xs) (hl : arr.size = m * size) (h1 : ∀ u ∈ arr.toList, u.oneCell' = true)
    (h63 : n + m ≤ maxLen) (hbytes : (n + m) * bytes ≤ 140737488355328) (hbase : B ≤ W.heap.size)
    (h : ∀ v' w', w'.ownsRow B e size v' (n + m) (xs ++ arr.toList) → Frm (fun k => v.ownBlock = some k) W w' → wpList P ops Q rest (a.put o.dst v') w') : wpList P ops Q (o :: rest) a (W.alloc (.cells arr e2)) := by
  obtain ⟨i, z, hi, hz, h2, h3, h4⟩ := E.ex
  refine wpList_append_own _ hgd s x t ho B e i z size bytes E.ht hi hz h2 h3 h4 E.pos v n xs hs (hown.alloc _) ⟨g, 0, none⟩ m c arr.toList hx (by simpa using hl) ?_ h1 h63 hbytes (by simp; omega) ?_
  · intro j u hj
    subst hg
    rw [add_zero', World.cell?_alloc_new]
    simpa using hj
  · intro v' w' ho' hg' _
    exact h v' w' ho' (((Frm.refl _ _).alloc _).grown hg' (fun k hk _ => hk))

/-- Append of a slice that lies in a block known whole: at a plain region's operation, and at one that draws its order. -/
theorem wp_app {P : Program} {o : Oper} {a : Act} {K : Act → World → Prop} {Q : Exit → Act → World → Prop} {w : World} {t e e2 : TypeId} {size bytes B : Nat} (E : El P t e size bytes) (s x : Operand)
    (ho : o.op = .call { callee := .builtin .append, args := #[s, x], argTypes := #[t, t] }) {v : Value} {n gb m c : Nat} {xs : List Value} {arr : Array Value} {fr : Nat × Nat} (hs : a.eval s = v) (hx : a.eval x = .slice (some ⟨gb, 0, none⟩) m c)
    (hown : w.ownsRow B e size v n xs) (hnew : w.heap[gb]? = some (.cells arr e2 fr)) (hl : arr.size = m * size) (h1 : ∀ u ∈ arr.toList, u.oneCell' = true) (hm : 0 < m)
    (h63 : n + m ≤ maxLen) (hbytes : (n + m) * bytes ≤ 140737488355328) (hbase : B ≤ w.heap.size)
    (h : ∀ g cap w', w'.ownsRow B e size (.slice (some ⟨g, 0, none⟩) (n + m) cap) (n + m) (xs ++ arr.toList) → Frm (fun k => v.ownBlock = some k) w w' → (v.ownBlock = some g ∨ w.heap.size = g) → g < w'.heap.size →
      K (a.put o.dst (.slice (some ⟨g, 0, none⟩) (n + m) cap)) w') : o.wp P a w K Q := by
  obtain ⟨i, z, hi, hz, h2, h3, h4⟩ := E.ex
  refine wp_append_lies w s x t ho B e i z size bytes E.ht hi hz h2 h3 h4 E.pos v n xs hs hown ⟨gb, 0, none⟩ m c arr.toList hx (by simpa using hl) (World.news_of_block hnew) h1 hm h63 hbytes hbase w.heap.size rfl ?_
  intro g cap w' ho' hg' hat hlt
  exact h g cap w' ho' ((Frm.refl _ _).grown hg' (fun k hk _ => hk)) (hat.imp id Eq.symm) hlt

theorem wpl_app {P : Program} {ops : Array Oper} {rest : List Oper} {o : Oper} {a : Act} {Q : Exit → Act → World → Prop} {w : World} {t e e2 : TypeId} {size bytes B : Nat} (hgd : o.guard = none) (E : El P t e size bytes) (s x : Operand)
    (ho : o.op = .call { callee := .builtin .append, args := #[s, x], argTypes := #[t, t] }) {v : Value} {n gb m c : Nat} {xs : List Value} {arr : Array Value} {fr : Nat × Nat} (hs : a.eval s = v) (hx : a.eval x = .slice (some ⟨gb, 0, none⟩) m c)
    (hown : w.ownsRow B e size v n xs) (hnew : w.heap[gb]? = some (.cells arr e2 fr)) (hl : arr.size = m * size) (h1 : ∀ u ∈ arr.toList, u.oneCell' = true) (hm : 0 < m)
    (h63 : n + m ≤ maxLen) (hbytes : (n + m) * bytes ≤ 140737488355328) (hbase : B ≤ w.heap.size)
    (h : ∀ g cap w', w'.ownsRow B e size (.slice (some ⟨g, 0, none⟩) (n + m) cap) (n + m) (xs ++ arr.toList) → Frm (fun k => v.ownBlock = some k) w w' → (v.ownBlock = some g ∨ w.heap.size = g) → g < w'.heap.size →
      wpList P ops Q rest (a.put o.dst (.slice (some ⟨g, 0, none⟩) (n + m) cap)) w') : wpList P ops Q (o :: rest) a w :=
  wpList_plain hgd fun _ hK => wp_app E s x ho hs hx hown hnew hl h1 hm h63 hbytes hbase fun g cap w' h2 h3 h4 h5 => hK _ _ (h g cap w' h2 h3 h4 h5)

theorem step_app {P : Program} {ops : Array Oper} {o : Oper} {a : Act} {K : Act → World → Prop} {Q : Exit → Act → World → Prop} {X : Prop} {w : World} {t e e2 : TypeId} {size bytes B : Nat} (hgd : o.guard = none) (E : El P t e size bytes) (s x : Operand)
    (ho : o.op = .call { callee := .builtin .append, args := #[s, x], argTypes := #[t, t] }) {v : Value} {n gb m c : Nat} {xs : List Value} {arr : Array Value} {fr : Nat × Nat} (hs : a.eval s = v) (hx : a.eval x = .slice (some ⟨gb, 0, none⟩) m c)
    (hown : w.ownsRow B e size v n xs) (hnew : w.heap[gb]? = some (.cells arr e2 fr)) (hl : arr.size = m * size) (h1 : ∀ u ∈ arr.toList, u.oneCell' = true) (hm : 0 < m)
    (h63 : n + m ≤ maxLen) (hbytes : (n + m) * bytes ≤ 140737488355328) (hbase : B ≤ w.heap.size)
    (h : ∀ g cap w', w'.ownsRow B e size (.slice (some ⟨g, 0, none⟩) (n + m) cap) (n + m) (xs ++ arr.toList) → Frm (fun k => v.ownBlock = some k) w w' → (v.ownBlock = some g ∨ w.heap.size = g) → g < w'.heap.size →
      K (a.put o.dst (.slice (some ⟨g, 0, none⟩) (n + m) cap)) w') : if Region.wanted o (yielded ops a.tmps) = true then Oper.wp P o a w K Q else X := by
  rw [if_pos (by simp [Region.wanted, hgd])]
  exact wp_app E s x ho hs hx hown hnew hl h1 hm h63 hbytes hbase h

theorem ret_int {k : IntKind} {a b : Int} (h : a = b) : Ending.returned (.int k a) = .returned (.int k b) := by rw [h]

/-- A slice of bytes that reads as bs. -/
def BytesAt (w : World) (v : Value) (bs : List UInt8) : Prop :=
  ∃ A cap, v = .slice A bs.length cap ∧ bs.length ≤ cap ∧ cap ≤ maxLen ∧ (0 < bs.length → ∃ b off, A = some ⟨b, off, none⟩ ∧
    ∀ i, i < bs.length → w.cell? ⟨b, off + i, none⟩ = some (.int .u8 (bs.getD i 0).toNat))

end Go.Proofs.YtemjdmgfilbfaaaGreat
namespace Go.Proofs.YtemjdmgfilbfaaaGreat
open Go.RowKit

/-- A slice of elements of sz cells that reads as xs. -/
def SlAt {α : Type} (enc : α → List Value) (sz : Nat) (W : World) (v : Value) (xs : List α) : Prop :=
  ∃ A cap, v = .slice A xs.length cap ∧ xs.length ≤ cap ∧ cap ≤ maxLen ∧ (0 < xs.length → ∃ g off, A = some ⟨g, off, none⟩ ∧ g < W.heap.size ∧
    ∀ i (h : i < xs.length) j, j < sz → W.cell? ⟨g, off + i * sz + j, none⟩ = (enc xs[i])[j]?)

/-- Append of a slice without elements changes nothing. -/
theorem run_append_empty {P : Program} {w : World} {base : Nat} {t ty e : TypeId} {i : TypeInfo} {size : Nat} (ht : P.underlying t = some (.slice e)) (hi : P.info? e = some i) {v : Value} {n : Nat} {xs : List Value} (hown : w.ownsRow base e size v n xs) (A : Option Addr) (c : Nat) :
    (Builtin.append_ #[t, t] ty #[v, .slice A 0 c]).run P w = .ok v w := by
  cases A with
  | none =>
    rcases hown.2 with ⟨rfl, rfl⟩ | ⟨g, cap, cur, rfl, _, _, hnc, _⟩
    · simp [Builtin.append_, run_underlying ht, sizeOf, typeInfo, hi, Builtin.lenOf, Builtin.firstCells]
    · simp [Builtin.append_, run_underlying ht, sizeOf, typeInfo, hi, Builtin.lenOf, Builtin.firstCells, hnc, storeCells]
  | some a =>
    rcases hown.2 with ⟨rfl, rfl⟩ | ⟨g, cap, cur, rfl, _, _, hnc, _⟩
    · simp [Builtin.append_, run_underlying ht, sizeOf, typeInfo, hi, Builtin.lenOf, Builtin.firstCells, loadCells, loadCellsFrom]
    · simp [Builtin.append_, run_underlying ht, sizeOf, typeInfo, hi, Builtin.lenOf, Builtin.firstCells, hnc, storeCells, loadCells, loadCellsFrom]

/-- Append of a slice that lies anywhere, empty or not. -/
theorem wp_app_src {P : Program} {o : Oper} {a : Act} {K : Act → World → Prop} {Q : Exit → Act → World → Prop} {w : World} {t e : TypeId} {size bytes B : Nat} (E : El P t e size bytes) (s x : Operand)
    (ho : o.op = .call { callee := .builtin .append, args := #[s, x], argTypes := #[t, t] }) {v : Value} {n m c : Nat} {A : Option Addr} {xs news : List Value} (hs : a.eval s = v) (hx : a.eval x = .slice A m c)
    (hown : w.ownsRow B e size v n xs) (hl : news.length = m * size) (hnews : 0 < m → ∃ g off, A = some ⟨g, off, none⟩ ∧ ∀ j u, news[j]? = some u → w.cell? ⟨g, off + j, none⟩ = some u) (h1 : ∀ u ∈ news, u.oneCell' = true)
    (h63 : n + m ≤ maxLen) (hbytes : (n + m) * bytes ≤ 140737488355328) (hbase : B ≤ w.heap.size)
    (h : ∀ A' cap w', w'.ownsRow B e size (.slice A' (n + m) cap) (n + m) (xs ++ news) → Frm (fun k => v.ownBlock = some k) w w' → K (a.put o.dst (.slice A' (n + m) cap)) w') : o.wp P a w K Q := by
  obtain ⟨i, z, hi, hz, h2, h3, h4⟩ := E.ex
  by_cases hm : 0 < m
  · obtain ⟨g, off, rfl, hc⟩ := hnews hm
    refine wp_append_lies w s x t ho B e i z size bytes E.ht hi hz h2 h3 h4 E.pos v n xs hs hown ⟨g, off, none⟩ m c news hx hl (fun j u hj => by rw [add_off]; exact hc j u hj) h1 hm h63 hbytes hbase w.heap.size rfl ?_
    intro g cap w' ho' hg' hat hlt
    exact h _ cap w' ho' ((Frm.refl _ _).grown hg' (fun k hk _ => hk))
  · obtain rfl : m = 0 := by omega
    have hn : news = [] := List.eq_nil_of_length_eq_zero (by simpa using hl)
    subst hn
    obtain ⟨A', cap, rfl, _⟩ := row_open hown
    have hr := run_append_empty (P := P) (ty := o.type) E.ht hi hown A c
    unfold Oper.wp execOp
    simp only [ho, resolve, invoke, builtin, Sem.run_bind, Sem.run_pure, Result.andThen_ok, List.map_toArray, List.map_cons, List.map_nil, hs, hx, hr]
    exact h A' cap w (by simpa using hown) (Frm.refl _ _)

theorem wpl_app_src {P : Program} {ops : Array Oper} {rest : List Oper} {o : Oper} {a : Act} {Q : Exit → Act → World → Prop} {w : World} {t e : TypeId} {size bytes B : Nat} (hgd : o.guard = none) (E : El P t e size bytes) (s x : Operand)
    (ho : o.op = .call { callee := .builtin .append, args := #[s, x], argTypes := #[t, t] }) {v : Value} {n m c : Nat} {A : Option Addr} {xs news : List Value} (hs : a.eval s = v) (hx : a.eval x = .slice A m c)
    (hown : w.ownsRow B e size v n xs) (hl : news.length = m * size) (hnews : 0 < m → ∃ g off, A = some ⟨g, off, none⟩ ∧ ∀ j u, news[j]? = some u → w.cell? ⟨g, off + j, none⟩ = some u) (h1 : ∀ u ∈ news, u.oneCell' = true)
    (h63 : n + m ≤ maxLen) (hbytes : (n + m) * bytes ≤ 140737488355328) (hbase : B ≤ w.heap.size)
    (h : ∀ A' cap w', w'.ownsRow B e size (.slice A' (n + m) cap) (n + m) (xs ++ news) → Frm (fun k => v.ownBlock = some k) w w' → wpList P ops Q rest (a.put o.dst (.slice A' (n + m) cap)) w') : wpList P ops Q (o :: rest) a w :=
  wpList_plain hgd fun _ hK => wp_app_src E s x ho hs hx hown hl hnews h1 h63 hbytes hbase fun A' cap w' h2 h3 => hK _ _ (h A' cap w' h2 h3)

theorem step_app_src {P : Program} {ops : Array Oper} {o : Oper} {a : Act} {K : Act → World → Prop} {Q : Exit → Act → World → Prop} {X : Prop} {w : World} {t e : TypeId} {size bytes B : Nat} (hgd : o.guard = none) (E : El P t e size bytes) (s x : Operand)
    (ho : o.op = .call { callee := .builtin .append, args := #[s, x], argTypes := #[t, t] }) {v : Value} {n m c : Nat} {A : Option Addr} {xs news : List Value} (hs : a.eval s = v) (hx : a.eval x = .slice A m c)
    (hown : w.ownsRow B e size v n xs) (hl : news.length = m * size) (hnews : 0 < m → ∃ g off, A = some ⟨g, off, none⟩ ∧ ∀ j u, news[j]? = some u → w.cell? ⟨g, off + j, none⟩ = some u) (h1 : ∀ u ∈ news, u.oneCell' = true)
    (h63 : n + m ≤ maxLen) (hbytes : (n + m) * bytes ≤ 140737488355328) (hbase : B ≤ w.heap.size)
    (h : ∀ A' cap w', w'.ownsRow B e size (.slice A' (n + m) cap) (n + m) (xs ++ news) → Frm (fun k => v.ownBlock = some k) w w' → K (a.put o.dst (.slice A' (n + m) cap)) w') : if Region.wanted o (yielded ops a.tmps) = true then Oper.wp P o a w K Q else X := by
  rw [if_pos (by simp [Region.wanted, hgd])]
  exact wp_app_src E s x ho hs hx hown hl hnews h1 h63 hbytes hbase h

/-- The cells of a list of elements, one behind the other. -/
def cellsOf {α : Type} (enc : α → List Value) (xs : List α) : List Value := xs.flatMap enc
theorem cellsOf_length {α : Type} {enc : α → List Value} {sz : Nat} (hsz : ∀ x, (enc x).length = sz) (xs : List α) : (cellsOf enc xs).length = xs.length * sz := by
  induction xs with
  | nil => simp [cellsOf]
  | cons x r ih => simp only [cellsOf, List.flatMap_cons, List.length_append, hsz, List.length_cons] at ih ⊢; rw [ih, Nat.add_mul]; omega
theorem cellsOf_get {α : Type} {enc : α → List Value} {sz : Nat} (hsz : ∀ x, (enc x).length = sz) (xs : List α) (i j : Nat) (hi : i < xs.length) (hj : j < sz) : (cellsOf enc xs)[i * sz + j]? = (enc xs[i])[j]? := by
  induction xs generalizing i with
  | nil => simp at hi
  | cons x r ih =>
    simp only [cellsOf, List.flatMap_cons] at ih ⊢
    cases i with
    | zero => rw [List.getElem?_append_left (by rw [hsz]; omega)]; simp
    | succ i =>
      rw [List.getElem?_append_right (by rw [hsz, Nat.add_mul]; omega), hsz]
      have := ih i (by simpa using hi)
      rw [show (i + 1) * sz + j - sz = i * sz + j by rw [Nat.add_mul]; omega]
      simpa using this
/-- What append asks of a slice of structs that came in. -/
theorem SlAt.cells {α : Type} {enc : α → List Value} {sz : Nat} {W : World} {v : Value} {xs : List α} (hsz : ∀ x, (enc x).length = sz) (hsz0 : 0 < sz) (h : SlAt enc sz W v xs) :
    ∃ A cap, v = .slice A xs.length cap ∧ (0 < xs.length → ∃ g off, A = some ⟨g, off, none⟩ ∧ ∀ j u, (cellsOf enc xs)[j]? = some u → W.cell? ⟨g, off + j, none⟩ = some u) := by
  obtain ⟨A, cap, rfl, _, _, hc⟩ := h
  refine ⟨A, cap, rfl, fun h0 => ?_⟩
  obtain ⟨g, off, rfl, _, hc⟩ := hc h0
  refine ⟨g, off, rfl, fun j u hu => ?_⟩
  have hj : j < xs.length * sz := by rw [← cellsOf_length hsz]; exact (List.getElem?_eq_some_iff.1 hu).1
  have hi : j / sz < xs.length := Nat.div_lt_of_lt_mul (by rw [Nat.mul_comm]; exact hj)
  have hm : j % sz < sz := Nat.mod_lt _ hsz0
  have hjj : j / sz * sz + j % sz = j := by rw [Nat.mul_comm]; exact Nat.div_add_mod j sz
  have h1 := hc _ hi _ hm
  have h2 := cellsOf_get hsz xs _ _ hi hm
  rw [hjj] at h2
  rw [← h2, hu, Nat.add_assoc, hjj] at h1
  exact h1
/-- A row of one's own, read as a slice. -/
theorem SlAt.of_row {α : Type} {enc : α → List Value} {sz B e : Nat} {W : World} {v : Value} {xs : List α} (hsz : ∀ x, (enc x).length = sz) (h : W.ownsRow B e sz v xs.length (cellsOf enc xs)) : SlAt enc sz W v xs := by
  obtain ⟨A, cap, rfl, h1, h2, h3⟩ := row_open h
  refine ⟨A, cap, rfl, h1, h2, fun h0 => ?_⟩
  obtain ⟨g, rfl, _, ⟨cur, hc⟩, _, hcell⟩ := h3 h0
  refine ⟨g, 0, rfl, lt_of_block hc, fun i hi j hj => ?_⟩
  have hij : i * sz + j < xs.length * sz := by
    have : (i + 1) * sz ≤ xs.length * sz := Nat.mul_le_mul_right _ hi
    rw [Nat.add_mul] at this
    omega
  rw [Nat.zero_add, hcell _ hij, cellsOf_get hsz xs i j hi hj]
theorem SlAt.frm {α : Type} {enc : α → List Value} {sz : Nat} {W W' : World} {v : Value} {xs : List α} (hsz : ∀ x, (enc x).length = sz) (h : SlAt enc sz W v xs) (hf : Frm (fun _ => False) W W') : SlAt enc sz W' v xs := by
  obtain ⟨A, cap, rfl, h1, h2, h3⟩ := h
  refine ⟨A, cap, rfl, h1, h2, fun h0 => ?_⟩
  obtain ⟨g, off, rfl, hg, hc⟩ := h3 h0
  refine ⟨g, off, rfl, Nat.lt_of_lt_of_le hg hf.size, fun i hi j hj => ?_⟩
  have := hc i hi j hj
  rw [List.getElem?_eq_getElem (by rw [hsz]; exact hj)] at this ⊢
  exact hf.cell this (fun h => h)

/-- A byte as a cell. -/
def encB (b : UInt8) : Value := .int .u8 b.toNat
theorem oneB (bs : List UInt8) : ∀ u ∈ bs.map encB, u.oneCell' = true := fun u hu => by
  obtain ⟨b, _, rfl⟩ := List.mem_map.1 hu
  rfl
/-- The bytes of a slice that came in, as append asks for them. -/
def NewsOf (w : World) (A : Option Addr) (news : List Value) : Prop := ∃ g off, A = some ⟨g, off, none⟩ ∧ ∀ j u, news[j]? = some u → w.cell? ⟨g, off + j, none⟩ = some u
theorem NewsOf.frm {S : Nat → Prop} {w w' : World} {A : Option Addr} {news : List Value} (h : NewsOf w A news) (hF : Frm S w w') (hS : ∀ g o, A = some ⟨g, o, none⟩ → ¬ S g) : NewsOf w' A news := by
  obtain ⟨g, off, rfl, hc⟩ := h
  exact ⟨g, off, rfl, fun j u hj => hF.cell (hc j u hj) (hS g off rfl)⟩
theorem NewsOf.grow {w w' : World} {A : Option Addr} {news : List Value} (h : NewsOf w A news) (hF : Frm (fun _ => False) w w') : NewsOf w' A news := h.frm hF (fun _ _ _ h => h)
theorem BytesAt.open_ {w : World} {v : Value} {bs : List UInt8} (h : BytesAt w v bs) : ∃ A cap, v = .slice A bs.length cap ∧ bs.length ≤ cap ∧ cap ≤ maxLen ∧ (0 < bs.length → NewsOf w A (bs.map encB)) := by
  obtain ⟨A, cap, rfl, h1, h2, h3⟩ := h
  refine ⟨A, cap, rfl, h1, h2, fun h0 => ?_⟩
  obtain ⟨g, off, rfl, hc⟩ := h3 h0
  refine ⟨g, off, rfl, fun j u hj => ?_⟩
  have hj' : j < bs.length := by have := (List.getElem?_eq_some_iff.1 hj).1; simpa using this
  rw [hc j hj']
  rw [List.getElem?_map, List.getElem?_eq_getElem hj'] at hj
  simp only [Option.map_some, Option.some.injEq] at hj
  rw [← hj, encB]
  simp [hj']
theorem BytesAt.of_news {w : World} {A : Option Addr} {cap : Nat} {bs : List UInt8} (h1 : bs.length ≤ cap) (h2 : cap ≤ maxLen) (h : 0 < bs.length → NewsOf w A (bs.map encB)) : BytesAt w (.slice A bs.length cap) bs := by
  refine ⟨A, cap, rfl, h1, h2, fun h0 => ?_⟩
  obtain ⟨g, off, rfl, hc⟩ := h h0
  refine ⟨g, off, rfl, fun i hi => hc i _ ?_⟩
  simp [hi, encB]
theorem BytesAt.of_row {w : World} {B e n : Nat} {v : Value} {bs : List UInt8} (h : w.ownsRow B e 1 v n (bs.map encB)) : BytesAt w v bs := by
  have hn : bs.length = n := by have := h.1; simpa using this
  subst hn
  obtain ⟨A, cap, rfl, h1, h2, h3⟩ := row_open h
  refine BytesAt.of_news h1 h2 fun h0 => ?_
  obtain ⟨g, rfl, _, _, _, hc⟩ := h3 h0
  refine ⟨g, 0, rfl, fun j u hj => ?_⟩
  have hj' : j < bs.length := by have := (List.getElem?_eq_some_iff.1 hj).1; simpa using this
  rw [Nat.zero_add, hc j (by omega)]; exact hj
theorem BytesAt.frm {S : Nat → Prop} {w w' : World} {v : Value} {bs : List UInt8} (h : BytesAt w v bs) (hF : Frm S w w') (hS : ∀ k, v.ownBlock = some k → ¬ S k) : BytesAt w' v bs := by
  obtain ⟨A, cap, rfl, h1, h2, h3⟩ := h.open_
  exact .of_news h1 h2 fun h0 => (h3 h0).frm hF (fun g o e => hS g (by rw [e]; rfl))
theorem BytesAt.grow {w w' : World} {v : Value} {bs : List UInt8} (h : BytesAt w v bs) (hF : Frm (fun _ => False) w w') : BytesAt w' v bs := h.frm hF (fun _ _ h => h)
theorem empty_row (w : World) (e size B : Nat) (hB : B ≤ w.heap.size) : (w.alloc (.cells #[] e)).ownsRow B e size (.slice (some ⟨w.heap.size, 0, none⟩) 0 0) 0 [] := row_new rfl (by simp) rfl (by decide) hB

end Go.Proofs.YtemjdmgfilbfaaaGreat
namespace Go.Proofs.YtemjdmgfilbfaaaGreat
open Go.RowKit

@[go_sem] theorem World_alloc_drewN (w : World) (n : Nat) (o : Obj) : (w.drewN n).alloc o = (w.alloc o).drewN n := rfl
@[go_sem] theorem World_setCell_drewN (w : World) (n : Nat) (a : Addr) (v : Value) : (w.drewN n).setCell a v = (w.setCell a v).drewN n := rfl

/-- What a call hands on. -/
def CallK (K : Act → World → Prop) (Q : Exit → Act → World → Prop) (a : Act) (d : Option Tmp) (e : Ending) (w : World) : Prop :=
  match e with
  | .returned v => K (a.put d v) w
  | .panicked chain => Q (.panic chain) a w
  | .outgrown => LetsOut Q
theorem CallK.ret {K : Act → World → Prop} {Q : Exit → Act → World → Prop} {a : Act} {d : Option Tmp} {v : Value} {w : World} (h : K (a.put d v) w) : CallK K Q a d (.returned v) w := h

theorem run_enter {P : Program} {f : FuncId} {fn : Func} {c : Code} (hf : P.funcs[f]? = some fn) (hname : (fn.name == "runtime.NumGoroutine") = false) (hb : fn.body = some c) (args : Array Value) (w : World) :
    (callFunc f args).run P w = .ok (.enter f args) w := by
  have h1 : fn.name ≠ "runtime.NumGoroutine" := by simpa using hname
  simp [callFunc, hf, h1, hb]

theorem step_call {P : Program} {ops : Array Oper} {o : Oper} {a : Act} {K : Act → World → Prop} {Q : Exit → Act → World → Prop} {X : Prop} {w : World} (f : FuncId) (hgd : o.guard = none) {xs : Array Operand} {ts : Array TypeId}
    (ho : o.op = .call { callee := .value (.func f), args := xs, argTypes := ts }) {fn : Func} {c : Code} (hf : P.funcs[f]? = some fn) (hname : (fn.name == "runtime.NumGoroutine") = false) (hb : fn.body = some c) {args : Array Value} (hargs' : (xs.toList.map a.eval).toArray = args)
    (h : Calls P f args w (CallK K Q a o.dst)) : if Region.wanted o (yielded ops a.tmps) = true then Oper.wp P o a w K Q else X := by
  rw [if_pos (by simp [Region.wanted, hgd])]
  have hargs : xs.map a.eval = args := by rw [← hargs']; apply Array.ext'; simp
  unfold Oper.wp execOp
  have hr := run_enter hf hname hb args w
  have he : a.eval (.func f) = .func (.func f) #[] #[] := rfl
  simp only [ho, resolve, invoke, he, Sem.run_bind, Sem.run_pure, Result.andThen_ok, hargs, List.map_toArray]
  simp only [Deferred.ofValue, Sem.run_pure, Result.andThen_ok, Array.append_empty, Array.empty_append, hr]
  simp only [Oper.upon]
  refine h.mono fun e w' hk => ?_
  cases e <;> exact hk

/-- 'append([]T{}, src...)'. -/
theorem step_clone {P : Program} {ops : Array Oper} {o : Oper} {a : Act} {K : Act → World → Prop} {Q : Exit → Act → World → Prop} {X : Prop} {w : World} {t e : TypeId} {size bytes B : Nat} (hgd : o.guard = none) (E : El P t e size bytes) (s x : Operand)
    (ho : o.op = .call { callee := .builtin .append, args := #[s, x], argTypes := #[t, t] }) {v : Value} {m c : Nat} {A : Option Addr} {news : List Value} (hs : a.eval s = v) (hx : a.eval x = .slice A m c)
    (hown : w.ownsRow B e size v 0 []) (hl : news.length = m * size) (hnews : 0 < m → NewsOf w A news) (h1 : ∀ u ∈ news, u.oneCell' = true)
    (h63 : m ≤ maxLen) (hbytes : m * bytes ≤ 140737488355328) (hbase : B ≤ w.heap.size)
    (h : ∀ A' cap w', w'.ownsRow B e size (.slice A' m cap) m news → Frm (fun k => v.ownBlock = some k) w w' → K (a.put o.dst (.slice A' m cap)) w') : if Region.wanted o (yielded ops a.tmps) = true then Oper.wp P o a w K Q else X :=
  step_app_src hgd E s x ho hs hx hown hl hnews h1 (by omega) (by rw [Nat.zero_add]; exact hbytes) hbase fun A' cap w' h2 h3 => by
    rw [Nat.zero_add, List.nil_append] at h2
    rw [Nat.zero_add]
    exact h A' cap w' h2 h3
theorem wpl_clone {P : Program} {ops : Array Oper} {rest : List Oper} {o : Oper} {a : Act} {Q : Exit → Act → World → Prop} {w : World} {t e : TypeId} {size bytes B : Nat} (hgd : o.guard = none) (E : El P t e size bytes) (s x : Operand)
    (ho : o.op = .call { callee := .builtin .append, args := #[s, x], argTypes := #[t, t] }) {v : Value} {m c : Nat} {A : Option Addr} {news : List Value} (hs : a.eval s = v) (hx : a.eval x = .slice A m c)
    (hown : w.ownsRow B e size v 0 []) (hl : news.length = m * size) (hnews : 0 < m → NewsOf w A news) (h1 : ∀ u ∈ news, u.oneCell' = true)
    (h63 : m ≤ maxLen) (hbytes : m * bytes ≤ 140737488355328) (hbase : B ≤ w.heap.size)
    (h : ∀ A' cap w', w'.ownsRow B e size (.slice A' m cap) m news → Frm (fun k => v.ownBlock = some k) w w' → wpList P ops Q rest (a.put o.dst (.slice A' m cap)) w') : wpList P ops Q (o :: rest) a w :=
  wpl_app_src hgd E s x ho hs hx hown hl hnews h1 (by omega) (by rw [Nat.zero_add]; exact hbytes) hbase fun A' cap w' h2 h3 => by
    rw [Nat.zero_add, List.nil_append] at h2
    rw [Nat.zero_add]
    exact h A' cap w' h2 h3

end Go.Proofs.YtemjdmgfilbfaaaGreat
namespace Go.Proofs.YtemjdmgfilbfaaaGreat
open Go.RowKit
set_option linter.unusedVariables false

theorem bytes_cell {w : World} {v : Value} {bs : List UInt8} (h : BytesAt w v bs) : ∃ A cap, v = .slice A bs.length cap ∧ bs.length ≤ cap ∧ cap ≤ maxLen ∧ (0 < bs.length → ∃ g off, A = some ⟨g, off, none⟩ ∧ ∀ i (hi : i < bs.length), w.cell? ⟨g, off + i, none⟩ = some (.int .u8 (bs[i].toNat : Int))) := by
  obtain ⟨A, cap, rfl, h1, h2, hc⟩ := h
  refine ⟨A, cap, rfl, h1, h2, fun h0 => ?_⟩
  obtain ⟨g, off, rfl, hc2⟩ := hc h0
  refine ⟨g, off, rfl, fun i hi => ?_⟩
  have := hc2 i hi
  rwa [List.getD_eq_getElem?_getD, List.getElem?_eq_getElem hi] at this
theorem el_u8 : El Tryz.prog 24 5 1 1 := El.of Tryz.underlying24 (z := .int .u8 0) (by kernel_rfl) rfl (by decide)
/-- Bytes of one's own. -/
def Own8 (B : Nat) (w : World) (v : Value) (bs : List UInt8) : Prop := w.ownsRow B 5 1 v bs.length (bs.map encB)
theorem BytesAt.sub {w : World} {g off cap : Nat} {bs : List UInt8} (h : BytesAt w (.slice (some ⟨g, off, none⟩) bs.length cap) bs) (k : Nat) (hk : k ≤ bs.length) : BytesAt w (.slice (some ⟨g, off + k, none⟩) (bs.length - k) (cap - k)) (bs.drop k) := by
  obtain ⟨A, cap2, e, h1, h2, hc⟩ := h
  simp only [Value.slice.injEq] at e
  obtain ⟨rfl, _, rfl⟩ := e
  refine ⟨_, _, by rw [List.length_drop], by rw [List.length_drop]; omega, by omega, fun h0 => ⟨g, off + k, rfl, fun i hi => ?_⟩⟩
  rw [List.length_drop] at hi
  obtain ⟨g2, off2, e2, hc2⟩ := hc (by omega)
  simp only [Option.some.injEq, Addr.mk.injEq] at e2
  obtain ⟨rfl, rfl, _⟩ := e2
  have := hc2 (k + i) (by omega)
  rw [Nat.add_assoc, this]
  simp [List.getD_eq_getElem?_getD, List.getElem?_drop]
theorem BytesAt.pre {w : World} {g off cap N : Nat} {bs : List UInt8} (hN : bs.length = N) (h : BytesAt w (.slice (some ⟨g, off, none⟩) N cap) bs) (k : Nat) (hk : k ≤ bs.length) : BytesAt w (.slice (some ⟨g, off, none⟩) k cap) (bs.take k) := by
  obtain ⟨A, cap2, e, h1, h2, hc⟩ := h
  simp only [Value.slice.injEq] at e
  obtain ⟨rfl, _, rfl⟩ := e
  have hl : (bs.take k).length = k := by simp; omega
  refine ⟨some ⟨g, off, none⟩, cap, by rw [hl], by rw [hl]; omega, h2, fun h0 => ⟨g, off, rfl, fun i hi => ?_⟩⟩
  rw [hl] at hi
  obtain ⟨g2, off2, e2, hc2⟩ := hc (by omega)
  simp only [Option.some.injEq, Addr.mk.injEq] at e2
  obtain ⟨rfl, rfl, _⟩ := e2
  have := hc2 i (by omega)
  rw [this]
  simp [List.getD_eq_getElem?_getD, hi]
theorem BytesAt.from {w : World} {g off cap N : Nat} {bs : List UInt8} (hN : bs.length = N) (h : BytesAt w (.slice (some ⟨g, off, none⟩) N cap) bs) (k : Nat) (hk : k ≤ bs.length) : BytesAt w (.slice (some ⟨g, if cap = k then off else off + k, none⟩) (N - k) (cap - k)) (bs.drop k) := by
  subst hN
  by_cases e : cap = k
  · rw [if_pos e]
    have hd : bs.drop k = [] := by
      obtain ⟨A, cap2, e2, h1, h2, hc⟩ := h
      simp only [Value.slice.injEq] at e2
      exact List.drop_eq_nil_of_le (by omega)
    have hl : bs.length - k = 0 := by have := congrArg List.length hd; simpa using this
    rw [hd, hl, e]
    exact ⟨some ⟨g, off, none⟩, 0, by simp, Nat.le_refl _, by unfold maxLen; omega, fun h => absurd h (by simp)⟩
  · rw [if_neg e]
    exact h.sub k hk
theorem size_u8 (w : World) : (Go.sizeOf 5).run Tryz.prog w = .ok 1 w := by
  have h : (Tryz.prog.info? 5).map (·.size) = some 1 := by kernel_rfl
  obtain ⟨i, hi, h1⟩ := Option.map_eq_some_iff.1 h
  simp [Go.sizeOf, typeInfo, hi, h1]
theorem slice_to (W : World) (g o N c k : Nat) (h : k ≤ c) : (Instr.slice 24 (.slice (some ⟨g, o, none⟩) N c) none (some (.int .u64 (k : Int))) none).run Tryz.prog W = .ok (.slice (some ⟨g, o, none⟩) k c) W := by
  have ht : Tryz.prog.underlying 24 = some (.slice (Tryz.prog.elem 24)) := by kernel_rfl
  have he : Tryz.prog.elem 24 = 5 := by kernel_rfl
  rw [run_slice_h W 24 _ _ _ ht .u64 _ (by omega) (by omega), he, size_u8]
  simp [Result.andThen, sliced, Addr.add]
theorem slice_from (W : World) (g o N c k : Nat) (h : k ≤ N) (hc : N ≤ c) : (Instr.slice 24 (.slice (some ⟨g, o, none⟩) N c) (some (.int .u64 (k : Int))) none none).run Tryz.prog W = .ok (.slice (some ⟨g, if c = k then o else o + k, none⟩) (N - k) (c - k)) W := by
  have ht : Tryz.prog.underlying 24 = some (.slice (Tryz.prog.elem 24)) := by kernel_rfl
  have he : Tryz.prog.elem 24 = 5 := by kernel_rfl
  rw [run_slice_l W 24 _ _ _ ht .u64 _ (by omega) (by omega), he, size_u8]
  by_cases e : c = k
  · simp [Result.andThen, sliced, Addr.add, e]
  · by_cases e0 : k = 0
    · simp [Result.andThen, sliced, Addr.add, e, e0]
    · simp [Result.andThen, sliced, Addr.add, e, e0]
/-- An item in memory: its place, its slice's value, its bytes. -/
abbrev Itm := Int × Int × Value × List UInt8
def encIt (x : Itm) : List Value := [.int .u16 x.1, .int .u8 x.2.1, x.2.2.1]
theorem encIt_len (x : Itm) : (encIt x).length = 3 := rfl
def bare (x : Itm) : Int × Int × List UInt8 := (x.1, x.2.1, x.2.2.2)
/-- Items, wherever they lie. -/
def ItemsAt (w : World) (v : Value) (xs : List Itm) : Prop := SlAt encIt 3 w v xs ∧ ∀ x ∈ xs, BytesAt w x.2.2.1 x.2.2.2
theorem BytesAt.drewN {w : World} {v : Value} {bs : List UInt8} (h : BytesAt w v bs) (n : Nat) : BytesAt (w.drewN n) v bs := h.grow (Frm.drewN (Frm.refl _ _) n)
/-- An item: its place, its bytes. -/
abbrev It := Int × Int × List UInt8
/-- A number in so many bytes, lowest first. -/
def leOf (n : Int) : Nat → List UInt8
  | 0 => []
  | k + 1 => UInt8.ofNat (n % 256).toNat :: leOf (n / 256) k
def encIt8 (x : It) : List UInt8 := leOf x.1 2 ++ [UInt8.ofNat x.2.1.toNat] ++ leOf x.2.2.length 4 ++ x.2.2
def encOf (l : List It) : List UInt8 := leOf l.length 4 ++ l.flatMap encIt8
theorem el_Item : El Tryz.prog 46 63 3 32 := El.of Tryz.underlying46 (z := .agg #[.int .u16 0, .int .u8 0, .slice none 0 0]) (by kernel_rfl) rfl (by decide)
theorem cellsOf_snoc {α : Type} {enc : α → List Value} (xs : List α) (x : α) : cellsOf enc (xs ++ [x]) = cellsOf enc xs ++ enc x := by simp [cellsOf]
/-- Items of one's own. -/
def ItemsRow (B : Nat) (w : World) (v : Value) (xs : List Itm) : Prop := w.ownsRow B 63 3 v xs.length (cellsOf encIt xs) ∧ ∀ x ∈ xs, Own8 B w x.2.2.1 x.2.2.2
theorem ItemsRow.at_ {B : Nat} {w : World} {v : Value} {xs : List Itm} (h : ItemsRow B w v xs) : ItemsAt w v xs := ⟨SlAt.of_row encIt_len h.1, fun x hx => BytesAt.of_row (h.2 x hx)⟩
theorem ItemsRow.grow {B : Nat} {w w' : World} {v : Value} {xs : List Itm} (h : ItemsRow B w v xs) (hF : Frm (fun _ => False) w w') : ItemsRow B w' v xs :=
  ⟨hF.row h.1 (fun _ _ h => h), fun x hx => hF.row (h.2 x hx) (fun _ _ h => h)⟩
theorem ItemsRow.nil (B : Nat) (w : World) : ItemsRow B w (.slice none 0 0) [] := ⟨World.ownsRow_nil _ _ _ _, fun x hx => by cases hx⟩
theorem ItemsRow.base {B C : Nat} {w : World} {v : Value} {xs : List Itm} (h : ItemsRow B w v xs) (hb : C ≤ B) : ItemsRow C w v xs := ⟨row_base h.1 hb, fun x hx => row_base (h.2 x hx) hb⟩
/-- One item more. -/
theorem ItemsRow.push {B n : Nat} {w w' : World} {v v' : Value} {xs : List Itm} (h : ItemsRow B w v xs) (x : Itm) (hx : Own8 B w x.2.2.1 x.2.2.2) (hF : Frm (fun k => v.ownBlock = some k) w w') (hn : n = xs.length)
    (hr : w'.ownsRow B 63 3 v' (n + 1) (cellsOf encIt xs ++ encIt x)) : ItemsRow B w' v' (xs ++ [x]) := by
  subst hn
  have hk : ∀ y : Itm, Own8 B w y.2.2.1 y.2.2.2 → Own8 B w' y.2.2.1 y.2.2.2 := fun y hy => hF.row hy fun k hk hs => by
    obtain ⟨_, c1, h1⟩ := row_block hy hk
    obtain ⟨_, c2, h2⟩ := row_block h.1 hs
    exact block_ne h1 h2 (by decide) rfl
  refine ⟨by rw [cellsOf_snoc, List.length_append]; exact hr, fun y hy => ?_⟩
  rcases List.mem_append.1 hy with hy | hy
  · exact hk y (h.2 y hy)
  · obtain rfl : y = x := by simpa using hy
    exact hk y hx
theorem ItemsAt.open_ {w : World} {v : Value} {xs : List Itm} (h : ItemsAt w v xs) : ∃ A cap, v = .slice A xs.length cap ∧ xs.length ≤ maxLen ∧ ∀ k (hk : k < xs.length), ∃ g off Ab cb, A = some ⟨g, off, none⟩ ∧ xs[k].2.2.1 = .slice Ab xs[k].2.2.2.length cb ∧ xs[k].2.2.2.length ≤ maxLen ∧
    w.cell? ⟨g, off + k * 3, none⟩ = some (.int .u16 xs[k].1) ∧ w.cell? ⟨g, off + k * 3 + 1, none⟩ = some (.int .u8 xs[k].2.1) ∧ w.cell? ⟨g, off + k * 3 + 2, none⟩ = some (.slice Ab xs[k].2.2.2.length cb) := by
  obtain ⟨⟨A, cap, rfl, h1, h2, hA⟩, hb⟩ := h
  refine ⟨A, cap, rfl, Nat.le_trans h1 h2, fun k hk => ?_⟩
  obtain ⟨g, off, rfl, _, hc⟩ := hA (by omega)
  have hbk := hb _ (List.getElem_mem hk)
  obtain ⟨Ab, cb, hv, h3, h4, _⟩ := bytes_cell hbk
  refine ⟨g, off, Ab, cb, rfl, hv, Nat.le_trans h3 h4, hc k hk 0 (by decide), hc k hk 1 (by decide), ?_⟩
  rw [hc k hk 2 (by decide), ← hv]
  rfl
theorem ItemsAt.frm {w w' : World} {v : Value} {xs : List Itm} (h : ItemsAt w v xs) (hF : Frm (fun _ => False) w w') : ItemsAt w' v xs := ⟨h.1.frm encIt_len hF, fun x hx => (h.2 x hx).grow hF⟩
theorem leOf_length (n : Int) (k : Nat) : (leOf n k).length = k := by
  induction k generalizing n with
  | zero => rfl
  | succ k ih => simp [leOf, ih]
theorem encB_mod (n : Int) : encB (UInt8.ofNat (n % 256).toNat) = .int .u8 (n % 256) := by
  unfold encB
  have : (n % 256).toNat < 256 := by omega
  rw [UInt8.toNat_ofNat', Nat.mod_eq_of_lt this, Int.toNat_of_nonneg (by omega)]
/-- The number of bytes, lowest first. -/
def numOf : List UInt8 → Int
  | [] => 0
  | b :: r => (b.toNat : Int) + 256 * numOf r

theorem numOf_bound (bs : List UInt8) : 0 ≤ numOf bs ∧ numOf bs < 256 ^ bs.length := by
  induction bs with
  | nil => simp [numOf]
  | cons b r ih =>
    have := b.toNat_lt
    simp only [numOf, List.length_cons, Int.pow_succ]
    omega

end Go.Proofs.YtemjdmgfilbfaaaGreat
namespace Go.Proofs.YtemjdmgfilbfaaaGreat
open Go.RowKit

/-- A value: its type, its number (of 64 bits), its bytes. -/
structure Va where
  ty : Int
  n : Int
  b : List UInt8
deriving DecidableEq

def Va.zero : Va := ⟨0, 0, []⟩
def sizeT (t : Int) : Int := if t = 1 ∨ t = 2 ∨ t = 5 then 1 else if t = 3 ∨ t = 6 then 2 else if t = 4 ∨ t = 7 then 4 else if t = 21 ∨ t = 27 then 8 else 0
def sgnT (t : Int) : Bool := t == 2 || t == 3 || t == 4 || t == 21
def isT (t : Int) : Bool := sizeT t != 0 || (t == 9 || t == 10 || t == 15)
def two64 : Int := 18446744073709551616
def capN (sz : Int) : Int := if sz = 1 then 256 else if sz = 2 then 65536 else if sz = 4 then 4294967296 else 18446744073709551616
def fitsN (sz : Int) (sg : Bool) (n : Int) : Bool := if sg = true then decide (2 * n < capN sz) || decide (2 * two64 - capN sz ≤ 2 * n) else decide (n < capN sz)
def badB (b : List UInt8) : Bool := b.any fun c => decide (c.toNat < 32) || decide (126 < c.toNat)
def checkV (v : Va) : Int :=
  if isT v.ty = false then 1
  else if sizeT v.ty ≠ 0 then (if fitsN (sizeT v.ty) (sgnT v.ty) v.n = false ∨ v.ty = 1 ∧ 1 < v.n then 1 else 0)
  else if 65536 < v.b.length then 2 else if v.ty = 9 ∧ badB v.b = true then 1 else 0
def plainV (v : Va) : Va := if sizeT v.ty ≠ 0 then ⟨v.ty, v.n, []⟩ else if isT v.ty = true then ⟨v.ty, 0, v.b⟩ else v
def encV (v : Va) : List UInt8 × Int := if checkV v ≠ 0 then ([], checkV v) else if sizeT v.ty ≠ 0 then (leOf v.n (sizeT v.ty).toNat, 0) else (v.b, 0)
/-- The number of so many bytes, as one of 64 bits. -/
def wideN (sz : Int) (sg : Bool) (m : Int) : Int := if sg = true ∧ capN sz ≤ 2 * m then m + (two64 - capN sz) else m
def rawV (t : Int) (bs : List UInt8) : Va := if sizeT t ≠ 0 then ⟨t, wideN (sizeT t) (sgnT t) (numOf bs), []⟩ else ⟨t, 0, bs⟩
def decV (t : Int) (bs : List UInt8) : Va × Int :=
  if isT t = false then (.zero, 1) else if (bs.length : Int) < sizeT t then (.zero, 3)
  else if sizeT t ≠ 0 ∧ sizeT t < bs.length ∨ 65536 < bs.length then (.zero, 2)
  else if checkV (rawV t bs) ≠ 0 then (.zero, 8) else (rawV t bs, 0)
def s64 (n : Int) : Int := if 9223372036854775808 ≤ n then n - two64 else n
def cmpI (a b : Int) : Int := if a < b then -1 else if b < a then 1 else 0
def cmpB (a b : List UInt8) : Int := Lib.compareBytes a b
def orderV (a b : Va) : Int × Int :=
  if checkV a ≠ 0 then (0, checkV a) else if checkV b ≠ 0 then (0, checkV b) else if a.ty ≠ b.ty then (0, 1)
  else if sizeT a.ty = 0 then (cmpB a.b b.b, 0) else if sgnT a.ty = true then (cmpI (s64 a.n) (s64 b.n), 0) else (cmpI a.n b.n, 0)

/-- A value that can lie in memory. -/
def Va.ok (v : Va) : Prop := 0 ≤ v.n ∧ v.n < two64 ∧ v.b.length ≤ 140737488351232

theorem sizeT_vals (t : Int) : sizeT t = 0 ∨ sizeT t = 1 ∨ sizeT t = 2 ∨ sizeT t = 4 ∨ sizeT t = 8 := by
  unfold sizeT
  repeat' split
  all_goals simp
theorem sgn_size {t : Int} (h : sgnT t = true) : sizeT t ≠ 0 := by
  unfold sgnT at h
  simp only [Bool.or_eq_true, beq_iff_eq] at h
  unfold sizeT
  rcases h with ((h | h) | h) | h <;> subst h <;> decide
theorem is_of_size {t : Int} (h : sizeT t ≠ 0) : isT t = true := by
  unfold isT
  simp [h]
/-- A type is one of these. -/
theorem ty_cases (t : Int) : t = 1 ∨ t = 2 ∨ t = 3 ∨ t = 4 ∨ t = 5 ∨ t = 6 ∨ t = 7 ∨ t = 9 ∨ t = 10 ∨ t = 15 ∨ t = 21 ∨ t = 27 ∨
    (t ≠ 1 ∧ t ≠ 2 ∧ t ≠ 3 ∧ t ≠ 4 ∧ t ≠ 5 ∧ t ≠ 6 ∧ t ≠ 7 ∧ t ≠ 9 ∧ t ≠ 10 ∧ t ≠ 15 ∧ t ≠ 21 ∧ t ≠ 27) := by omega
theorem no_type {t : Int} (h : t ≠ 1 ∧ t ≠ 2 ∧ t ≠ 3 ∧ t ≠ 4 ∧ t ≠ 5 ∧ t ≠ 6 ∧ t ≠ 7 ∧ t ≠ 9 ∧ t ≠ 10 ∧ t ≠ 15 ∧ t ≠ 21 ∧ t ≠ 27) : sizeT t = 0 ∧ sgnT t = false ∧ isT t = false := by
  have h1 : sizeT t = 0 := by
    unfold sizeT
    rw [if_neg (by omega), if_neg (by omega), if_neg (by omega), if_neg (by omega)]
  refine ⟨h1, ?_, ?_⟩
  · unfold sgnT; simp; omega
  · unfold isT; rw [h1]; simp; omega
end Go.Proofs.YtemjdmgfilbfaaaGreat
namespace Go.Proofs.YtemjdmgfilbfaaaGreat
open Go.RowKit

structure En where
  idx : Int
  sub : Int
  acc : Int
  mp : Bool
  lim : Bool
  mn : Va
  mx : Va
  df : Va
deriving DecidableEq

def En.zero : En := ⟨0, 0, 0, false, false, .zero, .zero, .zero⟩
def En.ok (x : En) : Prop := 0 ≤ x.idx ∧ x.idx ≤ 65535 ∧ 0 ≤ x.sub ∧ x.sub ≤ 255 ∧ x.mn.ok ∧ x.mx.ok ∧ x.df.ok
def plE (x : En) : Int := x.idx * 256 + x.sub
def numE (x : En) : Bool := decide (sizeT x.df.ty ≠ 0)
def codeHigh : Int := 101253169
def codeLow : Int := 101253170
def codeGeneral : Int := 134217728
def codeNoRead : Int := 100728833
def codeNoWrite : Int := 100728834
def codeNoObject : Int := 100794368
def codeLong : Int := 101122066
def codeShort : Int := 101122067
def codeNoSub : Int := 101253137
def codeBad : Int := 101253168

/-- The code with which a value is refused by limits; false: the limits can't be. -/
def withinE (x : En) (v : Va) : Int × Bool :=
  if (orderV v x.mn).2 ≠ 0 ∨ (orderV v x.mx).2 ≠ 0 then (0, false)
  else if 0 < (orderV v x.mx).1 then (codeHigh, true) else if (orderV v x.mn).1 < 0 then (codeLow, true) else (0, true)
/-- .. as the code tells it. -/
def withinC (x : En) (v : Va) : Int := if (withinE x v).2 = false then codeGeneral else (withinE x v).1
def entryE (x : En) : Int :=
  if checkV x.df ≠ 0 then checkV x.df
  else if x.acc < 0 ∨ 3 < x.acc ∨ (x.mp = true ∧ numE x = false) ∨ (x.lim = true ∧ ¬ (numE x = true ∧ withinE x x.df = (0, true))) then 1 else 0
def chkE : List Int → List En → Int
  | _, [] => 0
  | seen, x :: r => if entryE x ≠ 0 then entryE x else if plE x ∈ seen then 5 else chkE (seen ++ [plE x]) r
def checkE (l : List En) : Int := if 1024 < l.length then 2 else chkE [] l

/-- An entry and its value. -/
abbrev Im := En × Va
def plainE (x : En) : En := ⟨x.idx, x.sub, x.acc, x.mp, x.lim, x.mn, x.mx, plainV x.df⟩
def newI (x : En) : Im := (plainE x, plainV x.df)
/-- x, put into an ordered list ahead of the first that is not below it. -/
def insE (x : En) : List En → List En
  | [] => [x]
  | y :: r => if plE y < plE x then y :: insE x r else x :: y :: r
def sortE (l : List En) : List En := l.foldl (fun d x => insE x d) []
def newD (l : List En) : List Im := (sortE (l.map plainE)).map fun x => (x, x.df)

def isAt (i s : Int) (x : Im) : Bool := x.1.idx == i && x.1.sub == s
def findD (d : List Im) (i s : Int) : Option Nat := d.findIdx? (isAt i s)
def findC (d : List Im) (i s : Int) : Int := if (findD d i s).isSome then 0 else if d.any (fun x => x.1.idx == i) then codeNoSub else codeNoObject
def readD (d : List Im) (i s : Int) : List UInt8 × Int :=
  match findD d i s with
  | none => ([], findC d i s)
  | some k => match d[k]? with
    | none => ([], 0)
    | some x => if x.1.acc = 1 then ([], codeNoRead) else ((encV x.2).1, 0)
/-- What an entry would say of bytes: the code, and the value. -/
def takeE (x : En) (b : List UInt8) : Int × Va :=
  if x.acc ≠ 1 ∧ x.acc ≠ 2 then (codeNoWrite, .zero)
  else if (decV x.df.ty b).2 = 3 then (codeShort, (decV x.df.ty b).1)
  else if (decV x.df.ty b).2 = 2 then (codeLong, (decV x.df.ty b).1)
  else if (decV x.df.ty b).2 ≠ 0 then (codeBad, (decV x.df.ty b).1)
  else if x.lim = true then (withinC x (decV x.df.ty b).1, (decV x.df.ty b).1)
  else (0, (decV x.df.ty b).1)
def mayD (d : List Im) (i s : Int) (b : List UInt8) : Int :=
  match findD d i s with
  | none => findC d i s
  | some k => match d[k]? with
    | none => 0
    | some x => (takeE x.1 b).1
def writeD (d : List Im) (i s : Int) (b : List UInt8) : List Im :=
  match findD d i s with
  | none => d
  | some k => match d[k]? with
    | none => d
    | some x => if (takeE x.1 b).1 = 0 then d.set k (x.1, (takeE x.1 b).2) else d
def setC (x : Im) (v : Va) : Int := if x.1.acc = 3 ∨ v.ty ≠ x.2.ty then 1 else checkV v
def setD (d : List Im) (i s : Int) (v : Va) : List Im × Int :=
  match findD d i s with
  | none => (d, 4)
  | some k => match d[k]? with
    | none => (d, 4)
    | some x => if setC x v ≠ 0 then (d, setC x v) else (d.set k (x.1, plainV v), 0)
def resetD (d : List Im) : List Im := d.map fun x => (x.1, x.1.df)
def saveI (x : Im) : List UInt8 := if x.1.acc = 2 then leOf x.1.idx 2 ++ leOf x.1.sub 1 ++ leOf (encV x.2).1.length 4 ++ (encV x.2).1 else []
def saveD (d : List Im) : List UInt8 := d.flatMap saveI
end Go.Proofs.YtemjdmgfilbfaaaGreat
namespace Go.Proofs.YtemjdmgfilbfaaaGreat
open Go.RowKit
set_option linter.unusedVariables false

abbrev kindV (t : Int) : Value := .agg #[.int .i64 (sizeT t), .bool (sgnT t), .bool (isT t)]

set_option maxRecDepth 100000 in
set_option maxHeartbeats 1000000 in
theorem tyOf_any (t : Int) (w : World) : Calls Tryz.prog 77 #[.int .i64 t] w fun e w' => e = .returned (kindV t) ∧ Frm (fun _ => False) w w' := by
  rcases ty_cases t with rfl | rfl | rfl | rfl | rfl | rfl | rfl | rfl | rfl | rfl | rfl | rfl | h
  case inr.inr.inr.inr.inr.inr.inr.inr.inr.inr.inr.inr =>
    obtain ⟨e1, e2, e3⟩ := no_type h
    have E : Hid (kindV t = .agg #[.int .i64 0, .bool false, .bool false]) := by unfold Hid kindV; rw [e1, e2, e3]
    obtain ⟨h1, h2, h3, h4, h5, h6, h7, h8, h9, h10, h11, h12⟩ := h
    have b1 : (t == 1) = false := beq_eq_false_iff_ne.2 h1
    have b2 : (t == 2) = false := beq_eq_false_iff_ne.2 h2
    have b3 : (t == 3) = false := beq_eq_false_iff_ne.2 h3
    have b4 : (t == 4) = false := beq_eq_false_iff_ne.2 h4
    have b5 : (t == 5) = false := beq_eq_false_iff_ne.2 h5
    have b6 : (t == 6) = false := beq_eq_false_iff_ne.2 h6
    have b7 : (t == 7) = false := beq_eq_false_iff_ne.2 h7
    have b8 : (t == 9) = false := beq_eq_false_iff_ne.2 h8
    have b9 : (t == 10) = false := beq_eq_false_iff_ne.2 h9
    have b10 : (t == 15) = false := beq_eq_false_iff_ne.2 h10
    have b11 : (t == 21) = false := beq_eq_false_iff_ne.2 h11
    have b12 : (t == 27) = false := beq_eq_false_iff_ne.2 h12
    clear h1 h2 h3 h4 h5 h6 h7 h8 h9 h10 h11 h12 e1 e2 e3
    go_enter Tryz.func77, Tryz.ntmps77
    go_wp2_with fail
    refine bodyPost_ret (v := .agg #[.int .i64 0, .bool false, .bool false]) (by simp [results, Tryz.results77, go_sem]) rfl ⟨by rw [E.out], by (repeat' (first | (with_reducible exact Frm.refl _ _) | (with_reducible assumption) | (with_reducible refine Frm.alloc ?_ _) | (with_reducible refine Frm.drew ?_) | (with_reducible refine Frm.drewN ?_ _) | (with_reducible refine Frm.set1 ?_ _) | (with_reducible refine Frm.setCell ?_ ?_ _) | (exact fun h => absurd h (Nat.lt_irrefl _)) | (intro hlt; simp [World.size_alloc, One] at hlt ⊢; omega)))⟩
  all_goals
    go_enter Tryz.func77, Tryz.ntmps77
    go_wp2_with fail
    refine bodyPost_ret (v := kindV _) (by simp [results, Tryz.results77, go_sem, sizeT, sgnT, isT]) rfl ⟨rfl, by (repeat' (first | (with_reducible exact Frm.refl _ _) | (with_reducible assumption) | (with_reducible refine Frm.alloc ?_ _) | (with_reducible refine Frm.drew ?_) | (with_reducible refine Frm.drewN ?_ _) | (with_reducible refine Frm.set1 ?_ _) | (with_reducible refine Frm.setCell ?_ ?_ _) | (exact fun h => absurd h (Nat.lt_irrefl _)) | (intro hlt; simp [World.size_alloc, One] at hlt ⊢; omega)))⟩

theorem u64w (x : Int) : IntKind.u64.wrap x = x % 18446744073709551616 := by simp [IntKind.wrap, IntKind.bits, IntKind.signed]
theorem fits_eq {b c : Bool} (h : b = true ↔ c = true) : b = c := Bool.eq_iff_iff.2 h
theorem ret_bool {a b : Bool} (h : a = b) : Ending.returned (.bool a) = .returned (.bool b) := by rw [h]

set_option maxRecDepth 100000 in
set_option maxHeartbeats 1000000 in
theorem tyFits_any (t n : Int) (w : World) (h0 : 0 ≤ n) (h1 : n < two64) (hs : sizeT t ≠ 0) : Calls Tryz.prog 99 #[kindV t, .int .u64 n] w fun e w' => e = .returned (.bool (fitsN (sizeT t) (sgnT t) n)) ∧ Frm (fun _ => False) w w' := by
  have H1 := Lib.hid h1
  clear h1
  rcases ty_cases t with rfl | rfl | rfl | rfl | rfl | rfl | rfl | rfl | rfl | rfl | rfl | rfl | h
  case inr.inr.inr.inr.inr.inr.inr.inr.inr.inr.inr.inr => exact absurd (no_type h).1 hs
  case inr.inr.inr.inr.inr.inr.inr.inl => exact absurd rfl hs
  case inr.inr.inr.inr.inr.inr.inr.inr.inl => exact absurd rfl hs
  case inr.inr.inr.inr.inr.inr.inr.inr.inr.inl => exact absurd rfl hs
  all_goals
    unfold kindV
    simp only [sizeT, sgnT, isT]
    clear hs
    simp only [Int.reduceEq, or_true, true_or, or_false, false_or, if_true, if_false, Int.reduceBEq, Bool.or_true, Bool.or_false, Bool.true_or, Bool.false_or, Int.reduceBNe]
    go_enter Tryz.func99, Tryz.ntmps99
    go_wp2_with fail
    go_ret
    refine ⟨ret_bool (fits_eq ?_), by (repeat' (first | (with_reducible exact Frm.refl _ _) | (with_reducible assumption) | (with_reducible refine Frm.alloc ?_ _) | (with_reducible refine Frm.drew ?_) | (with_reducible refine Frm.drewN ?_ _) | (with_reducible refine Frm.set1 ?_ _) | (with_reducible refine Frm.setCell ?_ ?_ _) | (exact fun h => absurd h (Nat.lt_irrefl _)) | (intro hlt; simp [World.size_alloc, One] at hlt ⊢; omega)))⟩
    have h1 := H1.out
    unfold two64 at h1
    simp [fitsN, capN, two64, u64w, wrap64, beq_iff_eq]
    omega

def strB2 (b : List UInt8) : ByteArray := ⟨b.toArray⟩
def cellsV (v : Va) : List Value := [.int .i64 v.ty, .int .u64 v.n, .string (strB2 v.b)]
abbrev valV (v : Va) : Value := .agg #[.int .i64 v.ty, .int .u64 v.n, .string (strB2 v.b)]
theorem size_pos {t : Int} : decide (0 < sizeT t) = decide (sizeT t ≠ 0) := by
  rcases sizeT_vals t with h | h | h | h | h <;> rw [h] <;> decide
theorem ret_bool2 {a b c d : Value} (h : a = c) (k : b = d) : Ending.returned (.tuple #[a, b]) = .returned (.tuple #[c, d]) := by rw [h, k]

set_option maxRecDepth 100000 in
set_option maxHeartbeats 1000000 in
theorem tySize_any (t : Int) (w : World) : Calls Tryz.prog 63 #[.int .i64 t] w fun e w' => e = .returned (.tuple #[.int .i64 (sizeT t), .bool (decide (sizeT t ≠ 0))]) ∧ Frm (fun _ => False) w w' := by
  have H := Lib.hid (fun W => tyOf_any t W)
  have HS := Lib.hid (@size_pos t)
  unfold kindV at H
  generalize sizeT t = sz at *
  generalize sgnT t = sg at *
  generalize isT t = is at *
  go_enter Tryz.func63, Tryz.ntmps63
  go_wp2_with fail
  refine (H.out _).mono ?_
  rintro e w1 ⟨rfl, hF⟩
  have HF := Lib.hid (Frm.trans' (b := _) (by (repeat' (first | (with_reducible exact Frm.refl _ _) | (with_reducible assumption) | (with_reducible refine Frm.alloc ?_ _) | (with_reducible refine Frm.drew ?_) | (with_reducible refine Frm.drewN ?_ _) | (with_reducible refine Frm.set1 ?_ _) | (with_reducible refine Frm.setCell ?_ ?_ _) | (exact fun h => absurd h (Nat.lt_irrefl _)) | (intro hlt; simp [World.size_alloc, One] at hlt ⊢; omega)))) hF)
  clear hF
  go_wp2_with fail
  go_quiet (fail)
  go_wp2_with fail
  go_ret2
  exact ⟨ret_bool2 rfl (congrArg Value.bool HS.out), HF.out.trans' (by (repeat' (first | (with_reducible exact Frm.refl _ _) | (with_reducible assumption) | (with_reducible refine Frm.alloc ?_ _) | (with_reducible refine Frm.drew ?_) | (with_reducible refine Frm.drewN ?_ _) | (with_reducible refine Frm.set1 ?_ _) | (with_reducible refine Frm.setCell ?_ ?_ _) | (exact fun h => absurd h (Nat.lt_irrefl _)) | (intro hlt; simp [World.size_alloc, One] at hlt ⊢; omega))))⟩

theorem store3 {w : World} {g : Nat} {t : TypeId} {fz : Nat × Nat} {d0 d1 d2 c0 c1 c2 : Value} (h : w.heap[g]? = some (.cells #[d0, d1, d2] t fz)) : (((w.setCell ⟨g, 0, none⟩ c0).setCell ⟨g, 1, none⟩ c1).setCell ⟨g, 2, none⟩ c2).heap[g]? = some (.cells #[c0, c1, c2] t fz) :=
  heap_set_same (heap_set_same (heap_set_same h _) _) _
/-- One result, a value that lies in memory. -/
theorem ret_v1 {fn : Func} {p : Tmp} (h : fn.results = #[.cell p 57]) (tmps : Array Value) (w : World) (g : Nat) (x y z : Value)
    (hp : tmps.getD p undef = .pointer (some ⟨g, 0, none⟩)) (hg : w.heap[g]? = some (.cells #[x, y, z] 57 (0, 0))) :
    (results fn tmps).run Tryz.prog w = .ok (.agg #[x, y, z]) w := by
  have hp' : tmps[p]?.getD undef = .pointer (some ⟨g, 0, none⟩) := by simpa using hp
  simp [results, h, hp', asAddr, run_loadVar_row w g 57 57 #[x, y, z] (0, 0) _ hg Tryz.underlying57 rfl (by kernel_rfl)]
/-- Two results, the first a value that lies in memory. -/
theorem ret_v2 {fn : Func} {p u : Tmp} (h : fn.results = #[.cell p 57, .tmp u]) (tmps : Array Value) (w : World) (g : Nat) (x y z : Value)
    (hp : tmps.getD p undef = .pointer (some ⟨g, 0, none⟩)) (hg : w.heap[g]? = some (.cells #[x, y, z] 57 (0, 0))) :
    (results fn tmps).run Tryz.prog w = .ok (.tuple #[.agg #[x, y, z], tmps.getD u undef]) w := by
  have hp' : tmps[p]?.getD undef = .pointer (some ⟨g, 0, none⟩) := by simpa using hp
  simp [results, h, hp', asAddr, run_loadVar_row w g 57 57 #[x, y, z] (0, 0) _ hg Tryz.underlying57 rfl (by kernel_rfl)]

set_option maxRecDepth 100000 in
set_option maxHeartbeats 1000000 in
theorem tyPlain0_any (v : Va) (w : World) : Calls Tryz.prog 83 #[valV v] w fun e w' => e = .returned (valV (plainV v)) ∧ Frm (fun _ => False) w w' := by
  obtain ⟨t, n, b⟩ := v
  have H := Lib.hid (fun W => tyOf_any t W)
  have hp : plainV ⟨t, n, b⟩ = (if decide (0 < sizeT t) = true then ⟨t, n, []⟩ else if isT t = true then ⟨t, 0, b⟩ else ⟨t, n, b⟩) := by
    unfold plainV
    rw [size_pos]
    simp
  have HP := Lib.hid hp
  clear hp
  unfold kindV at H
  unfold valV
  simp only at *
  generalize plainV ⟨t, n, b⟩ = r at *
  generalize sizeT t = sz at *
  generalize sgnT t = sg at *
  generalize isT t = is at *
  go_enter Tryz.func83, Tryz.ntmps83
  go_wp2_with fail
  refine (H.out _).mono ?_
  rintro e w1 ⟨rfl, hF⟩
  have k1 := hF.heap (heap_alloc_old (heap_new w _)) (fun h => h)
  have k2 := hF.heap (heap_new_at (k := w.heap.size + 1) (by simp)) (fun h => h)
  have a0 : w1.cell? ⟨w.heap.size, 0, none⟩ = some (.int .i64 t) := cell_at k1
  have a1 : w1.cell? ⟨w.heap.size, 1, none⟩ = some (.int .u64 n) := cell_at k1
  have a2 : w1.cell? ⟨w.heap.size, 2, none⟩ = some (.string (strB2 b)) := cell_at k1
  have b0 : w1.cell? ⟨w.heap.size + 1, 0, none⟩ = some (.int .i64 0) := cell_at k2
  have b1 : w1.cell? ⟨w.heap.size + 1, 1, none⟩ = some (.int .u64 0) := cell_at k2
  have b2 : w1.cell? ⟨w.heap.size + 1, 2, none⟩ = some (.string ⟨#[]⟩) := cell_at k2
  have l1 := lt_of_block k1
  have l2 := lt_of_block k2
  have f1 := frees k1
  have f2 := frees k2
  have HF : Hid (Frm (fun _ => False) w w1) := Frm.trans' (b := _) (by (repeat' (first | (with_reducible exact Frm.refl _ _) | (with_reducible assumption) | (with_reducible refine Frm.alloc ?_ _) | (with_reducible refine Frm.drew ?_) | (with_reducible refine Frm.drewN ?_ _) | (with_reducible refine Frm.set1 ?_ _) | (with_reducible refine Frm.setCell ?_ ?_ _) | (exact fun h => absurd h (Nat.lt_irrefl _)) | (intro hlt; simp [World.size_alloc, One] at hlt ⊢; omega)))) hF
  have K1 := Lib.hid k1
  have K2 := Lib.hid k2
  clear hF k1 k2
  by_cases hz : 0 < sz
  · have E : Hid (r = ⟨t, n, []⟩) := by unfold Hid; rw [HP.out, if_pos (by simpa using hz)]
    clear HP
    go_wp2_with fail
    refine bodyPost_ret (ret_v1 Tryz.results83 _ _ _ _ _ _ rfl (heap_alloc_old (store3 (heap_set_other K2.out (by simp))))) rfl ⟨?_, ?_⟩
    · rw [E.out]; rfl
    · have hf : Frm (fun _ => False) w w1 := HF.out
      (repeat' (first | (with_reducible exact Frm.refl _ _) | (with_reducible assumption) | (with_reducible refine Frm.alloc ?_ _) | (with_reducible refine Frm.drew ?_) | (with_reducible refine Frm.drewN ?_ _) | (with_reducible refine Frm.set1 ?_ _) | (with_reducible refine Frm.setCell ?_ ?_ _) | (exact fun h => absurd h (Nat.lt_irrefl _)) | (intro hlt; simp [World.size_alloc, One] at hlt ⊢; omega)))
  · have hz' : sz ≤ 0 := by omega
    cases is with
    | true =>
      have E : Hid (r = ⟨t, 0, b⟩) := by unfold Hid; rw [HP.out, if_neg (by simpa using hz)]; rfl
      clear HP
      go_wp2_with fail
      refine bodyPost_ret (ret_v1 Tryz.results83 _ _ _ _ _ _ rfl (heap_alloc_old (store3 (heap_set_other K2.out (by simp))))) rfl ⟨?_, ?_⟩
      · rw [E.out]
      · have hf : Frm (fun _ => False) w w1 := HF.out
        (repeat' (first | (with_reducible exact Frm.refl _ _) | (with_reducible assumption) | (with_reducible refine Frm.alloc ?_ _) | (with_reducible refine Frm.drew ?_) | (with_reducible refine Frm.drewN ?_ _) | (with_reducible refine Frm.set1 ?_ _) | (with_reducible refine Frm.setCell ?_ ?_ _) | (exact fun h => absurd h (Nat.lt_irrefl _)) | (intro hlt; simp [World.size_alloc, One] at hlt ⊢; omega)))
    | false =>
      have E : Hid (r = ⟨t, n, b⟩) := by unfold Hid; rw [HP.out, if_neg (by simpa using hz)]; rfl
      clear HP
      go_wp2_with fail
      refine bodyPost_ret (ret_v1 Tryz.results83 _ _ _ _ _ _ rfl (heap_alloc_old (store3 K2.out))) rfl ⟨?_, ?_⟩
      · rw [E.out]
      · have hf : Frm (fun _ => False) w w1 := HF.out
        (repeat' (first | (with_reducible exact Frm.refl _ _) | (with_reducible assumption) | (with_reducible refine Frm.alloc ?_ _) | (with_reducible refine Frm.drew ?_) | (with_reducible refine Frm.drewN ?_ _) | (with_reducible refine Frm.set1 ?_ _) | (with_reducible refine Frm.setCell ?_ ?_ _) | (exact fun h => absurd h (Nat.lt_irrefl _)) | (intro hlt; simp [World.size_alloc, One] at hlt ⊢; omega)))

set_option maxHeartbeats 1000000 in
theorem tyPlain_any (v : Va) (w : World) : Calls Tryz.prog 54 #[valV v] w fun e w' => e = .returned (valV (plainV v)) ∧ Frm (fun _ => False) w w' := by
  have H := Lib.hid (fun W => tyPlain0_any v W)
  unfold valV at *
  generalize plainV v = r at *
  go_enter Tryz.func54, Tryz.ntmps54
  go_wp2_with fail
  refine (H.out _).mono ?_
  rintro e w1 ⟨rfl, hF⟩
  have k2 := hF.heap (heap_new_at (k := w.heap.size + 1) (by simp)) (fun h => h)
  have b0 : w1.cell? ⟨w.heap.size + 1, 0, none⟩ = some (.int .i64 0) := cell_at k2
  have b1 : w1.cell? ⟨w.heap.size + 1, 1, none⟩ = some (.int .u64 0) := cell_at k2
  have b2 : w1.cell? ⟨w.heap.size + 1, 2, none⟩ = some (.string ⟨#[]⟩) := cell_at k2
  have l2 := lt_of_block k2
  have f2 := frees k2
  have HF : Hid (Frm (fun _ => False) w w1) := Frm.trans' (b := _) (by (repeat' (first | (with_reducible exact Frm.refl _ _) | (with_reducible assumption) | (with_reducible refine Frm.alloc ?_ _) | (with_reducible refine Frm.drew ?_) | (with_reducible refine Frm.drewN ?_ _) | (with_reducible refine Frm.set1 ?_ _) | (with_reducible refine Frm.setCell ?_ ?_ _) | (exact fun h => absurd h (Nat.lt_irrefl _)) | (intro hlt; simp [World.size_alloc, One] at hlt ⊢; omega)))) hF
  have K2 := Lib.hid k2
  clear hF k2
  go_wp2_with fail
  refine bodyPost_ret (ret_v1 Tryz.results54 _ _ _ _ _ _ rfl (store3 K2.out)) rfl ⟨rfl, ?_⟩
  have hf : Frm (fun _ => False) w w1 := HF.out
  (repeat' (first | (with_reducible exact Frm.refl _ _) | (with_reducible assumption) | (with_reducible refine Frm.alloc ?_ _) | (with_reducible refine Frm.drew ?_) | (with_reducible refine Frm.drewN ?_ _) | (with_reducible refine Frm.set1 ?_ _) | (with_reducible refine Frm.setCell ?_ ?_ _) | (exact fun h => absurd h (Nat.lt_irrefl _)) | (intro hlt; simp [World.size_alloc, One] at hlt ⊢; omega)))
end Go.Proofs.YtemjdmgfilbfaaaGreat
