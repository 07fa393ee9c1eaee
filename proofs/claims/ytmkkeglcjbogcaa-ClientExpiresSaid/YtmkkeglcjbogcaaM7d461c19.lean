/-
  Small laws on worlds that every text of this seat uses: blocks, frames, byte rows. No Go function is named here. More small laws: slices of structs that came in; a slice of bytes copied. A call of a Go function at an operation of a region that draws its order. Bytes and items in memory: laws that every text of the items uses. No Go function is named here. The client as a function: its state, its frames, what each call does. No program in sight. The client in memory; its frames; how it ends.
-/
import Derived.WalkKit
import Derived.WalkSpells
import Derived.WalkLawsBesides
import Derived.ProofKit
import Derived.Deep.Draws
import Derived.Deep.AppendLies
import Derived.Deep.RegionHeld3
import Derived.Deep.QuietTactic
import Derived.BigQuiet
import Derived.Lib.Hide
import Derived.KernelRfl
import Derived.Test.YtmkkeglcjbogcaaProg
import Derived.Laws.Bits64b
import Derived.Laws.BitsAllLaws
set_option linter.unusedVariables false
set_option linter.unusedSimpArgs false
namespace Go.Proofs.Ytmkkeglcjbogcaa
open Go.RowKit

/-- Blocks of S aside (and new ones), w' is as w was. -/
structure Frm (S : Nat → Prop) (w w' : World) : Prop where
  os : w'.os = w.os
  tape : w'.tape = w.tape
  output : w'.output = w.output
  size : w.heap.size ≤ w'.heap.size
  block : ∀ k, k < w.heap.size → ¬ S k → w'.heap[k]? = w.heap[k]?

section
variable {S T U : Nat → Prop} {a b c w w' : World}

theorem Frm.refl (S : Nat → Prop) (w : World) : Frm S w w := ⟨rfl, rfl, rfl, Nat.le_refl _, fun _ _ _ => rfl⟩

theorem Frm.trans (h : Frm S a b) (k : Frm T b c) (hT : ∀ i, i < a.heap.size → T i → S i) : Frm S a c :=
  ⟨k.os.trans h.os, k.tape.trans h.tape, k.output.trans h.output, Nat.le_trans h.size k.size,
    fun i hi hn => (k.block i (Nat.lt_of_lt_of_le hi h.size) (fun ht => hn (hT i hi ht))).trans (h.block i hi hn)⟩

theorem Frm.trans' (h : Frm S a b) (k : Frm S b c) : Frm S a c := h.trans k fun _ _ h => h

theorem Frm.mono (h : Frm S a b) (hS : ∀ i, i < a.heap.size → S i → T i) : Frm T a b :=
  ⟨h.os, h.tape, h.output, h.size, fun i hi hn => h.block i hi fun hs => hn (hS i hi hs)⟩

theorem Frm.alloc (h : Frm S a w) (o : Obj) : Frm S a (w.alloc o) :=
  ⟨h.os, h.tape, h.output, by have := h.size; simp; omega, fun k hk hn => by
    rw [Below.heap_alloc _ _ _ (Nat.lt_of_lt_of_le hk h.size)]; exact h.block k hk hn⟩

theorem Frm.drew (h : Frm S a w) : Frm S a w.drew := ⟨h.os, h.tape, h.output, h.size, h.block⟩
theorem Frm.drewN (h : Frm S a w) (n : Nat) : Frm S a (w.drewN n) := ⟨h.os, h.tape, h.output, h.size, h.block⟩

theorem Frm.setCell (h : Frm S a w) {p : Addr} (hp : p.block < a.heap.size → S p.block) (u : Value) : Frm S a (w.setCell p u) :=
  ⟨h.os, h.tape, h.output, by have := h.size; simp; omega, fun k hk hn => by
    rw [Below.heap_setCell _ _ _ _ (fun e => hn (by rw [e]; exact hp (by rw [← e]; exact hk)))]; exact h.block k hk hn⟩

theorem Frm.grown (h : Frm S a w) {row : Option Nat} (hg : w.grownBy w' row) (hr : ∀ k, row = some k → k < a.heap.size → S k) : Frm S a w' :=
  ⟨hg.os.trans h.os, hg.tape.trans h.tape, hg.output.trans h.output, Nat.le_trans h.size hg.size, fun k hk hn => by
    rw [hg.block k (Nat.lt_of_lt_of_le hk h.size) (fun e => hn (hr k e.symm hk))]; exact h.block k hk hn⟩

theorem Frm.of_below {B : Nat} (h : Below B a b) : Frm (fun k => B ≤ k) a b :=
  ⟨h.os, h.tape, h.output, h.size, fun k _ hn => h.block k (by omega)⟩

theorem Frm.below {B : Nat} (h : Frm S a b) (hB : B ≤ a.heap.size) (hS : ∀ i, i < B → ¬ S i) : Below B a b :=
  ⟨h.os, h.tape, h.output, h.size, fun k hk => h.block k (by omega) (hS k hk)⟩

theorem Frm.heap (h : Frm S w w') {k : Nat} {o : Obj} (hk : w.heap[k]? = some o) (hn : ¬ S k) : w'.heap[k]? = some o := by
  rw [h.block k (lt_of_block hk) hn]; exact hk

theorem Frm.heapEq (h : Frm S w w') {k : Nat} (hk : k < w.heap.size) (hn : ¬ S k) : w'.heap[k]? = w.heap[k]? := h.block k hk hn

theorem Frm.cell (h : Frm S w w') {p : Addr} {v : Value} (hk : w.cell? p = some v) (hn : ¬ S p.block) : w'.cell? p = some v := by
  rw [World.cell?_of_block (w := w) (h.block _ (World.block_lt_of_cell? w p hk) hn)]; exact hk

theorem Frm.row (h : Frm S w w') {base e size n : Nat} {v : Value} {xs : List Value} (hr : w.ownsRow base e size v n xs) (hn : ∀ k, v.ownBlock = some k → ¬ S k) :
    w'.ownsRow base e size v n xs := by
  obtain ⟨h1, h2⟩ := hr
  refine ⟨h1, ?_⟩
  rcases h2 with h2 | ⟨g, cap, cur, rfl, hg, hh, r⟩
  · exact Or.inl h2
  · exact Or.inr ⟨g, cap, cur, rfl, hg, h.heap hh (hn g rfl), r⟩
end

theorem nodup_at {α : Type} {l : List α} (h : l.Nodup) {i k : Nat} (hi : i < l.length) (hk : k < l.length) (e : l[i] = l[k]) : i = k := by
  rcases Nat.lt_trichotomy i k with h1 | h1 | h1
  · exact absurd e (List.pairwise_iff_getElem.1 h i k hi hk h1)
  · exact h1
  · exact absurd e.symm (List.pairwise_iff_getElem.1 h k i hk hi h1)

/-- The one block b. -/
def One (b : Nat) : Nat → Prop := fun k => k = b
theorem Frm.set1 {b o : Nat} {a w : World} (h : Frm (One b) a w) (u : Value) : Frm (One b) a (w.setCell ⟨b, o, none⟩ u) := h.setCell (p := ⟨b, o, none⟩) (fun _ => rfl) u

theorem row_base {w : World} {base base' e size n : Nat} {v : Value} {xs : List Value} (hr : w.ownsRow base e size v n xs) (hb : base' ≤ base) : w.ownsRow base' e size v n xs := by
  obtain ⟨h1, h2⟩ := hr
  refine ⟨h1, ?_⟩
  rcases h2 with h2 | ⟨g, cap, cur, hv, hg, hh, r⟩
  · exact Or.inl h2
  · exact Or.inr ⟨g, cap, cur, hv, by omega, hh, r⟩

theorem row_new {w : World} {cs : Array Value} {e n size B g : Nat} {xs : List Value} (hg : g = w.heap.size) (h : cs.size = n * size) (hx : cs.toList = xs) (hn : n ≤ maxLen) (hB : B ≤ w.heap.size) :
    (w.alloc (.cells cs e)).ownsRow B e size (.slice (some ⟨g, 0, none⟩) n n) n xs := by
  subst hg
  refine ⟨by rw [← hx]; simpa using h, .inr ⟨w.heap.size, n, cs, rfl, hB, heap_alloc_new w _, Nat.le_refl _, hn, h, ?_⟩⟩
  rw [hx, List.take_of_length_le (by rw [← hx]; simp [h])]

/-- The type and block of a row that is not nil. -/
theorem row_block {w : World} {base e size n : Nat} {v : Value} {xs : List Value} (hr : w.ownsRow base e size v n xs) {k : Nat} (hk : v.ownBlock = some k) :
    base ≤ k ∧ ∃ cur, w.heap[k]? = some (.cells cur e (0, 0)) := by
  rcases hr.2 with ⟨rfl, _⟩ | ⟨g, cap, cur, rfl, hg, hh, r⟩
  · cases hk
  · cases hk; exact ⟨hg, cur, hh⟩

/-- What a row's value looks like, and its cells. -/
theorem row_open {w : World} {base e size n : Nat} {v : Value} {xs : List Value} (hr : w.ownsRow base e size v n xs) :
    ∃ (A : Option Addr) (cap : Nat), v = .slice A n cap ∧ n ≤ cap ∧ cap ≤ maxLen ∧
      (0 < n → ∃ g, A = some ⟨g, 0, none⟩ ∧ base ≤ g ∧ (∃ cur, w.heap[g]? = some (.cells cur e (0, 0))) ∧ (∀ j, w.frozen? ⟨g, j, none⟩ = false) ∧ ∀ j, j < n * size → w.cell? ⟨g, j, none⟩ = xs[j]?) := by
  have hr' := hr
  rcases hr.2 with ⟨rfl, rfl⟩ | ⟨g, cap, cur, rfl, hg, hh, hc, hm, hs, ht⟩
  · exact ⟨none, 0, rfl, Nat.le_refl _, Nat.zero_le _, fun h => absurd h (by omega)⟩
  · exact ⟨_, cap, rfl, hc, hm, fun _ => ⟨g, rfl, hg, ⟨cur, hh⟩, fun j => hr'.frozenAt j, fun j hj => hr'.cellAt j hj⟩⟩

theorem block_ne {w : World} {i j : Nat} {c d : Array Value} {s t : TypeId} {f g : Nat × Nat} (hi : w.heap[i]? = some (.cells c s f)) (hj : w.heap[j]? = some (.cells d t g)) (h : s ≠ t) : i ≠ j := by
  rintro rfl
  rw [hi] at hj
  cases hj
  exact h rfl

theorem heap_set_same {w : World} {b o : Nat} {cs : Array Value} {t : TypeId} {fz : Nat × Nat} (h : w.heap[b]? = some (.cells cs t fz)) (v : Value) :
    (w.setCell ⟨b, o, none⟩ v).heap[b]? = some (.cells (cs.setIfInBounds o v) t fz) := by
  simp [World.setCell, Array.getElem?_modify, h]

theorem heap_set_other {w : World} {k : Nat} {a : Addr} {v : Value} {x : Option Obj} (h : w.heap[k]? = x) (hk : k ≠ a.block) : (w.setCell a v).heap[k]? = x := by
  rw [Below.heap_setCell _ _ _ _ hk]; exact h

theorem heap_alloc_old {w : World} {k : Nat} {o x : Obj} (h : w.heap[k]? = some x) : (w.alloc o).heap[k]? = some x := by
  rw [Below.heap_alloc _ _ _ (lt_of_block h)]; exact h

theorem heap_new (w : World) (o : Obj) : (w.alloc o).heap[w.heap.size]? = some o := heap_alloc_new w o

theorem heap_drew' {w : World} {k : Nat} {x : Option Obj} (h : w.heap[k]? = x) : w.drew.heap[k]? = x := h
theorem heap_drewN' {w : World} {m k : Nat} {x : Option Obj} (h : w.heap[k]? = x) : (w.drewN m).heap[k]? = x := h
theorem heap_set_at {w : World} {b o : Nat} {cs ds : Array Value} {t : TypeId} {fz : Nat × Nat} {v : Value} (h : w.heap[b]? = some (.cells cs t fz)) (e : cs.setIfInBounds o v = ds) :
    (w.setCell ⟨b, o, none⟩ v).heap[b]? = some (.cells ds t fz) := by rw [← e]; exact heap_set_same h v
theorem heap_fin {w : World} {b : Nat} {cs ds : Array Value} {t : TypeId} {fz : Nat × Nat} (h : w.heap[b]? = some (.cells cs t fz)) (e : cs = ds) : w.heap[b]? = some (.cells ds t fz) := by rw [← e]; exact h
theorem cell_alloc_old {w : World} {a : Addr} {v : Value} {o : Obj} (h : w.cell? a = some v) : (w.alloc o).cell? a = some v := by
  rw [World.cell?_of_block (w := w) (Below.heap_alloc w o a.block (World.block_lt_of_cell? w a h))]; exact h
theorem cell_drew' {w : World} {a : Addr} {v : Value} (h : w.cell? a = some v) : w.drew.cell? a = some v := h
theorem cell_drewN' {w : World} {a : Addr} {n : Nat} {v : Value} (h : w.cell? a = some v) : (w.drewN n).cell? a = some v := h
theorem heap_new_at {w : World} {k : Nat} {o : Obj} (h : k = w.heap.size) : (w.alloc o).heap[k]? = some o := by rw [h]; exact heap_new w o

theorem cell_at {w : World} {b o : Nat} {cs : Array Value} {t : TypeId} {fz : Nat × Nat} (h : w.heap[b]? = some (.cells cs t fz)) : w.cell? ⟨b, o, none⟩ = cs[o]? := by
  simp [World.cell?, h]

theorem free_at {w : World} {b o : Nat} {cs : Array Value} {t : TypeId} (h : w.heap[b]? = some (.cells cs t (0, 0))) : w.frozen? ⟨b, o, none⟩ = false := by
  simp [World.frozen?, h]
theorem frees {w : World} {b : Nat} {cs : Array Value} {t : TypeId} (h : w.heap[b]? = some (.cells cs t (0, 0))) : ∀ o, w.frozen? ⟨b, o, none⟩ = false := fun _ => free_at h

/-- What append asks of its types: t a slice of e, 'size' cells and 'bytes' bytes each. -/
structure El (P : Program) (t e : TypeId) (size bytes : Nat) : Prop where
  ht : P.underlying t = some (.slice e)
  pos : 0 < size
  ex : ∃ i z, P.info? e = some i ∧ i.zero = some z ∧ i.size = size ∧ i.bytes = bytes ∧ z.cells.size = size

theorem El.of {P : Program} {t e : TypeId} {z : Value} {size bytes : Nat} (ht : P.underlying t = some (.slice e)) (h : (P.info? e).map (fun i => (i.zero, i.size, i.bytes)) = some (some z, size, bytes)) (hz : z.cells.size = size) (hp : 0 < size) :
    El P t e size bytes := by
  obtain ⟨i, hi, h0, h1, h2⟩ := info_parts h
  exact ⟨ht, hp, i, z, hi, h0, h1, h2, hz⟩

theorem add_zero' (b i : Nat) : (⟨b, 0, none⟩ : Addr).add i = ⟨b, i, none⟩ := by
  unfold Addr.add
  by_cases h : i = 0
  · simp [h]
  · simp [h]
theorem add_off (b o i : Nat) : (⟨b, o, none⟩ : Addr).add i = ⟨b, o + i, none⟩ := by
  unfold Addr.add
  by_cases h : i = 0
  · simp [h]
  · simp [h]

/-- Append of a slice that lies in a block just made. -/
theorem wpl_app_new {P : Program} {ops : Array Oper} {rest : List Oper} {o : Oper} {a : Act} {Q : Exit → Act → World → Prop} {W : World} {t e e2 : TypeId} {size bytes B : Nat} (hgd : o.guard = none) (E : El P t e size bytes) (s x : Operand)
    (ho : o.op = .call { callee := .builtin .append, args := #[s, x], argTypes := #[t, t] }) {v : Value} {n g m c : Nat} {xs : List Value} {arr : Array Value} (hs : a.eval s = v) (hx : a.eval x = .slice (some ⟨g, 0, none⟩) m c)
    (hg : g = W.heap.size) (hown : W.ownsRow B e size v n xs) (hl : arr.size = m * size) (h1 : ∀ u ∈ arr.toList, u.oneCell' = true)
    (h63 : n + m ≤ maxLen) (hbytes : (n + m) * bytes ≤ 140737488355328) (hbase : B ≤ W.heap.size)
    (h : ∀ v' w', w'.ownsRow B e size v' (n + m) (xs ++ arr.toList) → Frm (fun k => v.ownBlock = some k) W w' → wpList P ops Q rest (a.put o.dst v') w') : wpList P ops Q (o :: rest) a (W.alloc (.cells arr e2)) := by
  obtain ⟨i, z, hi, hz, h2, h3, h4⟩ := E.ex
  refine wpList_append_own _ hgd s x t ho B e i z size bytes E.ht hi hz h2 h3 h4 E.pos v n xs hs (hown.alloc _) ⟨g, 0, none⟩ m c arr.toList hx (by simpa using hl) ?_ h1 h63 hbytes (by simp; omega) ?_
  · intro j u hj
    subst hg
    rw [add_zero', World.cell?_alloc_new]
    simpa using hj
  · intro v' w' ho' hg' _
    exact h v' w' ho' (((Frm.refl _ _).alloc _).grown hg' (fun k hk _ => hk))

/-- Append of a slice that lies in a block known whole: at a plain region's operation, and at one that draws its order. -/
theorem wp_app {P : Program} {o : Oper} {a : Act} {K : Act → World → Prop} {Q : Exit → Act → World → Prop} {w : World} {t e e2 : TypeId} {size bytes B : Nat} (E : El P t e size bytes) (s x : Operand)
    (ho : o.op = .call { callee := .builtin .append, args := #[s, x], argTypes := #[t, t] }) {v : Value} {n gb m c : Nat} {xs : List Value} {arr : Array Value} {fr : Nat × Nat} (hs : a.eval s = v) (hx : a.eval x = .slice (some ⟨gb, 0, none⟩) m c)
    (hown : w.ownsRow B e size v n xs) (hnew : w.heap[gb]? = some (.cells arr e2 fr)) (hl : arr.size = m * size) (h1 : ∀ u ∈ arr.toList, u.oneCell' = true) (hm : 0 < m)
    (h63 : n + m ≤ maxLen) (hbytes : (n + m) * bytes ≤ 140737488355328) (hbase : B ≤ w.heap.size)
    (h : ∀ g cap w', w'.ownsRow B e size (.slice (some ⟨g, 0, none⟩) (n + m) cap) (n + m) (xs ++ arr.toList) → Frm (fun k => v.ownBlock = some k) w w' → (v.ownBlock = some g ∨ w.heap.size = g) → g < w'.heap.size →
      K (a.put o.dst (.slice (some ⟨g, 0, none⟩) (n + m) cap)) w') : o.wp P a w K Q := by
  obtain ⟨i, z, hi, hz, h2, h3, h4⟩ := E.ex
  refine wp_append_lies w s x t ho B e i z size bytes E.ht hi hz h2 h3 h4 E.pos v n xs hs hown ⟨gb, 0, none⟩ m c arr.toList hx (by simpa using hl) (World.news_of_block hnew) h1 hm h63 hbytes hbase w.heap.size rfl ?_
  intro g cap w' ho' hg' hat hlt
  exact h g cap w' ho' ((Frm.refl _ _).grown hg' (fun k hk _ => hk)) (hat.imp id Eq.symm) hlt

theorem wpl_app {P : Program} {ops : Array Oper} {rest : List Oper} {o : Oper} {a : Act} {Q : Exit → Act → World → Prop} {w : World} {t e e2 : TypeId} {size bytes B : Nat} (hgd : o.guard = none) (E : El P t e size bytes) (s x : Operand)
    (ho : o.op = .call { callee := .builtin .append, args := #[s, x], argTypes := #[t, t] }) {v : Value} {n gb m c : Nat} {xs : List Value} {arr : Array Value} {fr : Nat × Nat} (hs : a.eval s = v) (hx : a.eval x = .slice (some ⟨gb, 0, none⟩) m c)
    (hown : w.ownsRow B e size v n xs) (hnew : w.heap[gb]? = some (.cells arr e2 fr)) (hl : arr.size = m * size) (h1 : ∀ u ∈ arr.toList, u.oneCell' = true) (hm : 0 < m)
    (h63 : n + m ≤ maxLen) (hbytes : (n + m) * bytes ≤ 140737488355328) (hbase : B ≤ w.heap.size)
    (h : ∀ g cap w', w'.ownsRow B e size (.slice (some ⟨g, 0, none⟩) (n + m) cap) (n + m) (xs ++ arr.toList) → Frm (fun k => v.ownBlock = some k) w w' → (v.ownBlock = some g ∨ w.heap.size = g) → g < w'.heap.size →
      wpList P ops Q rest (a.put o.dst (.slice (some ⟨g, 0, none⟩) (n + m) cap)) w') : wpList P ops Q (o :: rest) a w :=
  wpList_plain hgd fun _ hK => wp_app E s x ho hs hx hown hnew hl h1 hm h63 hbytes hbase fun g cap w' h2 h3 h4 h5 => hK _ _ (h g cap w' h2 h3 h4 h5)

theorem step_app {P : Program} {ops : Array Oper} {o : Oper} {a : Act} {K : Act → World → Prop} {Q : Exit → Act → World → Prop} {X : Prop} {w : World} {t e e2 : TypeId} {size bytes B : Nat} (hgd : o.guard = none) (E : El P t e size bytes) (s x : Operand)
    (ho : o.op = .call { callee := .builtin .append, args := #[s, x], argTypes := #[t, t] }) {v : Value} {n gb m c : Nat} {xs : List Value} {arr : Array Value} {fr : Nat × Nat} (hs : a.eval s = v) (hx : a.eval x = .slice (some ⟨gb, 0, none⟩) m c)
    (hown : w.ownsRow B e size v n xs) (hnew : w.heap[gb]? = some (.cells arr e2 fr)) (hl : arr.size = m * size) (h1 : ∀ u ∈ arr.toList, u.oneCell' = true) (hm : 0 < m)
    (h63 : n + m ≤ maxLen) (hbytes : (n + m) * bytes ≤ 140737488355328) (hbase : B ≤ w.heap.size)
    (h : ∀ g cap w', w'.ownsRow B e size (.slice (some ⟨g, 0, none⟩) (n + m) cap) (n + m) (xs ++ arr.toList) → Frm (fun k => v.ownBlock = some k) w w' → (v.ownBlock = some g ∨ w.heap.size = g) → g < w'.heap.size →
      K (a.put o.dst (.slice (some ⟨g, 0, none⟩) (n + m) cap)) w') : if Region.wanted o (yielded ops a.tmps) = true then Oper.wp P o a w K Q else X := by
  rw [if_pos (by simp [Region.wanted, hgd])]
  exact wp_app E s x ho hs hx hown hnew hl h1 hm h63 hbytes hbase h

theorem ret_int {k : IntKind} {a b : Int} (h : a = b) : Ending.returned (.int k a) = .returned (.int k b) := by rw [h]

/-- A slice of bytes that reads as bs. -/
def BytesAt (w : World) (v : Value) (bs : List UInt8) : Prop :=
  ∃ A cap, v = .slice A bs.length cap ∧ bs.length ≤ cap ∧ cap ≤ maxLen ∧ (0 < bs.length → ∃ b off, A = some ⟨b, off, none⟩ ∧
    ∀ i, i < bs.length → w.cell? ⟨b, off + i, none⟩ = some (.int .u8 (bs.getD i 0).toNat))

end Go.Proofs.Ytmkkeglcjbogcaa
namespace Go.Proofs.Ytmkkeglcjbogcaa
open Go.RowKit

/-- A slice of elements of sz cells that reads as xs. -/
def SlAt {α : Type} (enc : α → List Value) (sz : Nat) (W : World) (v : Value) (xs : List α) : Prop :=
  ∃ A cap, v = .slice A xs.length cap ∧ xs.length ≤ cap ∧ cap ≤ maxLen ∧ (0 < xs.length → ∃ g off, A = some ⟨g, off, none⟩ ∧ g < W.heap.size ∧
    ∀ i (h : i < xs.length) j, j < sz → W.cell? ⟨g, off + i * sz + j, none⟩ = (enc xs[i])[j]?)

/-- Append of a slice without elements changes nothing. -/
theorem run_append_empty {P : Program} {w : World} {base : Nat} {t ty e : TypeId} {i : TypeInfo} {size : Nat} (ht : P.underlying t = some (.slice e)) (hi : P.info? e = some i) {v : Value} {n : Nat} {xs : List Value} (hown : w.ownsRow base e size v n xs) (A : Option Addr) (c : Nat) :
    (Builtin.append_ #[t, t] ty #[v, .slice A 0 c]).run P w = .ok v w := by
  cases A with
  | none =>
    rcases hown.2 with ⟨rfl, rfl⟩ | ⟨g, cap, cur, rfl, _, _, hnc, _⟩
    · simp [Builtin.append_, run_underlying ht, sizeOf, typeInfo, hi, Builtin.lenOf, Builtin.firstCells]
    · simp [Builtin.append_, run_underlying ht, sizeOf, typeInfo, hi, Builtin.lenOf, Builtin.firstCells, hnc, storeCells]
  | some a =>
    rcases hown.2 with ⟨rfl, rfl⟩ | ⟨g, cap, cur, rfl, _, _, hnc, _⟩
    · simp [Builtin.append_, run_underlying ht, sizeOf, typeInfo, hi, Builtin.lenOf, Builtin.firstCells, loadCells, loadCellsFrom]
    · simp [Builtin.append_, run_underlying ht, sizeOf, typeInfo, hi, Builtin.lenOf, Builtin.firstCells, hnc, storeCells, loadCells, loadCellsFrom]

/-- Append of a slice that lies anywhere, empty or not. -/
theorem wp_app_src {P : Program} {o : Oper} {a : Act} {K : Act → World → Prop} {Q : Exit → Act → World → Prop} {w : World} {t e : TypeId} {size bytes B : Nat} (E : El P t e size bytes) (s x : Operand)
    (ho : o.op = .call { callee := .builtin .append, args := #[s, x], argTypes := #[t, t] }) {v : Value} {n m c : Nat} {A : Option Addr} {xs news : List Value} (hs : a.eval s = v) (hx : a.eval x = .slice A m c)
    (hown : w.ownsRow B e size v n xs) (hl : news.length = m * size) (hnews : 0 < m → ∃ g off, A = some ⟨g, off, none⟩ ∧ ∀ j u, news[j]? = some u → w.cell? ⟨g, off + j, none⟩ = some u) (h1 : ∀ u ∈ news, u.oneCell' = true)
    (h63 : n + m ≤ maxLen) (hbytes : (n + m) * bytes ≤ 140737488355328) (hbase : B ≤ w.heap.size)
    (h : ∀ A' cap w', w'.ownsRow B e size (.slice A' (n + m) cap) (n + m) (xs ++ news) → Frm (fun k => v.ownBlock = some k) w w' → K (a.put o.dst (.slice A' (n + m) cap)) w') : o.wp P a w K Q := by
  obtain ⟨i, z, hi, hz, h2, h3, h4⟩ := E.ex
  by_cases hm : 0 < m
  · obtain ⟨g, off, rfl, hc⟩ := hnews hm
    refine wp_append_lies w s x t ho B e i z size bytes E.ht hi hz h2 h3 h4 E.pos v n xs hs hown ⟨g, off, none⟩ m c news hx hl (fun j u hj => by rw [add_off]; exact hc j u hj) h1 hm h63 hbytes hbase w.heap.size rfl ?_
    intro g cap w' ho' hg' hat hlt
    exact h _ cap w' ho' ((Frm.refl _ _).grown hg' (fun k hk _ => hk))
  · obtain rfl : m = 0 := by omega
    have hn : news = [] := List.eq_nil_of_length_eq_zero (by simpa using hl)
    subst hn
    obtain ⟨A', cap, rfl, _⟩ := row_open hown
    have hr := run_append_empty (P := P) (ty := o.type) E.ht hi hown A c
    unfold Oper.wp execOp
    simp only [ho, resolve, invoke, builtin, Sem.run_bind, Sem.run_pure, Result.andThen_ok, List.map_toArray, List.map_cons, List.map_nil, hs, hx, hr]
    exact h A' cap w (by simpa using hown) (Frm.refl _ _)

theorem wpl_app_src {P : Program} {ops : Array Oper} {rest : List Oper} {o : Oper} {a : Act} {Q : Exit → Act → World → Prop} {w : World} {t e : TypeId} {size bytes B : Nat} (hgd : o.guard = none) (E : El P t e size bytes) (s x : Operand)
    (ho : o.op = .call { callee := .builtin .append, args := #[s, x], argTypes := #[t, t] }) {v : Value} {n m c : Nat} {A : Option Addr} {xs news : List Value} (hs : a.eval s = v) (hx : a.eval x = .slice A m c)
    (hown : w.ownsRow B e size v n xs) (hl : news.length = m * size) (hnews : 0 < m → ∃ g off, A = some ⟨g, off, none⟩ ∧ ∀ j u, news[j]? = some u → w.cell? ⟨g, off + j, none⟩ = some u) (h1 : ∀ u ∈ news, u.oneCell' = true)
    (h63 : n + m ≤ maxLen) (hbytes : (n + m) * bytes ≤ 140737488355328) (hbase : B ≤ w.heap.size)
    (h : ∀ A' cap w', w'.ownsRow B e size (.slice A' (n + m) cap) (n + m) (xs ++ news) → Frm (fun k => v.ownBlock = some k) w w' → wpList P ops Q rest (a.put o.dst (.slice A' (n + m) cap)) w') : wpList P ops Q (o :: rest) a w :=
  wpList_plain hgd fun _ hK => wp_app_src E s x ho hs hx hown hl hnews h1 h63 hbytes hbase fun A' cap w' h2 h3 => hK _ _ (h A' cap w' h2 h3)

theorem step_app_src {P : Program} {ops : Array Oper} {o : Oper} {a : Act} {K : Act → World → Prop} {Q : Exit → Act → World → Prop} {X : Prop} {w : World} {t e : TypeId} {size bytes B : Nat} (hgd : o.guard = none) (E : El P t e size bytes) (s x : Operand)
    (ho : o.op = .call { callee := .builtin .append, args := #[s, x], argTypes := #[t, t] }) {v : Value} {n m c : Nat} {A : Option Addr} {xs news : List Value} (hs : a.eval s = v) (hx : a.eval x = .slice A m c)
    (hown : w.ownsRow B e size v n xs) (hl : news.length = m * size) (hnews : 0 < m → ∃ g off, A = some ⟨g, off, none⟩ ∧ ∀ j u, news[j]? = some u → w.cell? ⟨g, off + j, none⟩ = some u) (h1 : ∀ u ∈ news, u.oneCell' = true)
    (h63 : n + m ≤ maxLen) (hbytes : (n + m) * bytes ≤ 140737488355328) (hbase : B ≤ w.heap.size)
    (h : ∀ A' cap w', w'.ownsRow B e size (.slice A' (n + m) cap) (n + m) (xs ++ news) → Frm (fun k => v.ownBlock = some k) w w' → K (a.put o.dst (.slice A' (n + m) cap)) w') : if Region.wanted o (yielded ops a.tmps) = true then Oper.wp P o a w K Q else X := by
  rw [if_pos (by simp [Region.wanted, hgd])]
  exact wp_app_src E s x ho hs hx hown hl hnews h1 h63 hbytes hbase h

/-- The cells of a list of elements, one behind the other. -/
def cellsOf {α : Type} (enc : α → List Value) (xs : List α) : List Value := xs.flatMap enc
theorem cellsOf_length {α : Type} {enc : α → List Value} {sz : Nat} (hsz : ∀ x, (enc x).length = sz) (xs : List α) : (cellsOf enc xs).length = xs.length * sz := by
  induction xs with
  | nil => simp [cellsOf]
  | cons x r ih => simp only [cellsOf, List.flatMap_cons, List.length_append, hsz, List.length_cons] at ih ⊢; rw [ih, Nat.add_mul]; omega
theorem cellsOf_get {α : Type} {enc : α → List Value} {sz : Nat} (hsz : ∀ x, (enc x).length = sz) (xs : List α) (i j : Nat) (hi : i < xs.length) (hj : j < sz) : (cellsOf enc xs)[i * sz + j]? = (enc xs[i])[j]? := by
  induction xs generalizing i with
  | nil => simp at hi
  | cons x r ih =>
    simp only [cellsOf, List.flatMap_cons] at ih ⊢
    cases i with
    | zero => rw [List.getElem?_append_left (by rw [hsz]; omega)]; simp
    | succ i =>
      rw [List.getElem?_append_right (by rw [hsz, Nat.add_mul]; omega), hsz]
      have := ih i (by simpa using hi)
      rw [show (i + 1) * sz + j - sz = i * sz + j by rw [Nat.add_mul]; omega]
      simpa using this
/-- What append asks of a slice of structs that came in. -/
theorem SlAt.cells {α : Type} {enc : α → List Value} {sz : Nat} {W : World} {v : Value} {xs : List α} (hsz : ∀ x, (enc x).length = sz) (hsz0 : 0 < sz) (h : SlAt enc sz W v xs) :
    ∃ A cap, v = .slice A xs.length cap ∧ (0 < xs.length → ∃ g off, A = some ⟨g, off, none⟩ ∧ ∀ j u, (cellsOf enc xs)[j]? = some u → W.cell? ⟨g, off + j, none⟩ = some u) := by
  obtain ⟨A, cap, rfl, _, _, hc⟩ := h
  refine ⟨A, cap, rfl, fun h0 => ?_⟩
  obtain ⟨g, off, rfl, _, hc⟩ := hc h0
  refine ⟨g, off, rfl, fun j u hu => ?_⟩
  have hj : j < xs.length * sz := by rw [← cellsOf_length hsz]; exact (List.getElem?_eq_some_iff.1 hu).1
  have hi : j / sz < xs.length := Nat.div_lt_of_lt_mul (by rw [Nat.mul_comm]; exact hj)
  have hm : j % sz < sz := Nat.mod_lt _ hsz0
  have hjj : j / sz * sz + j % sz = j := by rw [Nat.mul_comm]; exact Nat.div_add_mod j sz
  have h1 := hc _ hi _ hm
  have h2 := cellsOf_get hsz xs _ _ hi hm
  rw [hjj] at h2
  rw [← h2, hu, Nat.add_assoc, hjj] at h1
  exact h1
/-- A row of one's own, read as a slice. -/
theorem SlAt.of_row {α : Type} {enc : α → List Value} {sz B e : Nat} {W : World} {v : Value} {xs : List α} (hsz : ∀ x, (enc x).length = sz) (h : W.ownsRow B e sz v xs.length (cellsOf enc xs)) : SlAt enc sz W v xs := by
  obtain ⟨A, cap, rfl, h1, h2, h3⟩ := row_open h
  refine ⟨A, cap, rfl, h1, h2, fun h0 => ?_⟩
  obtain ⟨g, rfl, _, ⟨cur, hc⟩, _, hcell⟩ := h3 h0
  refine ⟨g, 0, rfl, lt_of_block hc, fun i hi j hj => ?_⟩
  have hij : i * sz + j < xs.length * sz := by
    have : (i + 1) * sz ≤ xs.length * sz := Nat.mul_le_mul_right _ hi
    rw [Nat.add_mul] at this
    omega
  rw [Nat.zero_add, hcell _ hij, cellsOf_get hsz xs i j hi hj]
theorem SlAt.frm {α : Type} {enc : α → List Value} {sz : Nat} {W W' : World} {v : Value} {xs : List α} (hsz : ∀ x, (enc x).length = sz) (h : SlAt enc sz W v xs) (hf : Frm (fun _ => False) W W') : SlAt enc sz W' v xs := by
  obtain ⟨A, cap, rfl, h1, h2, h3⟩ := h
  refine ⟨A, cap, rfl, h1, h2, fun h0 => ?_⟩
  obtain ⟨g, off, rfl, hg, hc⟩ := h3 h0
  refine ⟨g, off, rfl, Nat.lt_of_lt_of_le hg hf.size, fun i hi j hj => ?_⟩
  have := hc i hi j hj
  rw [List.getElem?_eq_getElem (by rw [hsz]; exact hj)] at this ⊢
  exact hf.cell this (fun h => h)

/-- A byte as a cell. -/
def encB (b : UInt8) : Value := .int .u8 b.toNat
theorem oneB (bs : List UInt8) : ∀ u ∈ bs.map encB, u.oneCell' = true := fun u hu => by
  obtain ⟨b, _, rfl⟩ := List.mem_map.1 hu
  rfl
/-- The bytes of a slice that came in, as append asks for them. -/
def NewsOf (w : World) (A : Option Addr) (news : List Value) : Prop := ∃ g off, A = some ⟨g, off, none⟩ ∧ ∀ j u, news[j]? = some u → w.cell? ⟨g, off + j, none⟩ = some u
theorem NewsOf.frm {S : Nat → Prop} {w w' : World} {A : Option Addr} {news : List Value} (h : NewsOf w A news) (hF : Frm S w w') (hS : ∀ g o, A = some ⟨g, o, none⟩ → ¬ S g) : NewsOf w' A news := by
  obtain ⟨g, off, rfl, hc⟩ := h
  exact ⟨g, off, rfl, fun j u hj => hF.cell (hc j u hj) (hS g off rfl)⟩
theorem NewsOf.grow {w w' : World} {A : Option Addr} {news : List Value} (h : NewsOf w A news) (hF : Frm (fun _ => False) w w') : NewsOf w' A news := h.frm hF (fun _ _ _ h => h)
theorem BytesAt.open_ {w : World} {v : Value} {bs : List UInt8} (h : BytesAt w v bs) : ∃ A cap, v = .slice A bs.length cap ∧ bs.length ≤ cap ∧ cap ≤ maxLen ∧ (0 < bs.length → NewsOf w A (bs.map encB)) := by
  obtain ⟨A, cap, rfl, h1, h2, h3⟩ := h
  refine ⟨A, cap, rfl, h1, h2, fun h0 => ?_⟩
  obtain ⟨g, off, rfl, hc⟩ := h3 h0
  refine ⟨g, off, rfl, fun j u hj => ?_⟩
  have hj' : j < bs.length := by have := (List.getElem?_eq_some_iff.1 hj).1; simpa using this
  rw [hc j hj']
  rw [List.getElem?_map, List.getElem?_eq_getElem hj'] at hj
  simp only [Option.map_some, Option.some.injEq] at hj
  rw [← hj, encB]
  simp [hj']
theorem BytesAt.of_news {w : World} {A : Option Addr} {cap : Nat} {bs : List UInt8} (h1 : bs.length ≤ cap) (h2 : cap ≤ maxLen) (h : 0 < bs.length → NewsOf w A (bs.map encB)) : BytesAt w (.slice A bs.length cap) bs := by
  refine ⟨A, cap, rfl, h1, h2, fun h0 => ?_⟩
  obtain ⟨g, off, rfl, hc⟩ := h h0
  refine ⟨g, off, rfl, fun i hi => hc i _ ?_⟩
  simp [hi, encB]
theorem BytesAt.of_row {w : World} {B e n : Nat} {v : Value} {bs : List UInt8} (h : w.ownsRow B e 1 v n (bs.map encB)) : BytesAt w v bs := by
  have hn : bs.length = n := by have := h.1; simpa using this
  subst hn
  obtain ⟨A, cap, rfl, h1, h2, h3⟩ := row_open h
  refine BytesAt.of_news h1 h2 fun h0 => ?_
  obtain ⟨g, rfl, _, _, _, hc⟩ := h3 h0
  refine ⟨g, 0, rfl, fun j u hj => ?_⟩
  have hj' : j < bs.length := by have := (List.getElem?_eq_some_iff.1 hj).1; simpa using this
  rw [Nat.zero_add, hc j (by omega)]; exact hj
theorem BytesAt.frm {S : Nat → Prop} {w w' : World} {v : Value} {bs : List UInt8} (h : BytesAt w v bs) (hF : Frm S w w') (hS : ∀ k, v.ownBlock = some k → ¬ S k) : BytesAt w' v bs := by
  obtain ⟨A, cap, rfl, h1, h2, h3⟩ := h.open_
  exact .of_news h1 h2 fun h0 => (h3 h0).frm hF (fun g o e => hS g (by rw [e]; rfl))
theorem BytesAt.grow {w w' : World} {v : Value} {bs : List UInt8} (h : BytesAt w v bs) (hF : Frm (fun _ => False) w w') : BytesAt w' v bs := h.frm hF (fun _ _ h => h)
theorem empty_row (w : World) (e size B : Nat) (hB : B ≤ w.heap.size) : (w.alloc (.cells #[] e)).ownsRow B e size (.slice (some ⟨w.heap.size, 0, none⟩) 0 0) 0 [] := row_new rfl (by simp) rfl (by decide) hB

end Go.Proofs.Ytmkkeglcjbogcaa
namespace Go.Proofs.Ytmkkeglcjbogcaa
open Go.RowKit

@[go_sem] theorem World_alloc_drewN (w : World) (n : Nat) (o : Obj) : (w.drewN n).alloc o = (w.alloc o).drewN n := rfl
@[go_sem] theorem World_setCell_drewN (w : World) (n : Nat) (a : Addr) (v : Value) : (w.drewN n).setCell a v = (w.setCell a v).drewN n := rfl

/-- What a call hands on. -/
def CallK (K : Act → World → Prop) (Q : Exit → Act → World → Prop) (a : Act) (d : Option Tmp) (e : Ending) (w : World) : Prop :=
  match e with
  | .returned v => K (a.put d v) w
  | .panicked chain => Q (.panic chain) a w
  | .outgrown => LetsOut Q
theorem CallK.ret {K : Act → World → Prop} {Q : Exit → Act → World → Prop} {a : Act} {d : Option Tmp} {v : Value} {w : World} (h : K (a.put d v) w) : CallK K Q a d (.returned v) w := h

theorem run_enter {P : Program} {f : FuncId} {fn : Func} {c : Code} (hf : P.funcs[f]? = some fn) (hname : (fn.name == "runtime.NumGoroutine") = false) (hb : fn.body = some c) (args : Array Value) (w : World) :
    (callFunc f args).run P w = .ok (.enter f args) w := by
  have h1 : fn.name ≠ "runtime.NumGoroutine" := by simpa using hname
  simp [callFunc, hf, h1, hb]

theorem step_call {P : Program} {ops : Array Oper} {o : Oper} {a : Act} {K : Act → World → Prop} {Q : Exit → Act → World → Prop} {X : Prop} {w : World} (f : FuncId) (hgd : o.guard = none) {xs : Array Operand} {ts : Array TypeId}
    (ho : o.op = .call { callee := .value (.func f), args := xs, argTypes := ts }) {fn : Func} {c : Code} (hf : P.funcs[f]? = some fn) (hname : (fn.name == "runtime.NumGoroutine") = false) (hb : fn.body = some c) {args : Array Value} (hargs' : (xs.toList.map a.eval).toArray = args)
    (h : Calls P f args w (CallK K Q a o.dst)) : if Region.wanted o (yielded ops a.tmps) = true then Oper.wp P o a w K Q else X := by
  rw [if_pos (by simp [Region.wanted, hgd])]
  have hargs : xs.map a.eval = args := by rw [← hargs']; apply Array.ext'; simp
  unfold Oper.wp execOp
  have hr := run_enter hf hname hb args w
  have he : a.eval (.func f) = .func (.func f) #[] #[] := rfl
  simp only [ho, resolve, invoke, he, Sem.run_bind, Sem.run_pure, Result.andThen_ok, hargs, List.map_toArray]
  simp only [Deferred.ofValue, Sem.run_pure, Result.andThen_ok, Array.append_empty, Array.empty_append, hr]
  simp only [Oper.upon]
  refine h.mono fun e w' hk => ?_
  cases e <;> exact hk

/-- 'append([]T{}, src...)'. -/
theorem step_clone {P : Program} {ops : Array Oper} {o : Oper} {a : Act} {K : Act → World → Prop} {Q : Exit → Act → World → Prop} {X : Prop} {w : World} {t e : TypeId} {size bytes B : Nat} (hgd : o.guard = none) (E : El P t e size bytes) (s x : Operand)
    (ho : o.op = .call { callee := .builtin .append, args := #[s, x], argTypes := #[t, t] }) {v : Value} {m c : Nat} {A : Option Addr} {news : List Value} (hs : a.eval s = v) (hx : a.eval x = .slice A m c)
    (hown : w.ownsRow B e size v 0 []) (hl : news.length = m * size) (hnews : 0 < m → NewsOf w A news) (h1 : ∀ u ∈ news, u.oneCell' = true)
    (h63 : m ≤ maxLen) (hbytes : m * bytes ≤ 140737488355328) (hbase : B ≤ w.heap.size)
    (h : ∀ A' cap w', w'.ownsRow B e size (.slice A' m cap) m news → Frm (fun k => v.ownBlock = some k) w w' → K (a.put o.dst (.slice A' m cap)) w') : if Region.wanted o (yielded ops a.tmps) = true then Oper.wp P o a w K Q else X :=
  step_app_src hgd E s x ho hs hx hown hl hnews h1 (by omega) (by rw [Nat.zero_add]; exact hbytes) hbase fun A' cap w' h2 h3 => by
    rw [Nat.zero_add, List.nil_append] at h2
    rw [Nat.zero_add]
    exact h A' cap w' h2 h3
theorem wpl_clone {P : Program} {ops : Array Oper} {rest : List Oper} {o : Oper} {a : Act} {Q : Exit → Act → World → Prop} {w : World} {t e : TypeId} {size bytes B : Nat} (hgd : o.guard = none) (E : El P t e size bytes) (s x : Operand)
    (ho : o.op = .call { callee := .builtin .append, args := #[s, x], argTypes := #[t, t] }) {v : Value} {m c : Nat} {A : Option Addr} {news : List Value} (hs : a.eval s = v) (hx : a.eval x = .slice A m c)
    (hown : w.ownsRow B e size v 0 []) (hl : news.length = m * size) (hnews : 0 < m → NewsOf w A news) (h1 : ∀ u ∈ news, u.oneCell' = true)
    (h63 : m ≤ maxLen) (hbytes : m * bytes ≤ 140737488355328) (hbase : B ≤ w.heap.size)
    (h : ∀ A' cap w', w'.ownsRow B e size (.slice A' m cap) m news → Frm (fun k => v.ownBlock = some k) w w' → wpList P ops Q rest (a.put o.dst (.slice A' m cap)) w') : wpList P ops Q (o :: rest) a w :=
  wpl_app_src hgd E s x ho hs hx hown hl hnews h1 (by omega) (by rw [Nat.zero_add]; exact hbytes) hbase fun A' cap w' h2 h3 => by
    rw [Nat.zero_add, List.nil_append] at h2
    rw [Nat.zero_add]
    exact h A' cap w' h2 h3

end Go.Proofs.Ytmkkeglcjbogcaa
namespace Go.Proofs.Ytmkkeglcjbogcaa
open Go.RowKit
set_option linter.unusedVariables false

theorem bytes_cell {w : World} {v : Value} {bs : List UInt8} (h : BytesAt w v bs) : ∃ A cap, v = .slice A bs.length cap ∧ bs.length ≤ cap ∧ cap ≤ maxLen ∧ (0 < bs.length → ∃ g off, A = some ⟨g, off, none⟩ ∧ ∀ i (hi : i < bs.length), w.cell? ⟨g, off + i, none⟩ = some (.int .u8 (bs[i].toNat : Int))) := by
  obtain ⟨A, cap, rfl, h1, h2, hc⟩ := h
  refine ⟨A, cap, rfl, h1, h2, fun h0 => ?_⟩
  obtain ⟨g, off, rfl, hc2⟩ := hc h0
  refine ⟨g, off, rfl, fun i hi => ?_⟩
  have := hc2 i hi
  rwa [List.getD_eq_getElem?_getD, List.getElem?_eq_getElem hi] at this
theorem el_u8 : El Try.prog 22 5 1 1 := El.of Try.underlying22 (z := .int .u8 0) (by kernel_rfl) rfl (by decide)
/-- Bytes of one's own. -/
def Own8 (B : Nat) (w : World) (v : Value) (bs : List UInt8) : Prop := w.ownsRow B 5 1 v bs.length (bs.map encB)
theorem BytesAt.sub {w : World} {g off cap : Nat} {bs : List UInt8} (h : BytesAt w (.slice (some ⟨g, off, none⟩) bs.length cap) bs) (k : Nat) (hk : k ≤ bs.length) : BytesAt w (.slice (some ⟨g, off + k, none⟩) (bs.length - k) (cap - k)) (bs.drop k) := by
  obtain ⟨A, cap2, e, h1, h2, hc⟩ := h
  simp only [Value.slice.injEq] at e
  obtain ⟨rfl, _, rfl⟩ := e
  refine ⟨_, _, by rw [List.length_drop], by rw [List.length_drop]; omega, by omega, fun h0 => ⟨g, off + k, rfl, fun i hi => ?_⟩⟩
  rw [List.length_drop] at hi
  obtain ⟨g2, off2, e2, hc2⟩ := hc (by omega)
  simp only [Option.some.injEq, Addr.mk.injEq] at e2
  obtain ⟨rfl, rfl, _⟩ := e2
  have := hc2 (k + i) (by omega)
  rw [Nat.add_assoc, this]
  simp [List.getD_eq_getElem?_getD, List.getElem?_drop]
theorem BytesAt.pre {w : World} {g off cap N : Nat} {bs : List UInt8} (hN : bs.length = N) (h : BytesAt w (.slice (some ⟨g, off, none⟩) N cap) bs) (k : Nat) (hk : k ≤ bs.length) : BytesAt w (.slice (some ⟨g, off, none⟩) k cap) (bs.take k) := by
  obtain ⟨A, cap2, e, h1, h2, hc⟩ := h
  simp only [Value.slice.injEq] at e
  obtain ⟨rfl, _, rfl⟩ := e
  have hl : (bs.take k).length = k := by simp; omega
  refine ⟨some ⟨g, off, none⟩, cap, by rw [hl], by rw [hl]; omega, h2, fun h0 => ⟨g, off, rfl, fun i hi => ?_⟩⟩
  rw [hl] at hi
  obtain ⟨g2, off2, e2, hc2⟩ := hc (by omega)
  simp only [Option.some.injEq, Addr.mk.injEq] at e2
  obtain ⟨rfl, rfl, _⟩ := e2
  have := hc2 i (by omega)
  rw [this]
  simp [List.getD_eq_getElem?_getD, hi]
theorem BytesAt.from {w : World} {g off cap N : Nat} {bs : List UInt8} (hN : bs.length = N) (h : BytesAt w (.slice (some ⟨g, off, none⟩) N cap) bs) (k : Nat) (hk : k ≤ bs.length) : BytesAt w (.slice (some ⟨g, if cap = k then off else off + k, none⟩) (N - k) (cap - k)) (bs.drop k) := by
  subst hN
  by_cases e : cap = k
  · rw [if_pos e]
    have hd : bs.drop k = [] := by
      obtain ⟨A, cap2, e2, h1, h2, hc⟩ := h
      simp only [Value.slice.injEq] at e2
      exact List.drop_eq_nil_of_le (by omega)
    have hl : bs.length - k = 0 := by have := congrArg List.length hd; simpa using this
    rw [hd, hl, e]
    exact ⟨some ⟨g, off, none⟩, 0, by simp, Nat.le_refl _, by unfold maxLen; omega, fun h => absurd h (by simp)⟩
  · rw [if_neg e]
    exact h.sub k hk
theorem size_u8 (w : World) : (Go.sizeOf 5).run Try.prog w = .ok 1 w := by
  have h : (Try.prog.info? 5).map (·.size) = some 1 := by kernel_rfl
  obtain ⟨i, hi, h1⟩ := Option.map_eq_some_iff.1 h
  simp [Go.sizeOf, typeInfo, hi, h1]
theorem slice_to (W : World) (g o N c k : Nat) (h : k ≤ c) : (Instr.slice 22 (.slice (some ⟨g, o, none⟩) N c) none (some (.int .u64 (k : Int))) none).run Try.prog W = .ok (.slice (some ⟨g, o, none⟩) k c) W := by
  have ht : Try.prog.underlying 22 = some (.slice (Try.prog.elem 22)) := by kernel_rfl
  have he : Try.prog.elem 22 = 5 := by kernel_rfl
  rw [run_slice_h W 22 _ _ _ ht .u64 _ (by omega) (by omega), he, size_u8]
  simp [Result.andThen, sliced, Addr.add]
theorem slice_from (W : World) (g o N c k : Nat) (h : k ≤ N) (hc : N ≤ c) : (Instr.slice 22 (.slice (some ⟨g, o, none⟩) N c) (some (.int .u64 (k : Int))) none none).run Try.prog W = .ok (.slice (some ⟨g, if c = k then o else o + k, none⟩) (N - k) (c - k)) W := by
  have ht : Try.prog.underlying 22 = some (.slice (Try.prog.elem 22)) := by kernel_rfl
  have he : Try.prog.elem 22 = 5 := by kernel_rfl
  rw [run_slice_l W 22 _ _ _ ht .u64 _ (by omega) (by omega), he, size_u8]
  by_cases e : c = k
  · simp [Result.andThen, sliced, Addr.add, e]
  · by_cases e0 : k = 0
    · simp [Result.andThen, sliced, Addr.add, e, e0]
    · simp [Result.andThen, sliced, Addr.add, e, e0]
/-- An item in memory: its place, its slice's value, its bytes. -/
abbrev Itm := Int × Int × Value × List UInt8
def encIt (x : Itm) : List Value := [.int .u16 x.1, .int .u8 x.2.1, x.2.2.1]
theorem encIt_len (x : Itm) : (encIt x).length = 3 := rfl
def bare (x : Itm) : Int × Int × List UInt8 := (x.1, x.2.1, x.2.2.2)
/-- Items, wherever they lie. -/
def ItemsAt (w : World) (v : Value) (xs : List Itm) : Prop := SlAt encIt 3 w v xs ∧ ∀ x ∈ xs, BytesAt w x.2.2.1 x.2.2.2
theorem BytesAt.drewN {w : World} {v : Value} {bs : List UInt8} (h : BytesAt w v bs) (n : Nat) : BytesAt (w.drewN n) v bs := h.grow (Frm.drewN (Frm.refl _ _) n)
/-- An item: its place, its bytes. -/
abbrev It := Int × Int × List UInt8
/-- A number in so many bytes, lowest first. -/
def leOf (n : Int) : Nat → List UInt8
  | 0 => []
  | k + 1 => UInt8.ofNat (n % 256).toNat :: leOf (n / 256) k
def encIt8 (x : It) : List UInt8 := leOf x.1 2 ++ [UInt8.ofNat x.2.1.toNat] ++ leOf x.2.2.length 4 ++ x.2.2
def encOf (l : List It) : List UInt8 := leOf l.length 4 ++ l.flatMap encIt8
theorem el_Item : El Try.prog 23 121 3 32 := El.of Try.underlying23 (z := .agg #[.int .u16 0, .int .u8 0, .slice none 0 0]) (by kernel_rfl) rfl (by decide)
theorem cellsOf_snoc {α : Type} {enc : α → List Value} (xs : List α) (x : α) : cellsOf enc (xs ++ [x]) = cellsOf enc xs ++ enc x := by simp [cellsOf]
/-- Items of one's own. -/
def ItemsRow (B : Nat) (w : World) (v : Value) (xs : List Itm) : Prop := w.ownsRow B 121 3 v xs.length (cellsOf encIt xs) ∧ ∀ x ∈ xs, Own8 B w x.2.2.1 x.2.2.2
theorem ItemsRow.at_ {B : Nat} {w : World} {v : Value} {xs : List Itm} (h : ItemsRow B w v xs) : ItemsAt w v xs := ⟨SlAt.of_row encIt_len h.1, fun x hx => BytesAt.of_row (h.2 x hx)⟩
theorem ItemsRow.grow {B : Nat} {w w' : World} {v : Value} {xs : List Itm} (h : ItemsRow B w v xs) (hF : Frm (fun _ => False) w w') : ItemsRow B w' v xs :=
  ⟨hF.row h.1 (fun _ _ h => h), fun x hx => hF.row (h.2 x hx) (fun _ _ h => h)⟩
theorem ItemsRow.nil (B : Nat) (w : World) : ItemsRow B w (.slice none 0 0) [] := ⟨World.ownsRow_nil _ _ _ _, fun x hx => by cases hx⟩
theorem ItemsRow.base {B C : Nat} {w : World} {v : Value} {xs : List Itm} (h : ItemsRow B w v xs) (hb : C ≤ B) : ItemsRow C w v xs := ⟨row_base h.1 hb, fun x hx => row_base (h.2 x hx) hb⟩
/-- One item more. -/
theorem ItemsRow.push {B n : Nat} {w w' : World} {v v' : Value} {xs : List Itm} (h : ItemsRow B w v xs) (x : Itm) (hx : Own8 B w x.2.2.1 x.2.2.2) (hF : Frm (fun k => v.ownBlock = some k) w w') (hn : n = xs.length)
    (hr : w'.ownsRow B 121 3 v' (n + 1) (cellsOf encIt xs ++ encIt x)) : ItemsRow B w' v' (xs ++ [x]) := by
  subst hn
  have hk : ∀ y : Itm, Own8 B w y.2.2.1 y.2.2.2 → Own8 B w' y.2.2.1 y.2.2.2 := fun y hy => hF.row hy fun k hk hs => by
    obtain ⟨_, c1, h1⟩ := row_block hy hk
    obtain ⟨_, c2, h2⟩ := row_block h.1 hs
    exact block_ne h1 h2 (by decide) rfl
  refine ⟨by rw [cellsOf_snoc, List.length_append]; exact hr, fun y hy => ?_⟩
  rcases List.mem_append.1 hy with hy | hy
  · exact hk y (h.2 y hy)
  · obtain rfl : y = x := by simpa using hy
    exact hk y hx
theorem ItemsAt.open_ {w : World} {v : Value} {xs : List Itm} (h : ItemsAt w v xs) : ∃ A cap, v = .slice A xs.length cap ∧ xs.length ≤ maxLen ∧ ∀ k (hk : k < xs.length), ∃ g off Ab cb, A = some ⟨g, off, none⟩ ∧ xs[k].2.2.1 = .slice Ab xs[k].2.2.2.length cb ∧ xs[k].2.2.2.length ≤ maxLen ∧
    w.cell? ⟨g, off + k * 3, none⟩ = some (.int .u16 xs[k].1) ∧ w.cell? ⟨g, off + k * 3 + 1, none⟩ = some (.int .u8 xs[k].2.1) ∧ w.cell? ⟨g, off + k * 3 + 2, none⟩ = some (.slice Ab xs[k].2.2.2.length cb) := by
  obtain ⟨⟨A, cap, rfl, h1, h2, hA⟩, hb⟩ := h
  refine ⟨A, cap, rfl, Nat.le_trans h1 h2, fun k hk => ?_⟩
  obtain ⟨g, off, rfl, _, hc⟩ := hA (by omega)
  have hbk := hb _ (List.getElem_mem hk)
  obtain ⟨Ab, cb, hv, h3, h4, _⟩ := bytes_cell hbk
  refine ⟨g, off, Ab, cb, rfl, hv, Nat.le_trans h3 h4, hc k hk 0 (by decide), hc k hk 1 (by decide), ?_⟩
  rw [hc k hk 2 (by decide), ← hv]
  rfl
theorem ItemsAt.frm {w w' : World} {v : Value} {xs : List Itm} (h : ItemsAt w v xs) (hF : Frm (fun _ => False) w w') : ItemsAt w' v xs := ⟨h.1.frm encIt_len hF, fun x hx => (h.2 x hx).grow hF⟩
theorem leOf_length (n : Int) (k : Nat) : (leOf n k).length = k := by
  induction k generalizing n with
  | zero => rfl
  | succ k ih => simp [leOf, ih]
theorem encB_mod (n : Int) : encB (UInt8.ofNat (n % 256).toNat) = .int .u8 (n % 256) := by
  unfold encB
  have : (n % 256).toNat < 256 := by omega
  rw [UInt8.toNat_ofNat', Nat.mod_eq_of_lt this, Int.toNat_of_nonneg (by omega)]
/-- The number of bytes, lowest first. -/
def numOf : List UInt8 → Int
  | [] => 0
  | b :: r => (b.toNat : Int) + 256 * numOf r

theorem numOf_bound (bs : List UInt8) : 0 ≤ numOf bs ∧ numOf bs < 256 ^ bs.length := by
  induction bs with
  | nil => simp [numOf]
  | cons b r ih =>
    have := b.toNat_lt
    simp only [numOf, List.length_cons, Int.pow_succ]
    omega

end Go.Proofs.Ytmkkeglcjbogcaa
namespace Go.Proofs.Ytmkkeglcjbogcaa
set_option linter.unusedVariables false

/-- A frame of eight bytes. -/
structure F8 where
  (a0 a1 a2 a3 a4 a5 a6 a7 : Int)
def byteI (x : Int) : Prop := 0 ≤ x ∧ x ≤ 255
structure F8.ok (f : F8) : Prop where
  (h0 : byteI f.a0) (h1 : byteI f.a1) (h2 : byteI f.a2) (h3 : byteI f.a3) (h4 : byteI f.a4) (h5 : byteI f.a5) (h6 : byteI f.a6) (h7 : byteI f.a7)
def F8.zero : F8 := ⟨0, 0, 0, 0, 0, 0, 0, 0⟩
/-- A frame at a place, with a number. -/
def fr8 (first idx sub n : Int) : F8 := ⟨first, idx % 256, idx / 256, sub, n % 256, n / 256 % 256, n / 65536 % 256, n / 16777216⟩
def F8.num (f : F8) : Int := f.a4 + 256 * f.a5 + 65536 * f.a6 + 16777216 * f.a7
def F8.place (f : F8) : Int := f.a1 + 256 * f.a2
def u8I (x : Int) : UInt8 := UInt8.ofNat x.toNat
def F8.bytes (f : F8) : List UInt8 := [u8I f.a0, u8I f.a1, u8I f.a2, u8I f.a3, u8I f.a4, u8I f.a5, u8I f.a6, u8I f.a7]
def atI (bs : List UInt8) (k : Nat) : Int := ((bs.getD k 0).toNat : Int)
/-- A segment's frame: bs is what is still to be sent. -/
def seg8 (turn : Int) (bs : List UInt8) : F8 := ⟨turn + 2 * (7 - (Nat.min 7 bs.length : Nat)) + (if bs.length ≤ 7 then 1 else 0), atI bs 0, atI bs 1, atI bs 2, atI bs 3, atI bs 4, atI bs 5, atI bs 6⟩
/-- A client: what it waits for (0 nothing, 1 a write at once, 2 one in segments, first, 3 then, 4 a read, first, 5 then), where, bytes, whose turn (0 or 16), whether the last segment was sent, how many bytes there will be, the result. -/
structure Cl where
  (waits idx sub : Int) (b : List UInt8) (turn : Int) (last : Bool) (size : Int) (res : List UInt8) (code : Int) (has : Bool)
def Cl.new : Cl := ⟨0, 0, 0, [], 0, false, 0, [], 0, false⟩
def Cl.ends (bs : List UInt8) (code : Int) : Cl := ⟨0, 0, 0, [], 0, false, 0, bs, code, true⟩
structure Cl.ok (c : Cl) : Prop where
  (hw : 0 ≤ c.waits ∧ c.waits ≤ 5) (hi : 0 ≤ c.idx ∧ c.idx ≤ 65535) (hs : byteI c.sub) (ht : c.turn = 0 ∨ c.turn = 16) (hb : c.b.length ≤ 65536) (hc : 0 ≤ c.code ∧ c.code ≤ 4294967295) (hz : -1 ≤ c.size ∧ c.size ≤ 65536) (hr : c.res.length ≤ 65543)
def Cl.write (c : Cl) (i s : Int) (bs : List UInt8) : Cl × F8 × Int :=
  if c.waits ≠ 0 then (c, F8.zero, 6)
  else if 65536 < bs.length then (c, F8.zero, 2)
  else if 1 ≤ bs.length ∧ bs.length ≤ 4 then (⟨1, i, s, bs, 0, false, 0, [], 0, false⟩, ⟨35 + 4 * (4 - bs.length), i % 256, i / 256, s, atI bs 0, atI bs 1, atI bs 2, atI bs 3⟩, 0)
  else (⟨2, i, s, bs, 0, false, 0, [], 0, false⟩, fr8 33 i s bs.length, 0)
def Cl.read (c : Cl) (i s : Int) : Cl × F8 × Int :=
  if c.waits ≠ 0 then (c, F8.zero, 6) else (⟨4, i, s, [], 0, false, -1, [], 0, false⟩, fr8 64 i s 0, 0)
def Cl.gives (c : Cl) (code : Int) : Cl × F8 × Bool := (Cl.ends [] code, fr8 128 c.idx c.sub code, true)
def Cl.segment (c : Cl) : Cl × F8 := (⟨c.waits, c.idx, c.sub, c.b.drop 7, c.turn, decide (c.b.length ≤ 7), c.size, c.res, c.code, c.has⟩, seg8 c.turn c.b)
def Cl.head (c : Cl) : Int := if c.waits = 1 ∨ c.waits = 2 then 3 else if c.waits = 3 then 1 else if c.waits = 4 then 2 else 0
/-- How many bytes a first answer to a read has, at once. -/
def nowN (x : Int) : Int := if x % 2 = 1 then 4 - x / 4 % 4 else 4
def Cl.first (c : Cl) (a : F8) : Cl × F8 × Bool :=
  if a.a0 / 2 % 2 = 1 then (Cl.ends ((a.bytes.drop 4).take (nowN a.a0).toNat) 0, F8.zero, false)
  else if a.a0 % 2 = 1 ∧ 65536 < a.num then c.gives 84148229
  else (⟨5, c.idx, c.sub, c.b, c.turn, c.last, if a.a0 % 2 = 1 then a.num else c.size, c.res, c.code, c.has⟩, ⟨96, 0, 0, 0, 0, 0, 0, 0⟩, true)
/-- The bytes of a segment that is taken. -/
def F8.part (a : F8) : List UInt8 := (a.bytes.drop 1).take (7 - a.a0 / 2 % 8).toNat
def Cl.further (c : Cl) (a : F8) : Cl × F8 × Bool :=
  if 65536 < (c.b ++ a.part).length then c.gives 84148229
  else if a.a0 % 2 = 0 then (⟨c.waits, c.idx, c.sub, c.b ++ a.part, 16 - c.turn, c.last, c.size, c.res, c.code, c.has⟩, ⟨96 + (16 - c.turn), 0, 0, 0, 0, 0, 0, 0⟩, true)
  else if 0 ≤ c.size ∧ c.size ≠ ((c.b ++ a.part).length : Int) then c.gives 101122064
  else (Cl.ends (c.b ++ a.part) 0, F8.zero, false)
def Cl.takes (c : Cl) (a : F8) : Cl × F8 × Bool :=
  if c.waits = 2 then ((Cl.segment ⟨3, c.idx, c.sub, c.b, c.turn, c.last, c.size, c.res, c.code, c.has⟩).1, seg8 c.turn c.b, true)
  else if c.waits = 3 then
    (if c.last then (Cl.ends [] 0, F8.zero, false) else ((Cl.segment ⟨c.waits, c.idx, c.sub, c.b, 16 - c.turn, c.last, c.size, c.res, c.code, c.has⟩).1, seg8 (16 - c.turn) c.b, true))
  else if c.waits = 4 then c.first a
  else if c.waits = 5 then c.further a
  else (Cl.ends [] 0, F8.zero, false)
def Cl.feed (c : Cl) (a : F8) : Cl × F8 × Bool :=
  if c.waits = 0 then (c, F8.zero, false)
  else if a.a0 / 32 = 4 then (Cl.ends [] a.num, F8.zero, false)
  else if a.a0 / 32 ≠ c.head then c.gives 84148225
  else if c.waits = 3 ∨ c.waits = 5 then (if 16 * (a.a0 / 16 % 2) ≠ c.turn then c.gives 84082688 else c.takes a)
  else if a.place ≠ c.idx ∨ a.a3 ≠ c.sub then c.gives 84148225
  else c.takes a
def Cl.expire (c : Cl) : Cl × F8 × Bool := if c.waits = 0 then (c, F8.zero, false) else c.gives 84148224
def Cl.busy (c : Cl) : Bool := decide (c.waits ≠ 0)
def Cl.result (c : Cl) : Cl × List UInt8 × Int × Bool :=
  if c.has then (⟨c.waits, c.idx, c.sub, c.b, c.turn, c.last, c.size, [], 0, false⟩, c.res, c.code, true) else (c, [], 0, false)
end Go.Proofs.Ytmkkeglcjbogcaa
namespace Go.Proofs.Ytmkkeglcjbogcaa
open Go.RowKit
set_option linter.unusedVariables false
set_option linter.unusedSimpArgs false

def F8.c (f : F8) : Array Value := #[.int .u8 f.a0, .int .u8 f.a1, .int .u8 f.a2, .int .u8 f.a3, .int .u8 f.a4, .int .u8 f.a5, .int .u8 f.a6, .int .u8 f.a7]
def F8.v (f : F8) : Value := .agg f.c
def ptr (p : Nat) : Value := .pointer (some ⟨p, 0, none⟩)
/-- The cells of a client. -/
def clC (s : Cl) (vb vr : Value) : Array Value := #[.int .i64 s.waits, .int .u16 s.idx, .int .u8 s.sub, vb, .int .u8 s.turn, .bool s.last, .int .i64 s.size, vr, .int .u32 s.code, .bool s.has]
/-- A result that lies in memory, of eight cells. -/
theorem ret_f8 {fn : Func} {p : Tmp} (h : fn.results = #[.cell p 73]) (tmps : Array Value) (w : World) (g : Nat) (cs : Array Value)
    (hp : tmps.getD p undef = .pointer (some ⟨g, 0, none⟩)) (hz : cs.size = 8) (hg : w.heap[g]? = some (.cells cs 73 (0, 0))) :
    (results fn tmps).run Try.prog w = .ok (.agg cs) w := by
  have hp' : tmps[p]?.getD undef = .pointer (some ⟨g, 0, none⟩) := by simpa using hp
  have hu := run_loadVar_row w g 73 73 cs (0, 0) _ hg Try.underlying73 rfl (by rw [hz]; kernel_rfl)
  simp [results, h, hp', asAddr, hu]
theorem ret_f8b {fn : Func} {p u : Tmp} (h : fn.results = #[.cell p 73, .tmp u]) (tmps : Array Value) (w : World) (g : Nat) (cs : Array Value)
    (hp : tmps.getD p undef = .pointer (some ⟨g, 0, none⟩)) (hz : cs.size = 8) (hg : w.heap[g]? = some (.cells cs 73 (0, 0))) :
    (results fn tmps).run Try.prog w = .ok (.tuple #[.agg cs, tmps.getD u undef]) w := by
  have hp' : tmps[p]?.getD undef = .pointer (some ⟨g, 0, none⟩) := by simpa using hp
  have hu := run_loadVar_row w g 73 73 cs (0, 0) _ hg Try.underlying73 rfl (by rw [hz]; kernel_rfl)
  simp [results, h, hp', asAddr, hu]

/-- A whole row is stored: what is known of the world behind it. -/
theorem wpl_store_whole {P : Program} {ops : Array Oper} {rest : List Oper} {o : Oper} {a : Act} {w : World} {Q : Exit → Act → World → Prop} (hgd : o.guard = none) (ty : TypeId) (x y : Operand) (ho : o.op = .store ty x y)
    (g : Nat) (cells : Array Value) (hx : a.eval x = .pointer (some ⟨g, 0, none⟩)) (hy : a.eval y = .agg cells)
    (t : TypeId) (old : Array Value) (hg : w.heap[g]? = some (.cells old t (0, 0))) (hi : (P.info? ty).map (·.size) = some cells.size)
    (hold : old.size = cells.size) (h1 : cells.all (·.oneCell') = true)
    (h : ∀ w', w'.heap[g]? = some (.cells cells t (0, 0)) → Frm (One g) w w' → wpList P ops Q rest (a.put o.dst undef) w') : wpList P ops Q (o :: rest) a w :=
  wpList_store_row hgd ty x y ho g cells hx hy t old hg hi hold h1 (h _ (setRow_heap w g old cells t (0, 0) hg) ⟨rfl, rfl, rfl, by simp, fun k _ hk => setRow_other w g k cells hk⟩)
theorem wp_store_whole {P : Program} {o : Oper} {a : Act} {w : World} {K : Act → World → Prop} {Q : Exit → Act → World → Prop} (ty : TypeId) (x y : Operand) (ho : o.op = .store ty x y)
    (g : Nat) (cells : Array Value) (hx : a.eval x = .pointer (some ⟨g, 0, none⟩)) (hy : a.eval y = .agg cells)
    (t : TypeId) (old : Array Value) (hg : w.heap[g]? = some (.cells old t (0, 0))) (hi : (P.info? ty).map (·.size) = some cells.size)
    (hold : old.size = cells.size) (h1 : cells.all (·.oneCell') = true)
    (h : ∀ w', w'.heap[g]? = some (.cells cells t (0, 0)) → Frm (One g) w w' → K (a.put o.dst undef) w') : o.wp P a w K Q :=
  wp_store_row ty x y ho g cells hx hy t old hg hi hold h1 (h _ (setRow_heap w g old cells t (0, 0) hg) ⟨rfl, rfl, rfl, by simp, fun k _ hk => setRow_other w g k cells hk⟩)
theorem info_f8 : (Try.prog.info? 73).map (·.size) = some 8 := by kernel_rfl
theorem info_Cl : (Try.prog.info? 143).map (·.size) = some 10 := by kernel_rfl
theorem clC_size (s : Cl) (vb vr : Value) : (clC s vb vr).size = 10 := rfl
theorem clC_one (s : Cl) (A B : Option Addr) (n c m d : Nat) : (clC s (.slice A n c) (.slice B m d)).all (·.oneCell') = true := by simp [clC, Value.oneCell']
theorem ten {cs : Array Value} (hz : cs.size = 10) : ∃ c0 c1 c2 c3 c4 c5 c6 c7 c8 c9, cs = #[c0, c1, c2, c3, c4, c5, c6, c7, c8, c9] := by
  match cs, hz with
  | ⟨[c0, c1, c2, c3, c4, c5, c6, c7, c8, c9]⟩, _ => exact ⟨c0, c1, c2, c3, c4, c5, c6, c7, c8, c9, rfl⟩
theorem F8.size (f : F8) : f.c.size = 8 := rfl
theorem F8.one (f : F8) : f.c.all (·.oneCell') = true := by simp [F8.c, Value.oneCell']

set_option maxHeartbeats 1000000 in
theorem sframe_any (idx sub first n : Int) (w : World) (hi : 0 ≤ idx ∧ idx ≤ 65535) (hn : 0 ≤ n ∧ n ≤ 4294967295) :
    Calls Try.prog 117 #[.agg #[.int .u16 idx, .int .u8 sub], .int .u8 first, .int .u32 n] w fun e w' => e = .returned (fr8 first idx sub n).v ∧ Frm (fun _ => False) w w' := by
  obtain ⟨hi0, hi1⟩ := hi
  obtain ⟨hn0, hn1⟩ := hn
  go_enter Try.func117, Try.ntmps117
  go_wp2
  exact bodyPost_ret (ret_f8 rfl _ _ (w.heap.size + 1) (fr8 first idx sub n).c rfl rfl (by (apply heap_fin; (case h => (repeat (first | (with_reducible exact heap_new_at (by simp)) | (with_reducible apply heap_alloc_old) | (with_reducible apply heap_drewN') | (with_reducible apply heap_drew') | (with_reducible apply heap_set_same) | (with_reducible refine heap_set_other ?_ (by simp only []; omega)) | (with_reducible exact heap_new_at (by simp))))); (case e => rfl)))) rfl ⟨rfl, by (repeat' (first | (with_reducible exact Frm.refl _ _) | (with_reducible assumption) | (with_reducible refine Frm.alloc ?_ _) | (with_reducible refine Frm.drew ?_) | (with_reducible refine Frm.drewN ?_ _) | (with_reducible refine Frm.set1 ?_ _) | (with_reducible refine Frm.setCell ?_ ?_ _) | (exact fun h => absurd h (Nat.lt_irrefl _)) | (intro hlt; simp [World.size_alloc, One] at hlt ⊢; omega)))⟩

set_option maxHeartbeats 1000000 in
theorem abort_any (idx sub n : Int) (w : World) (hi : 0 ≤ idx ∧ idx ≤ 65535) (hn : 0 ≤ n ∧ n ≤ 4294967295) :
    Calls Try.prog 104 #[.int .u16 idx, .int .u8 sub, .int .u32 n] w fun e w' => e = .returned (fr8 128 idx sub n).v ∧ Frm (fun _ => False) w w' := by
  have HS := Lib.hid (fun W => sframe_any idx sub 128 n W hi hn)
  clear hi hn
  generalize fr8 128 idx sub n = f at *
  unfold F8.v at *
  go_enter Try.func104, Try.ntmps104
  go_wp2_with (first | (go_at_call 117; refine (HS.out _).mono ?_; rintro e w1 ⟨rfl, hF1⟩; have HF1f : Hid (Frm (fun _ => False) w w1) := Lib.hid (Frm.trans' ((Frm.refl _ _).alloc _) hF1); have HF1 := Lib.hid hF1; clear hF1) | (refine wpl_store_whole rfl 73 (.tmp 6) (.tmp 11) rfl w.heap.size f.c rfl rfl 73 _ (HF1.out.heap (heap_new w _) (fun h => h)) info_f8 rfl f.one ?_; intro w2 hw2 hF2; have HW2 := Lib.hid hw2; have HF2 := Lib.hid hF2; clear hw2 hF2))
  exact bodyPost_ret (ret_f8 rfl _ _ w.heap.size f.c rfl rfl HW2.out) rfl ⟨rfl, HF1f.out.trans HF2.out (fun i hi h => by rw [h] at hi; exact absurd hi (Nat.lt_irrefl _))⟩
set_option maxHeartbeats 1000000 in
theorem cends_any (c : Nat) (cs : Array Value) (A : Option Addr) (n cap : Nat) (code : Int) (w : World) (hc : w.heap[c]? = some (.cells cs 143 (0, 0))) (hz : cs.size = 10) :
    Calls Try.prog 95 #[ptr c, .slice A n cap, .int .u32 code] w fun e w' => e = .returned (.tuple #[]) ∧ w'.heap[c]? = some (.cells (clC (Cl.ends [] code) (.slice none 0 0) (.slice A n cap)) 143 (0, 0)) ∧ Frm (One c) w w' := by
  obtain ⟨c0, c1, c2, c3, c4, c5, c6, c7, c8, c9, rfl⟩ := ten hz
  have HC := Lib.hid hc
  have k0 : w.cell? ⟨c, 0, none⟩ = some c0 := cell_at hc
  have kf := frees hc
  unfold ptr
  clear hz hc
  go_enter Try.func95, Try.ntmps95
  go_wp2_with (refine wpl_store_whole rfl 143 (.tmp 10) (.tmp 9) rfl c (clC (Cl.ends [] code) (.slice none 0 0) (.slice A n cap)) rfl rfl 143 _ HC.out info_Cl rfl (clC_one _ _ _ _ _ _ _) ?_; intro w2 hw2 hF2; have HW2 := Lib.hid hw2; have HF2 := Lib.hid hF2; clear hw2 hF2)
  go_end0
  exact ⟨rfl, HW2.out, HF2.out⟩

theorem or_mulI (a b i m : Nat) (hm : m = 2 ^ i) (h : a < m) : a ||| (b * m) = a + b * m := by
  subst hm
  rw [Nat.or_comm, ← Nat.shiftLeft_eq, ← Nat.shiftLeft_add_eq_or_of_lt h, Nat.add_comm]
theorem le32_sumI (a b c d : Int) (a0 : 0 ≤ a) (a1 : a ≤ 255) (b0 : 0 ≤ b) (b1 : b ≤ 255) (c0 : 0 ≤ c) (c1 : c ≤ 255) (d0 : 0 ≤ d) (d1 : d ≤ 255) :
    bits BinOp.or IntKind.u32 (bits BinOp.or IntKind.u32 (bits BinOp.or IntKind.u32 a (b * 256)) (c * 65536)) (d * 16777216) = a + 256 * b + 65536 * c + 16777216 * d := by
  obtain ⟨n0, rfl⟩ := Int.eq_ofNat_of_zero_le a0
  obtain ⟨n1, rfl⟩ := Int.eq_ofNat_of_zero_le b0
  obtain ⟨n2, rfl⟩ := Int.eq_ofNat_of_zero_le c0
  obtain ⟨n3, rfl⟩ := Int.eq_ofNat_of_zero_le d0
  have e1 : ((n1 : Int) * 256) = ((n1 * 256 : Nat) : Int) := by omega
  have e2 : ((n2 : Int) * 65536) = ((n2 * 65536 : Nat) : Int) := by omega
  have e3 : ((n3 : Int) * 16777216) = ((n3 * 16777216 : Nat) : Int) := by omega
  rw [e1, e2, e3, u32_or_nat n0 (n1 * 256) (by omega) (by omega), or_mulI n0 n1 8 256 (by decide) (by omega), u32_or_nat _ (n2 * 65536) (by omega) (by omega), or_mulI _ n2 16 65536 (by decide) (by omega), u32_or_nat _ (n3 * 16777216) (by omega) (by omega), or_mulI _ n3 24 16777216 (by decide) (by omega)]
  omega
set_option maxHeartbeats 1000000 in
theorem cnumber_any (f : F8) (w : World) (hf : f.ok) : Calls Try.prog 96 #[f.v] w fun e w' => e = .returned (.int .u32 f.num) ∧ Frm (fun _ => False) w w' := by
  obtain ⟨a0, a1, a2, a3, a4, a5, a6, a7⟩ := f
  obtain ⟨_, _, _, _, ⟨h40, h41⟩, ⟨h50, h51⟩, ⟨h60, h61⟩, ⟨h70, h71⟩⟩ := hf
  unfold F8.v F8.c
  simp only at h40 h41 h50 h51 h60 h61 h70 h71 ⊢
  have hS := le32_sumI a4 a5 a6 a7 h40 h41 h50 h51 h60 h61 h70 h71
  have HS := Lib.hid hS
  clear hS
  go_enter Try.func96, Try.ntmps96
  go_wp2
  go_ret
  exact ⟨ret_int (HS.out.trans (by simp only [F8.num])), by (repeat' (first | (with_reducible exact Frm.refl _ _) | (with_reducible assumption) | (with_reducible refine Frm.alloc ?_ _) | (with_reducible refine Frm.drew ?_) | (with_reducible refine Frm.drewN ?_ _) | (with_reducible refine Frm.set1 ?_ _) | (with_reducible refine Frm.setCell ?_ ?_ _) | (exact fun h => absurd h (Nat.lt_irrefl _)) | (intro hlt; simp [World.size_alloc, One] at hlt ⊢; omega)))⟩
end Go.Proofs.Ytmkkeglcjbogcaa
