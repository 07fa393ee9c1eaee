/-
  More small laws: slices of structs that came in; a slice of bytes copied.
-/
import Derived.Test.YtemjdmgfilbfaaaCore
namespace Go.Proofs.Ytemjdmgfilbfaaa
open Go.RowKit

/-- A slice of elements of sz cells that reads as xs. -/
def SlAt {α : Type} (enc : α → List Value) (sz : Nat) (W : World) (v : Value) (xs : List α) : Prop :=
  ∃ A cap, v = .slice A xs.length cap ∧ xs.length ≤ cap ∧ cap ≤ maxLen ∧ (0 < xs.length → ∃ g off, A = some ⟨g, off, none⟩ ∧ g < W.heap.size ∧
    ∀ i (h : i < xs.length) j, j < sz → W.cell? ⟨g, off + i * sz + j, none⟩ = (enc xs[i])[j]?)

/-- Append of a slice without elements changes nothing. -/
theorem run_append_empty {P : Program} {w : World} {base : Nat} {t ty e : TypeId} {i : TypeInfo} {size : Nat} (ht : P.underlying t = some (.slice e)) (hi : P.info? e = some i) {v : Value} {n : Nat} {xs : List Value} (hown : w.ownsRow base e size v n xs) (A : Option Addr) (c : Nat) :
    (Builtin.append_ #[t, t] ty #[v, .slice A 0 c]).run P w = .ok v w := by
  cases A with
  | none =>
    rcases hown.2 with ⟨rfl, rfl⟩ | ⟨g, cap, cur, rfl, _, _, hnc, _⟩
    · simp [Builtin.append_, run_underlying ht, sizeOf, typeInfo, hi, Builtin.lenOf, Builtin.firstCells]
    · simp [Builtin.append_, run_underlying ht, sizeOf, typeInfo, hi, Builtin.lenOf, Builtin.firstCells, hnc, storeCells]
  | some a =>
    rcases hown.2 with ⟨rfl, rfl⟩ | ⟨g, cap, cur, rfl, _, _, hnc, _⟩
    · simp [Builtin.append_, run_underlying ht, sizeOf, typeInfo, hi, Builtin.lenOf, Builtin.firstCells, loadCells, loadCellsFrom]
    · simp [Builtin.append_, run_underlying ht, sizeOf, typeInfo, hi, Builtin.lenOf, Builtin.firstCells, hnc, storeCells, loadCells, loadCellsFrom]

/-- Append of a slice that lies anywhere, empty or not. -/
theorem wp_app_src {P : Program} {o : Oper} {a : Act} {K : Act → World → Prop} {Q : Exit → Act → World → Prop} {w : World} {t e : TypeId} {size bytes B : Nat} (E : El P t e size bytes) (s x : Operand)
    (ho : o.op = .call { callee := .builtin .append, args := #[s, x], argTypes := #[t, t] }) {v : Value} {n m c : Nat} {A : Option Addr} {xs news : List Value} (hs : a.eval s = v) (hx : a.eval x = .slice A m c)
    (hown : w.ownsRow B e size v n xs) (hl : news.length = m * size) (hnews : 0 < m → ∃ g off, A = some ⟨g, off, none⟩ ∧ ∀ j u, news[j]? = some u → w.cell? ⟨g, off + j, none⟩ = some u) (h1 : ∀ u ∈ news, u.oneCell' = true)
    (h63 : n + m ≤ maxLen) (hbytes : (n + m) * bytes ≤ 140737488355328) (hbase : B ≤ w.heap.size)
    (h : ∀ A' cap w', w'.ownsRow B e size (.slice A' (n + m) cap) (n + m) (xs ++ news) → Frm (fun k => v.ownBlock = some k) w w' → K (a.put o.dst (.slice A' (n + m) cap)) w') : o.wp P a w K Q := by
  obtain ⟨i, z, hi, hz, h2, h3, h4⟩ := E.ex
  by_cases hm : 0 < m
  · obtain ⟨g, off, rfl, hc⟩ := hnews hm
    refine wp_append_lies w s x t ho B e i z size bytes E.ht hi hz h2 h3 h4 E.pos v n xs hs hown ⟨g, off, none⟩ m c news hx hl (fun j u hj => by rw [add_off]; exact hc j u hj) h1 hm h63 hbytes hbase w.heap.size rfl ?_
    intro g cap w' ho' hg' hat hlt
    exact h _ cap w' ho' ((Frm.refl _ _).grown hg' (fun k hk _ => hk))
  · obtain rfl : m = 0 := by omega
    have hn : news = [] := List.eq_nil_of_length_eq_zero (by simpa using hl)
    subst hn
    obtain ⟨A', cap, rfl, _⟩ := row_open hown
    have hr := run_append_empty (P := P) (ty := o.type) E.ht hi hown A c
    unfold Oper.wp execOp
    simp only [ho, resolve, invoke, builtin, Sem.run_bind, Sem.run_pure, Result.andThen_ok, List.map_toArray, List.map_cons, List.map_nil, hs, hx, hr]
    exact h A' cap w (by simpa using hown) (Frm.refl _ _)

theorem wpl_app_src {P : Program} {ops : Array Oper} {rest : List Oper} {o : Oper} {a : Act} {Q : Exit → Act → World → Prop} {w : World} {t e : TypeId} {size bytes B : Nat} (hgd : o.guard = none) (E : El P t e size bytes) (s x : Operand)
    (ho : o.op = .call { callee := .builtin .append, args := #[s, x], argTypes := #[t, t] }) {v : Value} {n m c : Nat} {A : Option Addr} {xs news : List Value} (hs : a.eval s = v) (hx : a.eval x = .slice A m c)
    (hown : w.ownsRow B e size v n xs) (hl : news.length = m * size) (hnews : 0 < m → ∃ g off, A = some ⟨g, off, none⟩ ∧ ∀ j u, news[j]? = some u → w.cell? ⟨g, off + j, none⟩ = some u) (h1 : ∀ u ∈ news, u.oneCell' = true)
    (h63 : n + m ≤ maxLen) (hbytes : (n + m) * bytes ≤ 140737488355328) (hbase : B ≤ w.heap.size)
    (h : ∀ A' cap w', w'.ownsRow B e size (.slice A' (n + m) cap) (n + m) (xs ++ news) → Frm (fun k => v.ownBlock = some k) w w' → wpList P ops Q rest (a.put o.dst (.slice A' (n + m) cap)) w') : wpList P ops Q (o :: rest) a w :=
  wpList_plain hgd fun _ hK => wp_app_src E s x ho hs hx hown hl hnews h1 h63 hbytes hbase fun A' cap w' h2 h3 => hK _ _ (h A' cap w' h2 h3)

theorem step_app_src {P : Program} {ops : Array Oper} {o : Oper} {a : Act} {K : Act → World → Prop} {Q : Exit → Act → World → Prop} {X : Prop} {w : World} {t e : TypeId} {size bytes B : Nat} (hgd : o.guard = none) (E : El P t e size bytes) (s x : Operand)
    (ho : o.op = .call { callee := .builtin .append, args := #[s, x], argTypes := #[t, t] }) {v : Value} {n m c : Nat} {A : Option Addr} {xs news : List Value} (hs : a.eval s = v) (hx : a.eval x = .slice A m c)
    (hown : w.ownsRow B e size v n xs) (hl : news.length = m * size) (hnews : 0 < m → ∃ g off, A = some ⟨g, off, none⟩ ∧ ∀ j u, news[j]? = some u → w.cell? ⟨g, off + j, none⟩ = some u) (h1 : ∀ u ∈ news, u.oneCell' = true)
    (h63 : n + m ≤ maxLen) (hbytes : (n + m) * bytes ≤ 140737488355328) (hbase : B ≤ w.heap.size)
    (h : ∀ A' cap w', w'.ownsRow B e size (.slice A' (n + m) cap) (n + m) (xs ++ news) → Frm (fun k => v.ownBlock = some k) w w' → K (a.put o.dst (.slice A' (n + m) cap)) w') : if Region.wanted o (yielded ops a.tmps) = true then Oper.wp P o a w K Q else X := by
  rw [if_pos (by simp [Region.wanted, hgd])]
  exact wp_app_src E s x ho hs hx hown hl hnews h1 h63 hbytes hbase h

/-- The cells of a list of elements, one behind the other. -/
def cellsOf {α : Type} (enc : α → List Value) (xs : List α) : List Value := xs.flatMap enc
theorem cellsOf_length {α : Type} {enc : α → List Value} {sz : Nat} (hsz : ∀ x, (enc x).length = sz) (xs : List α) : (cellsOf enc xs).length = xs.length * sz := by
  induction xs with
  | nil => simp [cellsOf]
  | cons x r ih => simp only [cellsOf, List.flatMap_cons, List.length_append, hsz, List.length_cons] at ih ⊢; rw [ih, Nat.add_mul]; omega
theorem cellsOf_get {α : Type} {enc : α → List Value} {sz : Nat} (hsz : ∀ x, (enc x).length = sz) (xs : List α) (i j : Nat) (hi : i < xs.length) (hj : j < sz) : (cellsOf enc xs)[i * sz + j]? = (enc xs[i])[j]? := by
  induction xs generalizing i with
  | nil => simp at hi
  | cons x r ih =>
    simp only [cellsOf, List.flatMap_cons] at ih ⊢
    cases i with
    | zero => rw [List.getElem?_append_left (by rw [hsz]; omega)]; simp
    | succ i =>
      rw [List.getElem?_append_right (by rw [hsz, Nat.add_mul]; omega), hsz]
      have := ih i (by simpa using hi)
      rw [show (i + 1) * sz + j - sz = i * sz + j by rw [Nat.add_mul]; omega]
      simpa using this
/-- What append asks of a slice of structs that came in. -/
theorem SlAt.cells {α : Type} {enc : α → List Value} {sz : Nat} {W : World} {v : Value} {xs : List α} (hsz : ∀ x, (enc x).length = sz) (hsz0 : 0 < sz) (h : SlAt enc sz W v xs) :
    ∃ A cap, v = .slice A xs.length cap ∧ (0 < xs.length → ∃ g off, A = some ⟨g, off, none⟩ ∧ ∀ j u, (cellsOf enc xs)[j]? = some u → W.cell? ⟨g, off + j, none⟩ = some u) := by
  obtain ⟨A, cap, rfl, _, _, hc⟩ := h
  refine ⟨A, cap, rfl, fun h0 => ?_⟩
  obtain ⟨g, off, rfl, _, hc⟩ := hc h0
  refine ⟨g, off, rfl, fun j u hu => ?_⟩
  have hj : j < xs.length * sz := by rw [← cellsOf_length hsz]; exact (List.getElem?_eq_some_iff.1 hu).1
  have hi : j / sz < xs.length := Nat.div_lt_of_lt_mul (by rw [Nat.mul_comm]; exact hj)
  have hm : j % sz < sz := Nat.mod_lt _ hsz0
  have hjj : j / sz * sz + j % sz = j := by rw [Nat.mul_comm]; exact Nat.div_add_mod j sz
  have h1 := hc _ hi _ hm
  have h2 := cellsOf_get hsz xs _ _ hi hm
  rw [hjj] at h2
  rw [← h2, hu, Nat.add_assoc, hjj] at h1
  exact h1
/-- A row of one's own, read as a slice. -/
theorem SlAt.of_row {α : Type} {enc : α → List Value} {sz B e : Nat} {W : World} {v : Value} {xs : List α} (hsz : ∀ x, (enc x).length = sz) (h : W.ownsRow B e sz v xs.length (cellsOf enc xs)) : SlAt enc sz W v xs := by
  obtain ⟨A, cap, rfl, h1, h2, h3⟩ := row_open h
  refine ⟨A, cap, rfl, h1, h2, fun h0 => ?_⟩
  obtain ⟨g, rfl, _, ⟨cur, hc⟩, _, hcell⟩ := h3 h0
  refine ⟨g, 0, rfl, lt_of_block hc, fun i hi j hj => ?_⟩
  have hij : i * sz + j < xs.length * sz := by
    have : (i + 1) * sz ≤ xs.length * sz := Nat.mul_le_mul_right _ hi
    rw [Nat.add_mul] at this
    omega
  rw [Nat.zero_add, hcell _ hij, cellsOf_get hsz xs i j hi hj]
theorem SlAt.frm {α : Type} {enc : α → List Value} {sz : Nat} {W W' : World} {v : Value} {xs : List α} (hsz : ∀ x, (enc x).length = sz) (h : SlAt enc sz W v xs) (hf : Frm (fun _ => False) W W') : SlAt enc sz W' v xs := by
  obtain ⟨A, cap, rfl, h1, h2, h3⟩ := h
  refine ⟨A, cap, rfl, h1, h2, fun h0 => ?_⟩
  obtain ⟨g, off, rfl, hg, hc⟩ := h3 h0
  refine ⟨g, off, rfl, Nat.lt_of_lt_of_le hg hf.size, fun i hi j hj => ?_⟩
  have := hc i hi j hj
  rw [List.getElem?_eq_getElem (by rw [hsz]; exact hj)] at this ⊢
  exact hf.cell this (fun h => h)

/-- A byte as a cell. -/
def encB (b : UInt8) : Value := .int .u8 b.toNat
theorem oneB (bs : List UInt8) : ∀ u ∈ bs.map encB, u.oneCell' = true := fun u hu => by
  obtain ⟨b, _, rfl⟩ := List.mem_map.1 hu
  rfl
/-- The bytes of a slice that came in, as append asks for them. -/
def NewsOf (w : World) (A : Option Addr) (news : List Value) : Prop := ∃ g off, A = some ⟨g, off, none⟩ ∧ ∀ j u, news[j]? = some u → w.cell? ⟨g, off + j, none⟩ = some u
theorem NewsOf.frm {S : Nat → Prop} {w w' : World} {A : Option Addr} {news : List Value} (h : NewsOf w A news) (hF : Frm S w w') (hS : ∀ g o, A = some ⟨g, o, none⟩ → ¬ S g) : NewsOf w' A news := by
  obtain ⟨g, off, rfl, hc⟩ := h
  exact ⟨g, off, rfl, fun j u hj => hF.cell (hc j u hj) (hS g off rfl)⟩
theorem NewsOf.grow {w w' : World} {A : Option Addr} {news : List Value} (h : NewsOf w A news) (hF : Frm (fun _ => False) w w') : NewsOf w' A news := h.frm hF (fun _ _ _ h => h)
theorem BytesAt.open_ {w : World} {v : Value} {bs : List UInt8} (h : BytesAt w v bs) : ∃ A cap, v = .slice A bs.length cap ∧ bs.length ≤ cap ∧ cap ≤ maxLen ∧ (0 < bs.length → NewsOf w A (bs.map encB)) := by
  obtain ⟨A, cap, rfl, h1, h2, h3⟩ := h
  refine ⟨A, cap, rfl, h1, h2, fun h0 => ?_⟩
  obtain ⟨g, off, rfl, hc⟩ := h3 h0
  refine ⟨g, off, rfl, fun j u hj => ?_⟩
  have hj' : j < bs.length := by have := (List.getElem?_eq_some_iff.1 hj).1; simpa using this
  rw [hc j hj']
  rw [List.getElem?_map, List.getElem?_eq_getElem hj'] at hj
  simp only [Option.map_some, Option.some.injEq] at hj
  rw [← hj, encB]
  simp [hj']
theorem BytesAt.of_news {w : World} {A : Option Addr} {cap : Nat} {bs : List UInt8} (h1 : bs.length ≤ cap) (h2 : cap ≤ maxLen) (h : 0 < bs.length → NewsOf w A (bs.map encB)) : BytesAt w (.slice A bs.length cap) bs := by
  refine ⟨A, cap, rfl, h1, h2, fun h0 => ?_⟩
  obtain ⟨g, off, rfl, hc⟩ := h h0
  refine ⟨g, off, rfl, fun i hi => hc i _ ?_⟩
  simp [hi, encB]
theorem BytesAt.of_row {w : World} {B e n : Nat} {v : Value} {bs : List UInt8} (h : w.ownsRow B e 1 v n (bs.map encB)) : BytesAt w v bs := by
  have hn : bs.length = n := by have := h.1; simpa using this
  subst hn
  obtain ⟨A, cap, rfl, h1, h2, h3⟩ := row_open h
  refine BytesAt.of_news h1 h2 fun h0 => ?_
  obtain ⟨g, rfl, _, _, _, hc⟩ := h3 h0
  refine ⟨g, 0, rfl, fun j u hj => ?_⟩
  have hj' : j < bs.length := by have := (List.getElem?_eq_some_iff.1 hj).1; simpa using this
  rw [Nat.zero_add, hc j (by omega)]; exact hj
theorem BytesAt.frm {S : Nat → Prop} {w w' : World} {v : Value} {bs : List UInt8} (h : BytesAt w v bs) (hF : Frm S w w') (hS : ∀ k, v.ownBlock = some k → ¬ S k) : BytesAt w' v bs := by
  obtain ⟨A, cap, rfl, h1, h2, h3⟩ := h.open_
  exact .of_news h1 h2 fun h0 => (h3 h0).frm hF (fun g o e => hS g (by rw [e]; rfl))
theorem BytesAt.grow {w w' : World} {v : Value} {bs : List UInt8} (h : BytesAt w v bs) (hF : Frm (fun _ => False) w w') : BytesAt w' v bs := h.frm hF (fun _ _ h => h)
theorem empty_row (w : World) (e size B : Nat) (hB : B ≤ w.heap.size) : (w.alloc (.cells #[] e)).ownsRow B e size (.slice (some ⟨w.heap.size, 0, none⟩) 0 0) 0 [] := row_new rfl (by simp) rfl (by decide) hB

end Go.Proofs.Ytemjdmgfilbfaaa
